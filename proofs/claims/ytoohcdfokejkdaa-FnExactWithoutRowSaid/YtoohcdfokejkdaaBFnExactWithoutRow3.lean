/- The statement FnExactWithoutRow of the seat, out of its plain form (FnExactWithoutRow_pure) and the walk of its Go function. Part 3 of 3: each Go function's walk, then the plain lemmas, then the row. No condition: it holds for every input. -/
import Derived.Test.YtoohcdfokejkdaaBFnExactWithoutRow2
import Derived.Test.YtoohcdfokejkdaaRows
import Derived.Below
import Derived.ChangeOld
import Derived.OpenShut
import Derived.ProofKit
import Derived.ShutString
import Derived.SizedLaws
import Derived.WalkKit
namespace Go.Proofs.Ytoohcdfokejkdaa.P
open Go.RowKit Go.Proofs.YtoohcdfokejkdaaW.PrintWords Go.Proofs.Ytoohcdfokejkdaa.Sup
set_option linter.unusedVariables false
set_option linter.unusedSimpArgs false

def sumAbs : List Int → Nat
  | [] => 0
  | x :: t => x.natAbs + sumAbs t
theorem sumAbs_nil : sumAbs [] = 0 := rfl
theorem sumAbs_cons (x : Int) (t : List Int) : sumAbs (x :: t) = x.natAbs + sumAbs t := rfl
def small (x : Int) : Bool := decide (-16 ≤ x ∧ x ≤ 16)
def rowOk (n : Nat) (row : List Int) : Bool := decide (row.length = n) && row.all small && decide (sumAbs row ≤ 16)
def squareOk (m : List (List Int)) : Bool := decide (m.length ≤ 16) && m.all (rowOk m.length)
theorem mx_abs {x : Int} (h : small x = true) : mx x (wrap64 (-x)) = (x.natAbs : Int) := by
  have := of_decide_eq_true h
  rw [wrap64_id (by omega) (by omega)]
  unfold mx
  split <;> omega
theorem spec_row (m : List (List Int)) (hm : m.length ≤ 1048576) (i : Nat) (hi : i < m.length) (hrow : (m[i]).length = m.length) (r : Bool) (hk : Ev (fun k => spec_SquareOk.l0 k m ((i + 1 : Nat) : Int)) r) :
    ∀ (d j acc : Nat), m.length - j = d → j ≤ m.length → acc ≤ 16 * j →
      Ev (fun k => spec_SquareOk.l1 k m i acc j) (((m[i]).drop j).all small && (decide (acc + sumAbs ((m[i]).drop j) ≤ 16) && r))
  | 0, j, acc, hd, hj, hacc => by
    refine Ev.step (fun _ => spec_SquareOk.l1.eq_2 ..) ?_
    refine Ev.ff (by omega) ?_
    rw [List.drop_eq_nil_of_le (by omega), wsucc (by omega)]
    rw [List.all_nil, sumAbs_nil, Bool.true_and]
    by_cases h : acc ≤ 16
    · rw [decide_eq_true (show acc + 0 ≤ 16 from h), Bool.true_and]; exact Ev.ff (by omega) hk
    · rw [decide_eq_false (show ¬ acc + 0 ≤ 16 from h), Bool.false_and]; exact Ev.tt (by omega) (Ev.ret rfl)
  | d + 1, j, acc, hd, hj, hacc => by
    have hjl : j < (m[i]).length := by omega
    refine Ev.step (fun _ => spec_SquareOk.l1.eq_2 ..) ?_
    rw [rdL_get hi, rd_get hjl, List.drop_eq_getElem_cons hjl]
    refine Ev.tt (by omega) (Ev.tt (by omega) (Ev.tt (by omega) (Ev.tt (by omega) (Ev.tt (by omega) ?_))))
    refine Ev.bnd0 (l01In_eq _ _ _) ?_
    rw [List.all_cons, sumAbs_cons]
    by_cases hs : small (m[i])[j] = true
    · refine Ev.tt hs ?_
      have hb := of_decide_eq_true hs
      rw [mx_abs hs, wsucc (by omega), show ((acc : Int) + ((m[i])[j].natAbs : Int)) = ((acc + (m[i])[j].natAbs : Nat) : Int) by omega, wrap64_id (by omega) (by omega)]
      refine Ev.eq (spec_row m hm i hi hrow r hk d (j + 1) (acc + (m[i])[j].natAbs) (by omega) (by omega) (by omega)) ?_
      rw [hs, Bool.true_and, Nat.add_assoc]
    · refine Ev.ff hs (Ev.ret ?_)
      simp [hs]
theorem spec_rows (m : List (List Int)) (hm : m.length ≤ 1048576) : ∀ (d i : Nat), m.length - i = d → i ≤ m.length →
      Ev (fun k => spec_SquareOk.l0 k m i) (decide (m.length ≤ 16) && (m.drop i).all (rowOk m.length))
  | 0, i, hd, hi => by
    refine Ev.step (fun _ => spec_SquareOk.l0.eq_2 ..) ?_
    refine Ev.ff (by omega) (Ev.ret ?_)
    rw [List.drop_eq_nil_of_le (by omega)]
    simp
    omega
  | d + 1, i, hd, hi => by
    have hil : i < m.length := by omega
    refine Ev.step (fun _ => spec_SquareOk.l0.eq_2 ..) ?_
    refine Ev.tt (by omega) (Ev.tt (by omega) ?_)
    rw [List.drop_eq_getElem_cons hil, rdL_get hil, List.all_cons]
    have ih := spec_rows m hm d (i + 1) (by omega) (by omega)
    by_cases hr : (m[i]).length = m.length
    · refine Ev.tt (by omega) ?_
      refine Ev.eq (spec_row m hm i hil hr _ ih m.length 0 0 (by omega) (by omega) (by omega)) ?_
      simp only [List.drop_zero, Nat.zero_add, rowOk, hr, decide_true, Bool.true_and]
      by_cases h1 : (m[i]).all small = true <;> by_cases h2 : sumAbs m[i] ≤ 16 <;> simp [h1, h2]
    · refine Ev.ff (by omega) (Ev.ret ?_)
      simp [rowOk, hr]
theorem spec_SquareOk_ev (m : List (List Int)) (hm : m.length ≤ 1048576) : Ev (fun k => spec_SquareOk.f k m) (squareOk m) := by
  unfold spec_SquareOk.f
  exact spec_rows m hm m.length 0 (by omega) (by omega)
theorem impl_row (m : List (List Int)) (row : List Int) (h16 : row.length ≤ 16) (i : Nat) (hi : i < m.length) (hm : m.length ≤ 1048576) (r : Bool) (hk : Ev (fun k => impl_SquareOk.l0 k m m (m.length : Int) ((i + 1 : Nat) : Int)) r) :
    ∀ (d j acc : Nat), row.length - j = d → j ≤ row.length → acc ≤ 16 * j →
      Ev (fun k => impl_SquareOk.l1 k m acc m (m.length : Int) i row (row.length : Int) j) ((row.drop j).all small && (decide (acc + sumAbs (row.drop j) ≤ 16) && r))
  | 0, j, acc, hd, hj, hacc => by
    refine Ev.step (fun _ => impl_SquareOk.l1.eq_2 ..) ?_
    refine Ev.ff (by omega) ?_
    rw [List.drop_eq_nil_of_le (by omega), wsucc (by omega)]
    rw [List.all_nil, sumAbs_nil, Bool.true_and]
    by_cases h : acc ≤ 16
    · rw [decide_eq_true (show acc + 0 ≤ 16 from h), Bool.true_and]; exact Ev.ff (by omega) hk
    · rw [decide_eq_false (show ¬ acc + 0 ≤ 16 from h), Bool.false_and]; exact Ev.tt (by omega) (Ev.ret rfl)
  | d + 1, j, acc, hd, hj, hacc => by
    have hjl : j < row.length := by omega
    refine Ev.step (fun _ => impl_SquareOk.l1.eq_2 ..) ?_
    rw [rd_get hjl, List.drop_eq_getElem_cons hjl]
    refine Ev.tt (by omega) (Ev.tt (by omega) (Ev.tt (by omega) ?_))
    rw [List.all_cons, sumAbs_cons]
    by_cases hs : small row[j] = true
    · have hb := of_decide_eq_true hs
      refine Ev.ff (by omega) (Ev.ff (by omega) ?_)
      rw [mx_abs hs, wsucc (by omega), show ((acc : Int) + (row[j].natAbs : Int)) = ((acc + row[j].natAbs : Nat) : Int) by omega, wrap64_id (by omega) (by omega)]
      refine Ev.eq (impl_row m row h16 i hi hm r hk d (j + 1) (acc + row[j].natAbs) (by omega) (by omega) (by omega)) ?_
      rw [hs, Bool.true_and, Nat.add_assoc]
    · have hb : ¬ (-16 ≤ row[j] ∧ row[j] ≤ 16) := fun h => hs (decide_eq_true h)
      rw [Bool.not_eq_true] at hs
      rw [hs, Bool.false_and, Bool.false_and]
      by_cases h1 : row[j] < -16
      · exact Ev.tt h1 (Ev.ret rfl)
      · exact Ev.ff h1 (Ev.tt (by omega) (Ev.ret rfl))
theorem impl_rows (m : List (List Int)) (hm : m.length ≤ 1048576) : ∀ (d i : Nat), m.length - i = d → i ≤ m.length →
      Ev (fun k => impl_SquareOk.l0 k m m (m.length : Int) i) ((m.drop i).all fun row => decide (row.length ≤ 16) && rowOk m.length row)
  | 0, i, hd, hi => by
    refine Ev.step (fun _ => impl_SquareOk.l0.eq_2 ..) ?_
    refine Ev.ff (by omega) (Ev.ret ?_)
    rw [List.drop_eq_nil_of_le (by omega)]
    simp
  | d + 1, i, hd, hi => by
    have hil : i < m.length := by omega
    refine Ev.step (fun _ => impl_SquareOk.l0.eq_2 ..) ?_
    refine Ev.tt (by omega) (Ev.tt (by omega) (Ev.tt (by omega) ?_))
    rw [List.drop_eq_getElem_cons hil, rdL_get hil, List.all_cons]
    have ih := impl_rows m hm d (i + 1) (by omega) (by omega)
    by_cases hr : (m[i]).length = m.length
    · refine Ev.tt (by omega) ?_
      refine Ev.step (fun _ => impl_SquareOk.j1.eq_2 ..) ?_
      by_cases h16 : (m[i]).length ≤ 16
      · refine Ev.ff (by simp; omega) ?_
        refine Ev.eq (impl_row m m[i] h16 i hil hm _ ih (m[i]).length 0 0 (by omega) (by omega) (by omega)) ?_
        simp only [List.drop_zero, Nat.zero_add, rowOk, hr, decide_true, Bool.true_and]
        rw [hr] at h16
        by_cases h1 : (m[i]).all small = true <;> by_cases h2 : sumAbs m[i] ≤ 16 <;> simp [h1, h2, h16]
      · refine Ev.tt (by simp; omega) (Ev.ret ?_)
        simp [h16]
    · refine Ev.ff (by omega) ?_
      refine Ev.step (fun _ => impl_SquareOk.j1.eq_2 ..) ?_
      refine Ev.tt rfl (Ev.ret ?_)
      simp [rowOk, hr]
theorem impl_SquareOk_ev (m : List (List Int)) (hm : m.length ≤ 1048576) : Ev (fun k => impl_SquareOk.f k m) (squareOk m) := by
  unfold impl_SquareOk.f
  refine Ev.eq (impl_rows m hm m.length 0 (by omega) (by omega)) ?_
  rw [List.drop_zero]
  unfold squareOk
  rw [Bool.eq_iff_iff]
  simp only [List.all_eq_true, Bool.and_eq_true, decide_eq_true_eq]
  constructor
  · intro h
    refine ⟨?_, fun x hx => (h x hx).2⟩
    cases m with
    | nil => simp
    | cons a t =>
      obtain ⟨h1, h2⟩ := h a List.mem_cons_self
      have h3 : a.length = (a :: t).length := by
        simp only [rowOk, Bool.and_eq_true, decide_eq_true_eq] at h2
        exact h2.1.1
      omega
  · rintro ⟨h1, h2⟩ x hx
    refine ⟨?_, h2 x hx⟩
    have h3 := h2 x hx
    simp only [rowOk, Bool.and_eq_true, decide_eq_true_eq] at h3
    omega
end Go.Proofs.Ytoohcdfokejkdaa.P
namespace Go.Proofs.Ytoohcdfokejkdaa.P
open Go.RowKit Go.Proofs.YtoohcdfokejkdaaW.PrintWords Go.Proofs.YtoohcdfokejkdaaW.PrintLast Go.Proofs.YtoohcdfokejkdaaW.PrintMore
attribute [local go_sem] max2_int min2_int max_two min_two max_three min_three max_four min_four   -- for this text's walks alone
set_option linter.unusedVariables false
set_option linter.unusedSimpArgs false

/-! ### slices_ContainsFunc_int_int: function 121 -/
/-! ### impl_isIn: function 108 -/
/-! ### spec_l04Has: function 131 -/
/-! ### impl_upTo: function 111 -/
end Go.Proofs.Ytoohcdfokejkdaa.P
namespace Go.Proofs.Ytoohcdfokejkdaa.P
open Go.RowKit Go.Proofs.YtoohcdfokejkdaaW.PrintWords
set_option linter.unusedVariables false
set_option linter.unusedSimpArgs false

/-- i, i + 1, .. : d of them. -/
def run (i d : Nat) : List Int := (List.range d).map fun t => ((i + t : Nat) : Int)
end Go.Proofs.Ytoohcdfokejkdaa.P
namespace Go.Proofs.Ytoohcdfokejkdaa.P
open Go.RowKit Go.Proofs.YtoohcdfokejkdaaW.PrintWords Go.Proofs.YtoohcdfokejkdaaW.PrintLast Go.Proofs.YtoohcdfokejkdaaW.PrintMore
attribute [local go_sem] max2_int min2_int max_two min_two max_three min_three max_four min_four   -- for this text's walks alone
set_option linter.unusedVariables false
set_option linter.unusedSimpArgs false

/-! ### impl_Reached: function 81 -/
/-! ### spec_Reached: function 128 -/
/-! ### impl_CountParts: function 107 -/
/-! ### spec_CountParts: function 126 -/
/-! ### impl_LaplaceOf: function 30 -/
/-! ### spec_LaplaceOf: function 28 -/
end Go.Proofs.Ytoohcdfokejkdaa.P
namespace Go.Proofs.Ytoohcdfokejkdaa.P
open Go.RowKit Go.Proofs.YtoohcdfokejkdaaW.PrintWords
set_option linter.unusedVariables false
set_option linter.unusedSimpArgs false

section
variable {w h : Int} {n : Nat} (hg : gridOk w h = true) (hn : n < 2 ^ gapsN w h)
include hg hn
end
/-- A square matrix without a row and a column; nothing where there is none. -/
def withoutI (m : List (List Int)) (r : Int) : List (List Int) := if squareOk m = true ∧ 0 ≤ r ∧ r < m.length then minorL m r.toNat else []
theorem square_all {m : List (List Int)} (h : squareOk m = true) : m.length ≤ 16 ∧ ∀ row ∈ m, row.length = m.length := by
  unfold squareOk at h
  rw [Bool.and_eq_true, decide_eq_true_eq, List.all_eq_true] at h
  refine ⟨h.1, fun row hr => ?_⟩
  have := h.2 row hr
  unfold rowOk at this
  simp only [Bool.and_eq_true, decide_eq_true_eq] at this
  exact this.1.1
theorem impl_WithoutRow_ev (m : List (List Int)) (hm : m.length ≤ 1048576) (r : Int) : Ev (fun k => impl_WithoutRow.f k m r) (withoutI m r) := by
  unfold impl_WithoutRow.f withoutI
  refine Ev.bind (impl_SquareOk_ev m hm) (Ev.ite (fun e => Ev.ite (fun e1 => ?_) (fun e1 => Ev.ite (fun e2 => ?_) (fun e2 => ?_))) (fun e => ?_))
  · rw [if_neg (by omega)]; exact Ev.ret rfl
  · rw [if_neg (by omega)]; exact Ev.ret rfl
  · obtain ⟨q1, q2⟩ := square_all e
    obtain ⟨x, rfl⟩ := Int.eq_ofNat_of_zero_le (show 0 ≤ r by omega)
    rw [if_pos ⟨e, by omega, by omega⟩, Int.toNat_natCast]
    exact Ev.bind (without_ev m x hm fun row hr => by have := q2 row hr; omega) (Ev.ret rfl)
  · rw [if_neg fun q => e q.1]; exact Ev.ret rfl
theorem swr_l0 (m : List (List Int)) (r : Nat) (hm : m.length ≤ 1048576) (hrow : ∀ row ∈ m, r < row.length ∧ row.length ≤ 1048576) : ∀ (d i : Nat), i + d = m.length →
    Ev (fun k => spec_WithoutRow.l0 k m r (minorL (m.take i) r) i) (minorL m r)
  | 0, i, hd => by
    refine Ev.step (fun _ => spec_WithoutRow.l0.eq_2 ..) (Ev.ff (by omega) (Ev.ret ?_))
    rw [List.take_of_length_le (by omega)]
  | d + 1, i, hd => by
    have hi : i < m.length := by omega
    have ht : m.take (i + 1) = m.take i ++ [m[i]] := by rw [List.take_succ_eq_append_getElem hi]
    have hl : (m.take i).length = i := by rw [List.length_take]; omega
    have hle := minor_len_le (m.take i) r
    obtain ⟨q1, q2⟩ := hrow _ (List.getElem_mem hi)
    have ih := swr_l0 m r hm hrow d (i + 1) (by omega)
    rw [ht, minor_snoc, hl] at ih
    refine Ev.step (fun _ => spec_WithoutRow.l0.eq_2 ..) (Ev.tt (by omega) ?_)
    rw [wsucc (show i < 4611686018427387904 by omega)]
    refine Ev.ite (fun e => ?_) (fun e => Ev.bnd0 rfl ?_)
    · have er : r = i := by omega
      rw [if_pos er] at ih
      have : minorL (m.take i) r = (m.take i).map fun row => row.eraseIdx r := by
        unfold minorL
        rw [List.eraseIdx_of_length_le (by omega)]
      rw [this]
      exact ih
    · rw [if_neg (by omega)] at ih
      rw [rdL_get hi, wsucc (show r < 4611686018427387904 by omega), Int.toNat_natCast, Int.toNat_natCast]
      refine Ev.tt (by omega) (Ev.tt (by omega) (Ev.tt (by omega) (Ev.tt (by simp only [List.length_nil, List.length_take]; omega) (Ev.bnd0 rfl (Ev.tt (by omega) (Ev.tt (by omega) (Ev.tt (by simp only [List.nil_append, List.length_take, List.length_drop]; omega) (Ev.tt (by omega) ?_))))))))
      rw [List.nil_append, ← List.eraseIdx_eq_take_drop_succ]
      exact ih
theorem spec_WithoutRow_ev (m : List (List Int)) (hm : m.length ≤ 1048576) (r : Int) : Ev (fun k => spec_WithoutRow.f k m r) (withoutI m r) := by
  unfold spec_WithoutRow.f withoutI
  have hbad : ¬ (squareOk m = true ∧ 0 ≤ r ∧ r < m.length) → Ev (fun k => spec_WithoutRow.j0 k m r [] true) (if squareOk m = true ∧ 0 ≤ r ∧ r < m.length then minorL m r.toNat else []) := by
    intro hc
    rw [if_neg hc]
    exact Ev.step (fun _ => spec_WithoutRow.j0.eq_2 ..) (Ev.tt rfl (Ev.ret rfl))
  refine Ev.bnd0 rfl (Ev.bind (spec_SquareOk_ev m hm) (Ev.ite (fun e => Ev.bnd0 (l01In_eq _ _ _) ?_) (fun e => hbad fun q => e q.1)))
  rw [wrap64_id (by omega) (by omega)]
  by_cases e1 : 0 ≤ r ∧ r ≤ (m.length : Int) - 1
  · obtain ⟨q1, q2⟩ := square_all e
    obtain ⟨x, rfl⟩ := Int.eq_ofNat_of_zero_le e1.1
    rw [decide_eq_true e1, if_pos ⟨e, by omega, by omega⟩, Int.toNat_natCast]
    refine Ev.step (fun _ => spec_WithoutRow.j0.eq_2 ..) (Ev.ff (by simp) ?_)
    have := swr_l0 m x hm (fun row hr => by have := q2 row hr; omega) m.length 0 (by omega)
    rwa [List.take_zero, show minorL [] x = [] by simp [minorL]] at this
  · rw [decide_eq_false e1]
    exact hbad fun q => e1 (by omega)
end Go.Proofs.Ytoohcdfokejkdaa.P
namespace Go.Proofs.Ytoohcdfokejkdaa.P
open Go.RowKit Go.Proofs.YtoohcdfokejkdaaW.PrintWords
set_option linter.unusedVariables false
set_option linter.unusedSimpArgs false

theorem markSS_l0 : ∀ (d i m : Nat) (l : List (List Int)), i + d = l.length → l.length ≤ 1000 → (∀ row ∈ l, row.length ≤ 1000) → m + 1000 * d ≤ 10000000 →
    ∃ (q : Nat) (M : List (List Int)), M.length = l.length ∧ (∀ j, j < i → M[j]? = l[j]?) ∧ Ev (fun k => laws_markIntSS.l0 k l m i) ((q : Int), M) ∧ Ev (fun k => laws_heldIntSS.l0 k M m i) (q : Int)
  | 0, i, m, l, hd, hl, hr, hm => ⟨m, l, rfl, fun _ _ => rfl, Ev.step (fun _ => laws_markIntSS.l0.eq_2 ..) (Ev.ff (by omega) (Ev.ret rfl)), Ev.step (fun _ => laws_heldIntSS.l0.eq_2 ..) (Ev.ff (by omega) (Ev.ret rfl))⟩
  | d + 1, i, m, l, hd, hl, hr, hm => by
    have hi : i < l.length := by omega
    have hri := hr _ (List.getElem_mem hi)
    have hset : (l.set i (marks m l[i].length)).length = l.length := by simp
    obtain ⟨q, M, h1, h2, h3, h4⟩ := markSS_l0 d (i + 1) (m + l[i].length) (l.set i (marks m l[i].length)) (by omega) (by omega) (fun row hrow => by
      rcases List.mem_or_eq_of_mem_set hrow with h | h
      · exact hr row h
      · rw [h, marks_length]; exact hri) (by omega)
    refine ⟨q, M, by omega, fun j hj => ?_, ?_, ?_⟩
    · rw [h2 j (by omega), List.getElem?_set_ne (by omega)]
    · refine Ev.step (fun _ => laws_markIntSS.l0.eq_2 ..) (Ev.tt (by omega) (Ev.tt (by omega) ?_))
      rw [rdL_get hi, wsucc (by omega), Int.toNat_natCast]
      have hmk : Ev (fun k => laws_markIntS.f k l[i] (m : Int)) (((m + l[i].length : Nat) : Int), marks m l[i].length) := by
        unfold laws_markIntS.f
        have := markIntS_l0 l[i].length 0 m l[i] (by omega) (by omega) (by omega) (by omega)
        simpa using this
      exact Ev.bind hmk h3
    · have hiM : i < M.length := by omega
      have hMi : M[i] = marks m l[i].length := by
        have := h2 i (by omega)
        rw [List.getElem?_eq_getElem hiM, List.getElem?_set_self hi] at this
        exact Option.some.inj this
      refine Ev.step (fun _ => laws_heldIntSS.l0.eq_2 ..) (Ev.tt (by omega) (Ev.tt (by omega) ?_))
      rw [rdL_get hiM, hMi, wsucc (by omega)]
      have hhd : Ev (fun k => laws_heldIntS.f k (marks m l[i].length) (m : Int)) ((m + l[i].length : Nat) : Int) := by
        unfold laws_heldIntS.f
        exact heldIntS_l0 l[i].length 0 m (marks m l[i].length) (by simp [marks_length]) (by omega) (by rw [marks_length]; omega) (by omega) (by simp)
      exact Ev.bind hhd (Ev.ff (by omega) h4)
theorem markSS_ev (l : List (List Int)) (hl : l.length ≤ 1000) (hr : ∀ row ∈ l, row.length ≤ 1000) : ∃ (q : Nat) (M : List (List Int)), M.length = l.length ∧ Ev (fun k => laws_markIntSS.f k l 1) ((q : Int), M) ∧ Ev (fun k => laws_heldIntSS.f k M 1) (q : Int) := by
  obtain ⟨q, M, h1, _, h3, h4⟩ := markSS_l0 l.length 0 1 l (by omega) hl hr (by omega)
  exact ⟨q, M, h1, h3, h4⟩
end Go.Proofs.Ytoohcdfokejkdaa.P
namespace Go.Proofs.Ytoohcdfokejkdaa.P
open Go.RowKit Go.Proofs.YtoohcdfokejkdaaW.PrintWords Go.Proofs.Ytoohcdfokejkdaa.Sup
set_option linter.unusedVariables false
set_option linter.unusedSimpArgs false

theorem markBig_l0 : ∀ (d i m : Nat) (l : List (List Int)), i + d = l.length → l.length ≤ 1048576 → (∀ row ∈ l, row.length ≤ 1048576) → m + 1048576 * d ≤ 1099511627777 →
    ∃ (q : Nat) (M : List (List Int)), Ev (fun k => laws_markIntSS.l0 k l m i) ((q : Int), M)
  | 0, i, m, l, hd, hl, hr, hm => ⟨m, l, Ev.step (fun _ => laws_markIntSS.l0.eq_2 ..) (Ev.ff (by omega) (Ev.ret rfl))⟩
  | d + 1, i, m, l, hd, hl, hr, hm => by
    have hi : i < l.length := by omega
    have hri := hr _ (List.getElem_mem hi)
    have hset : (l.set i (marks m l[i].length)).length = l.length := by simp
    obtain ⟨q, M, h3⟩ := markBig_l0 d (i + 1) (m + l[i].length) (l.set i (marks m l[i].length)) (by omega) (by omega) (fun row hrow => by
      rcases List.mem_or_eq_of_mem_set hrow with h | h
      · exact hr row h
      · rw [h, marks_length]; exact hri) (by omega)
    refine ⟨q, M, Ev.step (fun _ => laws_markIntSS.l0.eq_2 ..) (Ev.tt (by omega) (Ev.tt (by omega) ?_))⟩
    rw [rdL_get hi, wsucc (by omega), Int.toNat_natCast]
    have hmk : Ev (fun k => laws_markIntS.f k l[i] (m : Int)) (((m + l[i].length : Nat) : Int), marks m l[i].length) := by
      unfold laws_markIntS.f
      have := markIntS_l0 l[i].length 0 m l[i] (by omega) (by omega) (by omega) (by omega)
      simpa using this
    exact Ev.bind hmk h3
theorem withoutI_small (m : List (List Int)) (r : Int) : (withoutI m r).length ≤ 16 ∧ ∀ row ∈ withoutI m r, row.length ≤ 16 := by
  unfold withoutI
  split
  · rename_i h
    obtain ⟨h1, h2⟩ := square_all h.1
    unfold minorL
    refine ⟨?_, ?_⟩
    · simp only [List.length_map]
      have := List.length_eraseIdx_le m r.toNat
      omega
    · intro row hr
      obtain ⟨a, ha, rfl⟩ := List.mem_map.1 hr
      have := h2 a (List.mem_of_mem_eraseIdx ha)
      have := List.length_eraseIdx_le a r.toNat
      omega
  · exact ⟨by simp, by simp⟩
theorem FnExactWithoutRow_pure (l : List (List Int)) (hy : l.length ≤ 140737488351232) (hz : ∀ row ∈ l, row.length ≤ 9223372036854775807 ∧ ∀ x ∈ row, InR x) (a1 : Int) (wa1 : InR a1) : ∃ k, laws_FnExactWithoutRow.f k l a1 = some true := by
  refine Ev.rounds ?_
  unfold laws_FnExactWithoutRow.f
  refine Ev.bind (szIntSS_ev l hy (fun row h => (hz row h).1)) ?_
  by_cases h : l.length + lens l ≤ 1048576
  · rw [if_pos h]
    have hr : ∀ row ∈ l, row.length ≤ 1048576 := fun row hrow => by have := row_le_lens hrow; omega
    obtain ⟨g1, g2⟩ := withoutI_small l a1
    have hi := impl_WithoutRow_ev l (by omega) a1
    have hs := spec_WithoutRow_ev l (by omega) a1
    generalize withoutI l a1 = g at *
    obtain ⟨q, M, hM, hm, hh⟩ := markSS_ev g (by omega) (fun row hr => by have := g2 row hr; omega)
    obtain ⟨q2, M2, hm2⟩ := markBig_l0 l.length 0 1 l (by omega) (by omega) hr (by omega)
    have hmk : Ev (fun k => laws_markIntSS.f k l 1) ((q2 : Int), M2) := hm2
    refine Ev.ff (by omega) (Ev.bind (toIntSS_ev l (by omega) hr) (Ev.bind hs (Ev.bind hi (Ev.bind (eqIntSS_ev g g (by omega) (fun row hr => by have := g2 row hr; omega)) (Ev.bind (eqIntSS_ev l l (by omega) hr) (Ev.bind hmk (Ev.bind hm (Ev.bind hh (Ev.tt ?_ (Ev.ret rfl)))))))))) 
    exact ⟨by simp, by simp, by omega, by omega, rfl, hM⟩
  · rw [if_neg h]
    exact Ev.tt (by omega) (Ev.ret rfl)
end Go.Proofs.Ytoohcdfokejkdaa.P
namespace Go.Proofs.Ytoohcdfokejkdaa.fnExactWithoutRow
open Go.ChangeShapes Go.WideShapes Go.ChangeAt Go.RowKit Go.Proofs.YtoohcdfokejkdaaW.PrintWords Go.Proofs.Ytoohcdfokejkdaa.Sup
open Go.ChangeMaps (open_string shut_string)
set_option linter.unusedVariables false
theorem own : ownKnob Try.prog.godebug = none := by kernel_rfl
theorem laidOut : laidOutB Try.prog = true := by kernel_rfl
set_option maxRecDepth 100000 in
theorem lifted (os : Os) (started : os.Started) (H : Type) (enc : TypeId × Value → H) :
    ReturnsInHanded {} Try.checked os 4 .any (Rows.fnExactWithoutRowSpec.pre6 enc Try.prog Try.f4 Rows.fnExactWithoutRowRow.domain false) (Rows.fnExactWithoutRowSpec.post enc Try.prog Try.f4 false true false false) := by
  refine returnsInHanded_of_change_sized (C := Try.checked) own started (by kernel_rfl) Try.func4
    (ChangeSpec.witness6 (enc := enc) (C := Try.checked) false ⟨#[], #[.slice none 0 0, .int .i64 0], []⟩ 8 (by kernel_rfl) (by kernel_rfl) (by kernel_rfl) (by kernel_rfl)) ?_
  intro W base args ds gs before hval0 hW hcnd hsz0 _
  have hsz : (DataW.weightsEach Try.prog (Try.f4.params.toList ++ Rows.fnExactWithoutRowSpec.plain.varTypes Try.prog) (ds ++ gs)).all (· ≤ reachBytes) = true := hsz0
  have hval : ∀ (j : Nat) t v, Try.f4.params[j]? = some t → args[j]? = some v → Value.okWide Try.prog W .any base t v := hval0
  have hW' := hW
  obtain ⟨p, q, hA0, hV, rfl, hfz, hnd⟩ := hW
  have hA : DataW.TrodAll enc Try.prog W 0 (fun _ => true) true Try.f4.params.toList args.toList ds p := hA0
  rw [Try.params4] at hA hval hsz
  obtain ⟨v0, vs0, d0, ds0, p0, q0, hargs, rfl, rfl, h0, r0⟩ := trodAll_cons hA
  obtain ⟨v1, vs1, d1, ds1, p1, q1, rfl, rfl, rfl, h1, r1⟩ := trodAll_cons r0
  obtain ⟨rfl, rfl, rfl⟩ := trodAll_nil r1
  obtain rfl : args = #[v0, v1] := by cases args; simp_all
  obtain ⟨rfl, rfl⟩ := trodVars_none hV
  obtain ⟨a0, len0, cap0, rfl⟩ := okWide_slice Try.underlying24 (hval 0 24 v0 rfl rfl)
  have k0 := h0
  have lt0 : ∀ x ∈ p0, x.block < W.heap.size := by obtain ⟨m, hm⟩ := k0; exact DataW.trod_lt m _ _ _ hm
  obtain ⟨l0, rfl, hr0, hc0, hy0, hz0⟩ := open_rows Try.underlying24 Try.underlying29 Try.underlying3 (by kernel_rfl) (by kernel_rfl) hsz (B := 24) (by kernel_rfl) (by decide) (j := 0) (t := 24) rfl rfl h0
  have k1 := h1
  have lt1 : ∀ x ∈ p1, x.block < W.heap.size := by obtain ⟨m, hm⟩ := k1; exact DataW.trod_lt m _ _ _ hm
  obtain ⟨a1, rfl, rfl, rfl, w1⟩ := open_int Try.underlying3 (hval 1 3 v1 rfl rfl) h1
  clear hA0 hval0 hsz0 hsz
  obtain ⟨k, hf⟩ := P.FnExactWithoutRow_pure l0 hy0 hz0 a1 (inR_of_wf w1)
  refine (P.laws_FnExactWithoutRow.calls k _ _ l0 a1 true W hr0 hc0 hf).mono fun e W' ⟨he, bel0⟩ => ?_
  have bel : Below W.heap.size W W' := bel0
  subst he
  exact ⟨_, rfl, _, _, _, [], _, [], hW', trodAll_mk1 (shut_bool Try.underlying4 _), (trodAll_cons_mk (Below.trod laidOut (by kernel_rfl) (of_decide_eq_true (by kernel_rfl)) k0 bel lt0) (trodAll_cons_mk (Below.trod laidOut (by kernel_rfl) (of_decide_eq_true (by kernel_rfl)) k1 bel lt1) trodAll_mk0)), rfl, bel.frame _, fun h => by cases h⟩
theorem over : Rows.fnExactWithoutRowRow.holds Try.pinned (OpenSpec.ofChange Rows.fnExactWithoutRowSpec) :=
  OpenClaim.holds_of_wide 4 Try.f4 rfl rfl rfl rfl rfl rfl rfl ⟨rfl, rfl, rfl, rfl, rfl⟩ rfl rfl rfl rfl rfl (by kernel_rfl) Try.func4 (by kernel_rfl)
    (of_decide_eq_true (by kernel_rfl)) (by unfold Func.isWrapper; first | (rw [if_pos (by decide +kernel)]; kernel_rfl) | (rw [if_neg (by decide +kernel)]; exact ⟨rfl, rfl⟩))
    (fun os started H enc _ => lifted os started H enc)
theorem proved : Rows.FnExactWithoutRowSaid := over
end Go.Proofs.Ytoohcdfokejkdaa.fnExactWithoutRow
namespace Go.Proofs.Ytoohcdfokejkdaa
/-- The row, under a short name, for the claim. -/
theorem fnExactWithoutRow_holds : Rows.FnExactWithoutRowSaid := fnExactWithoutRow.proved
#print axioms fnExactWithoutRow_holds
end Go.Proofs.Ytoohcdfokejkdaa
