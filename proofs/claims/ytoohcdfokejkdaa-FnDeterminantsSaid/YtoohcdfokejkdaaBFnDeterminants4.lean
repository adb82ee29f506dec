/- The statement FnDeterminants of the seat, out of its plain form (FnDeterminants_pure) and the walk of its Go function. Part 4 of 4: each Go function's walk, then the plain lemmas, then the row. No condition: it holds for every input. -/
import Derived.Test.YtoohcdfokejkdaaBFnDeterminants3
import Derived.Test.YtoohcdfokejkdaaRows
import Derived.Below
import Derived.ChangeOld
import Derived.Deep.Matrix
import Derived.Lib.SmallJoins
import Derived.OpenShut
import Derived.ProofKit
import Derived.ShutString
import Derived.SizedLaws
import Derived.WalkKit
namespace Go.Proofs.Ytoohcdfokejkdaa.Sup
open Go.ChangeShapes Go.WideShapes Go.ChangeAt Go.RowKit Go.Joins Go.Proofs.YtoohcdfokejkdaaW.PrintWords
set_option linter.unusedVariables false
set_option linter.unusedSimpArgs false

theorem u8_of_wf {a : Int} (h : (Lit.int .u8 a).wf = true) : 0 ≤ a ∧ a ≤ 255 := by
  simp only [Lit.wf, IntKind.min, IntKind.max, IntKind.signed, IntKind.bits, Bool.and_eq_true, decide_eq_true_eq] at h
  simp at h
  omega

section
variable {H : Type} {enc : TypeId × Value → H} {P : Program} {w : World} {base : Nat} {spare : Nat → Bool} {held : Bool}

end

def IsRow (k : IntKind) (w : World) (a : Option Addr) (len cap : Nat) (zs : List Int) : Prop :=
  (a = none ∧ len = 0 ∧ cap = 0 ∧ zs = []) ∨
  ∃ x, a = some x ∧ len ≤ cap ∧ cap ≤ maxLen ∧ zs.length = cap ∧ (∀ i, i < zs.length → w.cell? (x.add i) = some (.int k (zs.getD i 0))) ∧ ∀ n ∈ zs, (Lit.int k n).wf = true

end Go.Proofs.Ytoohcdfokejkdaa.Sup
namespace Go.Proofs.Ytoohcdfokejkdaa.P
open Go.RowKit Go.Proofs.YtoohcdfokejkdaaW.PrintWords Go.Proofs.Ytoohcdfokejkdaa.Sup
set_option linter.unusedVariables false
set_option linter.unusedSimpArgs false

theorem rdL_get {l : List (List Int)} {i : Nat} (h : i < l.length) : rd_L2 l (i : Int) = l[i] := by simp [rd_L2, List.getD_eq_getElem?_getD, List.getElem?_eq_getElem h]
end Go.Proofs.Ytoohcdfokejkdaa.P
namespace Go.Proofs.Ytoohcdfokejkdaa.P
open Go.RowKit Go.Proofs.YtoohcdfokejkdaaW.PrintWords
set_option linter.unusedVariables false
set_option linter.unusedSimpArgs false

/-- An entry of a matrix. -/
def ent (m : List (List Int)) (r k : Nat) : Int := rd (rd_L2 m r) k
theorem rd_set {X : List Int} {i j : Nat} {v : Int} (hi : i < X.length) : rd (X.set i v) j = if j = i then v else rd X j := by
  by_cases e : j = i
  · subst e
    rw [if_pos rfl, rd_get (by simpa using hi)]
    simp
  · rw [if_neg e, rd_nat, rd_nat, List.getD_eq_getElem?_getD, List.getD_eq_getElem?_getD, List.getElem?_set_ne (fun e' => e e'.symm)]
theorem shl_det {n : Nat} (h : n ≤ 16) : shl .i64 1 (n : Int) = ((2 ^ n : Nat) : Int) := shl_pow (by omega)
theorem pow_small {n : Nat} (h : n ≤ 16) : 2 ^ n ≤ 65536 := Nat.pow_le_pow_right (by decide) h
theorem tmod_two (c : Nat) : (Int.tmod (c : Int) 2 = 1) ↔ ¬ c % 2 = 0 := by
  rw [Int.tmod_eq_emod_of_nonneg (by omega)]
  omega
def rowSum (a : Nat → Nat → Int) (n s j : Nat) : Int := sumTo j fun k => if s.testBit k then term a n s k else 0
theorem rowSum_skip {a : Nat → Nat → Int} {n s j : Nat} (h : s.testBit j = true → a (pop n s - 1) j = 0) : rowSum a n s (j + 1) = rowSum a n s j := by
  unfold rowSum
  simp only [sumTo]
  by_cases hb : s.testBit j = true
  · rw [if_pos hb]
    unfold term
    rw [h hb]
    simp
  · rw [if_neg hb, Int.add_zero]
theorem rowSum_next {a : Nat → Nat → Int} {n s j : Nat} (hb : s.testBit j = true) : rowSum a n s (j + 1) = rowSum a n s j + term a n s j := by
  unfold rowSum
  simp only [sumTo]
  rw [if_pos hb]
section
variable {m : List (List Int)} {n : Nat}
theorem impl_det_l1 (hn : n = m.length) (h16 : n ≤ 16) {s : Nat} (hs : s < 2 ^ n) (h0 : s ≠ 0) (row : List Int) (hr : row = rd_L2 m (pop n s - 1 : Nat)) (hl : row.length = n) (res : Int)
    (next : ∀ X : List Int, X.length = 2 ^ n → (∀ t : Nat, t < 2 ^ n → rd X t = if t < s + 1 then wrap64 (Ds (ent m) n t) else 0) → Ev (fun k => impl_determinant.l0 k m X ((s + 1 : Nat) : Int)) res) :
    ∀ (d j : Nat) (X : List Int), n - j = d → j ≤ n → X.length = 2 ^ n → (∀ t : Nat, t < 2 ^ n → t ≠ s → rd X t = if t < s then wrap64 (Ds (ent m) n t) else 0) → rd X s = wrap64 (rowSum (ent m) n s j) →
      Ev (fun k => impl_determinant.l1 k m X s row (n : Int) j) res
  | 0, j, X, hd, hj, hX, hi, hj2 => by
    have hp := pow_small h16
    refine Ev.step (fun _ => impl_determinant.l1.eq_2 ..) ?_
    refine Ev.ff (by omega) ?_
    rw [wsucc (by omega)]
    refine next X hX fun t ht => ?_
    by_cases e : t = s
    · subst e
      rw [if_pos (by omega), hj2, Ds_sum (pop_ne hs h0), show n = j by omega]
      rfl
    · rw [hi t ht e]
      by_cases h : t < s
      · rw [if_pos h, if_pos (by omega)]
      · rw [if_neg h, if_neg (by omega)]
  | d + 1, j, X, hd, hj, hX, hi, hj2 => by
    have hp := pow_small h16
    have ih := impl_det_l1 hn h16 hs h0 row hr hl res next d (j + 1)
    have hw : rd row j = ent m (pop n s - 1) j := by rw [hr]; rfl
    refine Ev.step (fun _ => impl_determinant.l1.eq_2 ..) ?_
    refine Ev.tt (by omega) (Ev.tt (by omega) (Ev.tt (by omega) ?_))
    have skip : (s.testBit j = true → ent m (pop n s - 1) j = 0) → Ev (fun k => impl_determinant.j2 k m X s j (rd row j) row (n : Int) j true) res := by
      intro h
      refine Ev.step (fun _ => impl_determinant.j2.eq_2 ..) ?_
      refine Ev.tt rfl ?_
      rw [wsucc (by omega)]
      exact ih X (by omega) (by omega) hX hi (by rw [hj2, rowSum_skip h])
    by_cases hv : rd row j = 0
    · exact Ev.tt hv (skip fun _ => by rw [← hw]; exact hv)
    · refine Ev.ff hv ?_
      rw [bit_zero (by omega)]
      cases hb : s.testBit j
      · exact skip fun h => by rw [hb] at h; cases h
      · refine Ev.step (fun _ => impl_determinant.j2.eq_2 ..) ?_
        refine Ev.ff (by simp) ?_
        have hdl := del_le s j
        have hdn : Go.bits .andNot .i64 (s : Int) (shl .i64 1 (j : Int)) = ((del s j : Nat) : Int) := by
          rw [shl_det (by omega), bits_andNot (by omega) (by have := pow_small (show j ≤ 16 by omega); omega)]
          rfl
        rw [wsucc (by omega)]
        refine Ev.tt (by omega) ?_
        rw [shr_nat (by omega), u64_small (by have := Nat.div_le_self s (2 ^ (j + 1)); omega)]
        refine Ev.bnd0 (ones_eq' (n := n) (by omega) (Nat.lt_of_le_of_lt (Nat.div_le_self _ _) hs)) ?_
        rw [hdn]
        have hD : rd X (del s j : Nat) = wrap64 (Ds (ent m) n (del s j)) := by
          have := del_lt hb
          rw [hi _ (by omega) (by omega), if_pos this]
        rw [hD, hj2]
        have fin : ∀ v : Int, wrap64 v = wrap64 (rowSum (ent m) n s (j + 1)) → v = wrap64 v → Ev (fun k => impl_determinant.l1 k m (X.set ((s : Int)).toNat v) s row (n : Int) ((j + 1 : Nat) : Int)) res := by
          intro v hv1 hv2
          rw [Int.toNat_natCast]
          refine ih _ (by omega) (by omega) (by rw [List.length_set]; exact hX) (fun t ht hne => ?_) ?_
          · rw [rd_set (by omega), if_neg hne]
            exact hi t ht hne
          · rw [rd_set (by omega), if_pos rfl, hv2, hv1]
        have ht := rowSum_next (a := ent m) (n := n) (s := s) (j := j) hb
        unfold term at ht
        rw [← hw] at ht
        refine Ev.ite (fun ho => ?_) (fun ho => ?_)
        · refine Ev.tt (by omega) (Ev.tt (by omega) (Ev.tt (by omega) (Ev.tt (by omega) (Ev.tt (by omega) ?_))))
          refine fin _ ?_ (wrap64_wrap _).symm
          rw [wrap64_wrap, wrap64_mul, wrap64_add, ht]
          have hsg : sgn (above n s j) = -1 := by unfold sgn; rw [if_neg]; exact (tmod_two _).1 ho
          rw [hsg]
          congr 2
          simp
        · refine Ev.tt (by omega) (Ev.tt (by omega) (Ev.tt (by omega) (Ev.tt (by omega) (Ev.tt (by omega) ?_))))
          refine fin _ ?_ (wrap64_wrap _).symm
          rw [wrap64_wrap, wrap64_mulr, wrap64_add, ht]
          have hsg : sgn (above n s j) = 1 := by unfold sgn; rw [if_pos]; exact Decidable.not_not.1 (fun h => ho ((tmod_two _).2 h))
          rw [hsg]
          congr 2
          simp
theorem impl_det_l0 (hn : n = m.length) (h16 : n ≤ 16) (hrow : ∀ r, r < n → (rd_L2 m (r : Nat)).length = n) : ∀ (d s : Nat) (X : List Int), 2 ^ n - s = d → s ≤ 2 ^ n → s ≠ 0 → X.length = 2 ^ n → (∀ t : Nat, t < 2 ^ n → rd X t = if t < s then wrap64 (Ds (ent m) n t) else 0) →
      Ev (fun k => impl_determinant.l0 k m X s) (wrap64 (Ds (ent m) n (2 ^ n - 1)))
  | 0, s, X, hd, hs, h0, hX, hi => by
    have hp := pow_small h16
    have hp1 : 0 < 2 ^ n := Nat.two_pow_pos n
    refine Ev.step (fun _ => impl_determinant.l0.eq_2 ..) ?_
    refine Ev.ff (by omega) ?_
    rw [hX, show wrap64 (((2 ^ n : Nat) : Int) - 1) = ((2 ^ n - 1 : Nat) : Int) by rw [wrap64_id (by omega) (by omega)]; omega]
    refine Ev.tt (by omega) (Ev.tt (by omega) (Ev.ret ?_))
    rw [hi _ (by omega), if_pos (by omega)]
  | d + 1, s, X, hd, hs, h0, hX, hi => by
    have hp := pow_small h16
    have hsl : s < 2 ^ n := by omega
    have hpn := pop_ne hsl h0
    have hpl := pop_le n s
    refine Ev.step (fun _ => impl_determinant.l0.eq_2 ..) ?_
    refine Ev.tt (by omega) ?_
    rw [u64_small (by omega)]
    refine Ev.bnd0 (ones_eq' (n := n) (by omega) hsl) ?_
    rw [show wrap64 ((pop n s : Int) - 1) = ((pop n s - 1 : Nat) : Int) by rw [wrap64_id (by omega) (by omega)]; omega]
    refine Ev.tt (by omega) (Ev.tt (by omega) ?_)
    have hl := hrow (pop n s - 1) (by omega)
    rw [hl]
    refine impl_det_l1 hn h16 hsl h0 _ rfl hl _ (fun X' hX' hi' => impl_det_l0 hn h16 hrow d (s + 1) X' (by omega) (by omega) (by omega) hX' hi') n 0 X (by omega) (by omega) hX (fun t ht hne => ?_) ?_
    · rw [hi t ht]
    · rw [hi s hsl, if_neg (by omega), show rowSum (ent m) n s 0 = 0 from rfl, wrap64_id (by decide) (by decide)]
theorem impl_det_ev (hn : n = m.length) (h16 : n ≤ 16) (hrow : ∀ r, r < n → (rd_L2 m (r : Nat)).length = n) : Ev (fun k => impl_determinant.f k m) (wrap64 (Ds (ent m) n (2 ^ n - 1))) := by
  have hp := pow_small h16
  have hp1 : 0 < 2 ^ n := Nat.two_pow_pos n
  unfold impl_determinant.f
  rw [← hn, shl_det h16]
  refine Ev.tt (by omega) (Ev.tt (by omega) (Ev.bnd0 rfl (Ev.tt (by rw [List.length_replicate]; omega) ?_)))
  refine impl_det_l0 hn h16 hrow (2 ^ n - 1) 1 _ rfl (by omega) (by omega) (by rw [List.length_set, List.length_replicate]; omega) fun t ht => ?_
  rw [show ((0 : Int)).toNat = 0 from rfl, rd_set (by rw [List.length_replicate]; omega)]
  by_cases e : t = 0
  · subst e
    rw [if_pos rfl, if_pos (by omega), Ds_zero, wrap64_id (by decide) (by decide)]
  · rw [if_neg e, if_neg (by omega), rd_nat, List.getD_eq_getElem?_getD]
    cases h : (List.replicate (((2 ^ n : Nat) : Int)).toNat (0 : Int))[t]? with
    | none => rfl
    | some v => exact (List.mem_replicate.1 (List.mem_of_getElem? h)).2
end
end Go.Proofs.Ytoohcdfokejkdaa.P
namespace Go.Proofs.Ytoohcdfokejkdaa.P
open Go.RowKit Go.Proofs.YtoohcdfokejkdaaW.PrintWords Go.Proofs.YtoohcdfokejkdaaW.PrintLast Go.Proofs.YtoohcdfokejkdaaW.PrintMore
attribute [local go_sem] max2_int min2_int max_two min_two max_three min_three max_four min_four   -- for this text's walks alone
set_option linter.unusedVariables false
set_option linter.unusedSimpArgs false

/-! ### spec_l01In: function 61 -/
/-! ### spec_SquareOk: function 60 -/
end Go.Proofs.Ytoohcdfokejkdaa.P
namespace Go.Proofs.Ytoohcdfokejkdaa.P
open Go.RowKit Go.Proofs.YtoohcdfokejkdaaW.PrintWords Go.Proofs.Ytoohcdfokejkdaa.Sup
set_option linter.unusedVariables false
set_option linter.unusedSimpArgs false

def sumAbs : List Int → Nat
  | [] => 0
  | x :: t => x.natAbs + sumAbs t
theorem sumAbs_nil : sumAbs [] = 0 := rfl
theorem sumAbs_cons (x : Int) (t : List Int) : sumAbs (x :: t) = x.natAbs + sumAbs t := rfl
def small (x : Int) : Bool := decide (-16 ≤ x ∧ x ≤ 16)
def rowOk (n : Nat) (row : List Int) : Bool := decide (row.length = n) && row.all small && decide (sumAbs row ≤ 16)
def squareOk (m : List (List Int)) : Bool := decide (m.length ≤ 16) && m.all (rowOk m.length)
theorem mx_abs {x : Int} (h : small x = true) : mx x (wrap64 (-x)) = (x.natAbs : Int) := by
  have := of_decide_eq_true h
  rw [wrap64_id (by omega) (by omega)]
  unfold mx
  split <;> omega
theorem impl_row (m : List (List Int)) (row : List Int) (h16 : row.length ≤ 16) (i : Nat) (hi : i < m.length) (hm : m.length ≤ 1048576) (r : Bool) (hk : Ev (fun k => impl_SquareOk.l0 k m m (m.length : Int) ((i + 1 : Nat) : Int)) r) :
    ∀ (d j acc : Nat), row.length - j = d → j ≤ row.length → acc ≤ 16 * j →
      Ev (fun k => impl_SquareOk.l1 k m acc m (m.length : Int) i row (row.length : Int) j) ((row.drop j).all small && (decide (acc + sumAbs (row.drop j) ≤ 16) && r))
  | 0, j, acc, hd, hj, hacc => by
    refine Ev.step (fun _ => impl_SquareOk.l1.eq_2 ..) ?_
    refine Ev.ff (by omega) ?_
    rw [List.drop_eq_nil_of_le (by omega), wsucc (by omega)]
    rw [List.all_nil, sumAbs_nil, Bool.true_and]
    by_cases h : acc ≤ 16
    · rw [decide_eq_true (show acc + 0 ≤ 16 from h), Bool.true_and]; exact Ev.ff (by omega) hk
    · rw [decide_eq_false (show ¬ acc + 0 ≤ 16 from h), Bool.false_and]; exact Ev.tt (by omega) (Ev.ret rfl)
  | d + 1, j, acc, hd, hj, hacc => by
    have hjl : j < row.length := by omega
    refine Ev.step (fun _ => impl_SquareOk.l1.eq_2 ..) ?_
    rw [rd_get hjl, List.drop_eq_getElem_cons hjl]
    refine Ev.tt (by omega) (Ev.tt (by omega) (Ev.tt (by omega) ?_))
    rw [List.all_cons, sumAbs_cons]
    by_cases hs : small row[j] = true
    · have hb := of_decide_eq_true hs
      refine Ev.ff (by omega) (Ev.ff (by omega) ?_)
      rw [mx_abs hs, wsucc (by omega), show ((acc : Int) + (row[j].natAbs : Int)) = ((acc + row[j].natAbs : Nat) : Int) by omega, wrap64_id (by omega) (by omega)]
      refine Ev.eq (impl_row m row h16 i hi hm r hk d (j + 1) (acc + row[j].natAbs) (by omega) (by omega) (by omega)) ?_
      rw [hs, Bool.true_and, Nat.add_assoc]
    · have hb : ¬ (-16 ≤ row[j] ∧ row[j] ≤ 16) := fun h => hs (decide_eq_true h)
      rw [Bool.not_eq_true] at hs
      rw [hs, Bool.false_and, Bool.false_and]
      by_cases h1 : row[j] < -16
      · exact Ev.tt h1 (Ev.ret rfl)
      · exact Ev.ff h1 (Ev.tt (by omega) (Ev.ret rfl))
theorem impl_rows (m : List (List Int)) (hm : m.length ≤ 1048576) : ∀ (d i : Nat), m.length - i = d → i ≤ m.length →
      Ev (fun k => impl_SquareOk.l0 k m m (m.length : Int) i) ((m.drop i).all fun row => decide (row.length ≤ 16) && rowOk m.length row)
  | 0, i, hd, hi => by
    refine Ev.step (fun _ => impl_SquareOk.l0.eq_2 ..) ?_
    refine Ev.ff (by omega) (Ev.ret ?_)
    rw [List.drop_eq_nil_of_le (by omega)]
    simp
  | d + 1, i, hd, hi => by
    have hil : i < m.length := by omega
    refine Ev.step (fun _ => impl_SquareOk.l0.eq_2 ..) ?_
    refine Ev.tt (by omega) (Ev.tt (by omega) (Ev.tt (by omega) ?_))
    rw [List.drop_eq_getElem_cons hil, rdL_get hil, List.all_cons]
    have ih := impl_rows m hm d (i + 1) (by omega) (by omega)
    by_cases hr : (m[i]).length = m.length
    · refine Ev.tt (by omega) ?_
      refine Ev.step (fun _ => impl_SquareOk.j1.eq_2 ..) ?_
      by_cases h16 : (m[i]).length ≤ 16
      · refine Ev.ff (by simp; omega) ?_
        refine Ev.eq (impl_row m m[i] h16 i hil hm _ ih (m[i]).length 0 0 (by omega) (by omega) (by omega)) ?_
        simp only [List.drop_zero, Nat.zero_add, rowOk, hr, decide_true, Bool.true_and]
        rw [hr] at h16
        by_cases h1 : (m[i]).all small = true <;> by_cases h2 : sumAbs m[i] ≤ 16 <;> simp [h1, h2, h16]
      · refine Ev.tt (by simp; omega) (Ev.ret ?_)
        simp [h16]
    · refine Ev.ff (by omega) ?_
      refine Ev.step (fun _ => impl_SquareOk.j1.eq_2 ..) ?_
      refine Ev.tt rfl (Ev.ret ?_)
      simp [rowOk, hr]
theorem impl_SquareOk_ev (m : List (List Int)) (hm : m.length ≤ 1048576) : Ev (fun k => impl_SquareOk.f k m) (squareOk m) := by
  unfold impl_SquareOk.f
  refine Ev.eq (impl_rows m hm m.length 0 (by omega) (by omega)) ?_
  rw [List.drop_zero]
  unfold squareOk
  rw [Bool.eq_iff_iff]
  simp only [List.all_eq_true, Bool.and_eq_true, decide_eq_true_eq]
  constructor
  · intro h
    refine ⟨?_, fun x hx => (h x hx).2⟩
    cases m with
    | nil => simp
    | cons a t =>
      obtain ⟨h1, h2⟩ := h a List.mem_cons_self
      have h3 : a.length = (a :: t).length := by
        simp only [rowOk, Bool.and_eq_true, decide_eq_true_eq] at h2
        exact h2.1.1
      omega
  · rintro ⟨h1, h2⟩ x hx
    refine ⟨?_, h2 x hx⟩
    have h3 := h2 x hx
    simp only [rowOk, Bool.and_eq_true, decide_eq_true_eq] at h3
    omega
end Go.Proofs.Ytoohcdfokejkdaa.P
namespace Go.Proofs.Ytoohcdfokejkdaa.P
open Go.RowKit Go.Proofs.YtoohcdfokejkdaaW.PrintWords
set_option linter.unusedVariables false
set_option linter.unusedSimpArgs false

def detI (m : List (List Int)) : Int := if squareOk m then wrap64 (Ds (ent m) m.length (2 ^ m.length - 1)) else 0
theorem square_rows {m : List (List Int)} (h : squareOk m = true) : m.length ≤ 16 ∧ ∀ r : Nat, r < m.length → (rd_L2 m (r : Nat)).length = m.length := by
  unfold squareOk at h
  simp only [Bool.and_eq_true, decide_eq_true_eq, List.all_eq_true] at h
  refine ⟨h.1, fun r hr => ?_⟩
  rw [rdL_get hr]
  have := h.2 _ (List.getElem_mem hr)
  unfold rowOk at this
  simp only [Bool.and_eq_true, decide_eq_true_eq] at this
  exact this.1.1
theorem impl_Determinant_ev (m : List (List Int)) (hm : m.length ≤ 1048576) : Ev (fun k => impl_Determinant.f k m) (detI m) := by
  unfold impl_Determinant.f detI
  refine Ev.bind (impl_SquareOk_ev m hm) ?_
  by_cases h : squareOk m = true
  · obtain ⟨h1, h2⟩ := square_rows h
    rw [if_pos h]
    exact Ev.tt h (Ev.bind (impl_det_ev rfl h1 h2) (Ev.ret rfl))
  · rw [if_neg h]
    exact Ev.ff h (Ev.ret rfl)
theorem sumTo_add (n : Nat) (f g : Nat → Int) : sumTo n (fun i => f i + g i) = sumTo n f + sumTo n g := by
  induction n with
  | zero => rfl
  | succ n ih => simp only [sumTo]; rw [ih]; omega
theorem sumTo_mul (n : Nat) (c : Int) (f : Nat → Int) : sumTo n (fun i => c * f i) = c * sumTo n f := by
  induction n with
  | zero => simp [sumTo]
  | succ n ih => simp only [sumTo]; rw [ih, Int.mul_add]
theorem sumTo_comm (m n : Nat) (f : Nat → Nat → Int) : sumTo m (fun i => sumTo n (fun j => f i j)) = sumTo n (fun j => sumTo m (fun i => f i j)) := by
  induction m with
  | zero => simp only [sumTo]; exact (sumTo_zero fun _ _ => rfl).symm
  | succ m ih => simp only [sumTo]; rw [ih, ← sumTo_add]
/-- A sum with two places set apart. -/
theorem sumTo_two {n i : Nat} {f g : Nat → Int} (h1 : i + 1 < n) (hs : g i + g (i + 1) = -(f i + f (i + 1))) (h : ∀ k, k < n → k ≠ i → k ≠ i + 1 → g k = -f k) : sumTo n g = -sumTo n f := by
  have e1 : sumTo n (fun k => g k + f k) = 0 := by
    have : ∀ m, m ≤ n → sumTo m (fun k => g k + f k) = if m = i + 1 then g i + f i else 0 := by
      intro m
      induction m with
      | zero => intro _; simp [sumTo]
      | succ m ih =>
        intro hm
        simp only [sumTo]
        rw [ih (by omega)]
        by_cases a : m = i
        · subst a; simp
        · by_cases b : m = i + 1
          · subst b; simp; omega
          · have := h m (by omega) a b
            simp [a, b]; omega
    rw [this n (Nat.le_refl n), if_neg (by omega)]
  rw [sumTo_add] at e1
  omega
/-- Without the vector i. -/
def er (i : Nat) (A : Nat → Nat → Int) : Nat → Nat → Int := fun j => if j < i then A j else A (j + 1)
/-- Without the coordinate c. -/
def ec (c : Nat) (A : Nat → Nat → Int) : Nat → Nat → Int := fun j d => if d < c then A j d else A j (d + 1)
/-- With another vector at i. -/
def rp (A : Nat → Nat → Int) (i : Nat) (v : Nat → Int) : Nat → Nat → Int := fun j => if j = i then v else A j
def swp (A : Nat → Nat → Int) (i j : Nat) : Nat → Nat → Int := fun k => if k = i then A j else if k = j then A i else A k
/-- The determinant of r vectors, along the last coordinate. -/
def dt : Nat → (Nat → Nat → Int) → Int
  | 0, _ => 1
  | r + 1, A => sumTo (r + 1) fun i => sgn (r - i) * A i r * dt r (er i A)
theorem dt_congr : ∀ {r : Nat} {A B : Nat → Nat → Int}, (∀ i c, i < r → c < r → A i c = B i c) → dt r A = dt r B
  | 0, _, _, _ => rfl
  | r + 1, A, B, h => by
    simp only [dt]
    refine sumTo_congr fun i hi => ?_
    rw [h i r hi (by omega), dt_congr (A := er i A) (B := er i B)]
    intro j c hj hc
    unfold er
    split
    · exact h j c (by omega) (by omega)
    · exact h (j + 1) c (by omega) (by omega)
theorem er_rp_same (A : Nat → Nat → Int) (i : Nat) (v : Nat → Int) : er i (rp A i v) = er i A := by
  funext j
  unfold er rp
  split
  · rw [if_neg (by omega)]
  · rw [if_neg (by omega)]
theorem er_rp (A : Nat → Nat → Int) {k i : Nat} (h : k ≠ i) (v : Nat → Int) : er k (rp A i v) = rp (er k A) (if i < k then i else i - 1) v := by
  funext j
  simp only [er, rp]
  by_cases hk : i < k
  · rw [if_pos hk]
    repeat' split
    all_goals first | rfl | omega
  · rw [if_neg hk]
    repeat' split
    all_goals first | rfl | omega
theorem rp_same (A : Nat → Nat → Int) (i : Nat) (v : Nat → Int) : rp A i v i = v := if_pos rfl
theorem rp_ne (A : Nat → Nat → Int) {i j : Nat} (h : j ≠ i) (v : Nat → Int) : rp A i v j = A j := if_neg h
theorem dt_lin : ∀ {r : Nat} (A : Nat → Nat → Int) {i : Nat} (hi : i < r) (c d : Int) (u v : Nat → Int), dt r (rp A i (fun x => c * u x + d * v x)) = c * dt r (rp A i u) + d * dt r (rp A i v)
  | 0, _, _, hi, _, _, _, _ => by omega
  | r + 1, A, i, hi, c, d, u, v => by
    simp only [dt]
    rw [← sumTo_mul, ← sumTo_mul, ← sumTo_add]
    refine sumTo_congr fun k hk => ?_
    by_cases e : k = i
    · subst e
      simp only [rp_same, er_rp_same]
      grind
    · simp only [rp_ne _ e, er_rp _ e]
      rw [dt_lin (er k A) (by split <;> omega)]
      grind
theorem dt_adj : ∀ {r : Nat} (A : Nat → Nat → Int) {i : Nat} (hi : i + 1 < r), dt r (swp A i (i + 1)) = -dt r A
  | 0, _, _, hi => by omega
  | r + 1, A, i, hi => by
    simp only [dt]
    have h1 : er i (swp A i (i + 1)) = er (i + 1) A := by
      funext j; unfold er swp
      repeat' split
      all_goals first | rfl | omega | (congr 1; omega)
    have h2 : er (i + 1) (swp A i (i + 1)) = er i A := by
      funext j; unfold er swp
      repeat' split
      all_goals first | rfl | omega | (congr 1; omega)
    refine sumTo_two (i := i) hi ?_ ?_
    · rw [h1, h2, show swp A i (i + 1) i = A (i + 1) from if_pos rfl, show swp A i (i + 1) (i + 1) = A i by unfold swp; rw [if_neg (by omega), if_pos rfl], show r - i = (r - (i + 1)) + 1 by omega, sgn_succ]
      grind
    · intro k hk n1 n2
      have h3 : er k (swp A i (i + 1)) = swp (er k A) (if i < k then i else i - 1) ((if i < k then i else i - 1) + 1) := by
        funext j; simp only [er, swp]
        by_cases hk : i < k
        · rw [if_pos hk]
          repeat' split
          all_goals first | rfl | omega | (congr 1; omega)
        · rw [if_neg hk]
          repeat' split
          all_goals first | rfl | omega | (congr 1; omega)
      rw [h3, dt_adj (er k A) (by split <;> omega), show swp A i (i + 1) k = A k by unfold swp; rw [if_neg n1, if_neg n2]]
      grind
theorem dt_same : ∀ (d : Nat) {r : Nat} (A : Nat → Nat → Int) {i : Nat}, i + 1 + d < r → (∀ c, A i c = A (i + 1 + d) c) → dt r A = 0
  | 0, r, A, i, hj, h => by
    have h1 := dt_adj A (i := i) hj
    have h2 : swp A i (i + 1) = A := by
      funext k c; unfold swp
      split
      · rename_i e; subst e; exact (h c).symm
      · split
        · rename_i e; subst e; exact h c
        · rfl
    rw [h2] at h1
    omega
  | d + 1, r, A, i, hj, h => by
    have h1 := dt_adj A (i := i + 1 + d) (by omega)
    have h2 := dt_same d (r := r) (swp A (i + 1 + d) (i + 1 + d + 1)) (i := i) (by omega) (fun c => by
      unfold swp
      rw [if_neg (by omega), if_neg (by omega), if_pos rfl]
      exact h c)
    omega
theorem dt_eq {r : Nat} (A : Nat → Nat → Int) {i j : Nat} (hij : i ≠ j) (hi : i < r) (hj : j < r) (h : ∀ c, A i c = A j c) : dt r A = 0 := by
  rcases Nat.lt_or_gt_of_ne hij with hl | hl
  · exact dt_same (j - i - 1) A (i := i) (by omega) (fun c => by rw [show i + 1 + (j - i - 1) = j by omega]; exact h c)
  · exact dt_same (i - j - 1) A (i := j) (by omega) (fun c => by rw [show j + 1 + (i - j - 1) = i by omega]; exact (h c).symm)
theorem rp_self (A : Nat → Nat → Int) (i : Nat) : rp A i (A i) = A := by
  funext j; unfold rp; split
  · rename_i e; rw [e]
  · rfl
theorem rp_comm (A : Nat → Nat → Int) {i j : Nat} (h : i ≠ j) (u v : Nat → Int) : rp (rp A i u) j v = rp (rp A j v) i u := by
  funext k; unfold rp
  by_cases a : k = j
  · by_cases b : k = i
    · omega
    · simp [a, b, h.symm]
  · by_cases b : k = i
    · simp [a, b, h]
    · simp [a, b]
/-- Two vectors exchanged. -/
theorem dt_swp {r : Nat} (A : Nat → Nat → Int) {i j : Nat} (hij : i ≠ j) (hi : i < r) (hj : j < r) : dt r (swp A i j) = -dt r A := by
  have e1 : swp A i j = rp (rp A i (A j)) j (A i) := by
    funext k; unfold swp rp
    by_cases a : k = i
    · by_cases b : k = j
      · omega
      · simp [a, hij]
    · by_cases b : k = j
      · simp [b, hij.symm]
      · simp [a, b]
  have z : dt r (rp (rp A i (fun x => 1 * A i x + 1 * A j x)) j (fun x => 1 * A i x + 1 * A j x)) = 0 :=
    dt_eq _ hij hi hj (fun c => by rw [rp_same, rp_ne _ hij, rp_same])
  rw [dt_lin _ hj, rp_comm _ hij, rp_comm _ hij, dt_lin _ hi, dt_lin _ hi] at z
  have q1 : dt r (rp (rp A j (A i)) i (A i)) = 0 := dt_eq _ hij hi hj (fun c => by rw [rp_same, rp_ne _ hij.symm, rp_same])
  have q2 : dt r (rp (rp A j (A j)) i (A j)) = 0 := dt_eq _ hij hi hj (fun c => by rw [rp_same, rp_ne _ hij.symm, rp_same])
  have q3 : rp (rp A j (A j)) i (A i) = A := by rw [rp_self, rp_self]
  rw [q1, q2, q3, ← rp_comm _ hij, ← e1] at z
  omega
theorem er_ec (A : Nat → Nat → Int) (i c : Nat) : er i (ec c A) = ec c (er i A) := by
  funext j d
  by_cases h : j < i <;> by_cases h2 : d < c <;> simp [er, ec, h, h2]
/-- Along the last vector. -/
theorem dt_lastvec : ∀ (r : Nat) (A : Nat → Nat → Int), dt (r + 1) A = sumTo (r + 1) fun c => sgn (r - c) * A r c * dt r (ec c A)
  | 0, A => rfl
  | r + 1, A => by
    have L : dt (r + 2) A = sumTo (r + 1) (fun i => sgn (r + 1 - i) * A i (r + 1) * dt (r + 1) (er i A)) + sgn (r + 1 - (r + 1)) * A (r + 1) (r + 1) * dt (r + 1) (er (r + 1) A) := rfl
    rw [L]
    show _ = sumTo (r + 1) (fun c => sgn (r + 1 - c) * A (r + 1) c * dt (r + 1) (ec c A)) + sgn (r + 1 - (r + 1)) * A (r + 1) (r + 1) * dt (r + 1) (ec (r + 1) A)
    have e1 : dt (r + 1) (er (r + 1) A) = dt (r + 1) (ec (r + 1) A) := dt_congr fun i c hi hc => by unfold er ec; rw [if_pos hi, if_pos hc]
    rw [e1]
    congr 1
    have e2 : sumTo (r + 1) (fun i => sgn (r + 1 - i) * A i (r + 1) * dt (r + 1) (er i A)) = sumTo (r + 1) (fun i => sumTo (r + 1) fun c => sgn (r + 1 - i) * sgn (r - c) * (A i (r + 1) * A (r + 1) c) * dt r (ec c (er i A))) := by
      refine sumTo_congr fun i hi => ?_
      rw [dt_lastvec r (er i A), ← sumTo_mul]
      refine sumTo_congr fun c hc => ?_
      rw [show er i A r = A (r + 1) from if_neg (by omega)]
      grind
    have e3 : sumTo (r + 1) (fun c => sgn (r + 1 - c) * A (r + 1) c * dt (r + 1) (ec c A)) = sumTo (r + 1) (fun c => sumTo (r + 1) fun i => sgn (r + 1 - i) * sgn (r - c) * (A i (r + 1) * A (r + 1) c) * dt r (ec c (er i A))) := by
      refine sumTo_congr fun c hc => ?_
      show _ * dt (r + 1) (ec c A) = _
      simp only [dt]
      rw [← sumTo_mul]
      refine sumTo_congr fun i hi => ?_
      rw [show ec c A i r = A i (r + 1) from if_neg (by omega), er_ec, show r + 1 - c = (r - c) + 1 by omega, show r + 1 - i = (r - i) + 1 by omega, sgn_succ, sgn_succ]
      grind
    rw [e2, e3, sumTo_comm]
def tr (A : Nat → Nat → Int) : Nat → Nat → Int := fun i c => A c i
theorem dt_tr : ∀ (r : Nat) (A : Nat → Nat → Int), dt r (tr A) = dt r A
  | 0, A => rfl
  | r + 1, A => by
    rw [dt_lastvec r A]
    simp only [dt]
    refine sumTo_congr fun i hi => ?_
    have : er i (tr A) = tr (ec i A) := by
      funext j c; simp only [er, tr, ec]
      split <;> rfl
    rw [this, dt_tr r (ec i A)]
    rfl
/-- A sum over the members of a set, told by their places. -/
theorem sumTo_place {n s : Nat} {F G : Nat → Int} (h : ∀ k, k < n → s.testBit k = true → G (pop k s) = F k) : sumTo n (fun k => if s.testBit k then F k else 0) = sumTo (pop n s) G := by
  induction n with
  | zero => rfl
  | succ n ih =>
    simp only [sumTo, pop]
    rw [ih fun k hk hb => h k (by omega) hb]
    cases hb : s.testBit n
    · simp
    · simp only [if_true, Bool.toNat_true, sumTo]
      rw [h n (by omega) hb]
theorem above_pop {n s k : Nat} (hk : k < n) (hs : s < 2 ^ n) (hb : s.testBit k = true) : above n s k + pop k s + 1 = pop n s := by
  have h1 : pop n s = pop (k + 1) s + pop (n - (k + 1)) (s / 2 ^ (k + 1)) := by
    have := pop_add (k + 1) (n - (k + 1)) s
    rwa [show k + 1 + (n - (k + 1)) = n by omega] at this
  have h2 : above n s k = pop (n - (k + 1)) (s / 2 ^ (k + 1)) := by
    unfold above
    exact pop_big (Nat.div_lt_of_lt_mul (by rw [← Nat.pow_add]; exact Nat.lt_of_lt_of_le hs (Nat.pow_le_pow_right (by decide) (by omega)))) (by omega)
  simp only [pop, hb, Bool.toNat_true] at h1
  omega
theorem pop_del_lt {s k j : Nat} (h : j ≤ k) : pop j (del s k) = pop j s := pop_congr fun i hi => by rw [testBit_del]; simp; omega
theorem pop_mono {m n s : Nat} (h : m ≤ n) : pop m s ≤ pop n s := by
  obtain ⟨d, rfl⟩ := Nat.exists_eq_add_of_le h
  rw [pop_add]; omega
theorem Ds_dt (a : Nat → Nat → Int) (n : Nat) : ∀ (r s : Nat) (B : Nat → Nat → Int), s < 2 ^ n → pop n s = r → (∀ k, k < n → s.testBit k = true → ∀ c, B (pop k s) c = a c k) → Ds a n s = dt r B
  | 0, s, B, hs, hr, hB => by unfold Ds; rw [hr]; rfl
  | r + 1, s, B, hs, hr, hB => by
    rw [Ds_sum (by omega)]
    simp only [dt]
    rw [← hr]
    refine sumTo_place fun k hk hb => ?_
    have h1 := above_pop hk hs hb
    have h2 := pop_del hk hb
    unfold term
    rw [hB k hk hb, show pop n s - 1 = r by omega, show above n s k = r - pop k s by omega]
    rw [Ds_dt a n r (del s k) (er (pop k s) B) (Nat.lt_of_le_of_lt (del_le s k) hs) (by omega)]
    intro j hj hbj c
    rw [testBit_del] at hbj
    simp only [Bool.and_eq_true, decide_eq_true_eq] at hbj
    unfold er
    by_cases e : j < k
    · have h3 : pop (j + 1) s ≤ pop k s := pop_mono (by omega)
      simp only [pop, hbj.1, Bool.toNat_true] at h3
      rw [pop_del_lt (by omega), if_pos (by omega)]
      exact hB j hj hbj.1 c
    · have h3 := pop_del (n := j) (show k < j by omega) hb
      have h4 : pop (k + 1) s ≤ pop j s := pop_mono (by omega)
      simp only [pop, hb, Bool.toNat_true] at h4
      rw [if_neg (by omega), show pop j (del s k) + 1 = pop j s by omega]
      exact hB j hj hbj.1 c
theorem pop_all {n s : Nat} (h : ∀ i, i < n → s.testBit i = true) : pop n s = n := by
  induction n with
  | zero => rfl
  | succ n ih => simp only [pop]; rw [ih fun i hi => h i (by omega), h n (by omega)]; rfl
theorem Ds_full (a : Nat → Nat → Int) (n : Nat) : Ds a n (2 ^ n - 1) = dt n a := by
  have hp : 0 < 2 ^ n := Nat.two_pow_pos n
  rw [Ds_dt a n n (2 ^ n - 1) (tr a) (by omega) (pop_full n), dt_tr]
  intro k hk hb c
  rw [pop_all fun i hi => by rw [Nat.testBit_two_pow_sub_one]; simp; omega]
  rfl
end Go.Proofs.Ytoohcdfokejkdaa.P
namespace Go.Proofs.Ytoohcdfokejkdaa.P
open Go.RowKit Go.Proofs.YtoohcdfokejkdaaW.PrintWords Go.Proofs.YtoohcdfokejkdaaW.PrintLast Go.Proofs.YtoohcdfokejkdaaW.PrintMore
attribute [local go_sem] max2_int min2_int max_two min_two max_three min_three max_four min_four   -- for this text's walks alone
set_option linter.unusedVariables false
set_option linter.unusedSimpArgs false

/-! ### bits_Mul64: function 130 -/
/-! ### bits_Mul: function 127 -/
/-! ### slices_Repeat_int_int: function 123 -/
/-! ### spec_l02East: function 75 -/
/-! ### spec_GridOk: function 74 -/
/-! ### impl_GridOk: function 79 -/
/-! ### spec_CountCells: function 36 -/
/-! ### impl_CountCells: function 70 -/
/-! ### spec_CountGaps: function 32 -/
/-! ### impl_CountGaps: function 78 -/
end Go.Proofs.Ytoohcdfokejkdaa.P
namespace Go.Proofs.Ytoohcdfokejkdaa.P
open Go.RowKit Go.Proofs.YtoohcdfokejkdaaW.PrintWords
set_option linter.unusedVariables false
set_option linter.unusedSimpArgs false

/-- A valid grid. -/
def gridOk (w h : Int) : Bool := decide (1 ≤ w ∧ w ≤ 4 ∧ 1 ≤ h ∧ h ≤ 4)
def cellsOf (w h : Int) : Int := if gridOk w h then w * h else 0
def gapsOf (w h : Int) : Int := if gridOk w h then (w - 1) * h + w * (h - 1) else 0
/-- The neighbor of a cell in a direction. -/
def nbI (w h c d : Int) : Int :=
  if 0 ≤ c ∧ c < cellsOf w h then
    (if d = 0 ∧ 0 < c / w then c - w else if d = 1 ∧ c % w < w - 1 then c + 1 else if d = 2 ∧ c / w < h - 1 then c + w else if d = 3 ∧ 0 < c % w then c - 1 else -1)
  else -1
/-- The number of gaps, as a natural number. -/
def gapsN (w h : Int) : Nat := (gapsOf w h).toNat
/-- The gap between a cell and its neighbor. -/
def gapI (w h c d : Int) : Int :=
  if nbI w h c d < 0 then -1 else if d = 1 ∨ d = 3 then (min c (nbI w h c d)) / w * (w - 1) + (min c (nbI w h c d)) % w else (w - 1) * h + min c (nbI w h c d)
/-- The ends of a gap. -/
def endsI (w h g : Int) : Int × Int :=
  if 0 ≤ g ∧ g < gapsOf w h then (if g < (w - 1) * h then (g / (w - 1) * w + g % (w - 1), g / (w - 1) * w + g % (w - 1) + 1) else (g - (w - 1) * h, g - (w - 1) * h + w)) else (-1, -1)
/-- What is to be known of a step: the other cell, the gap, and the way back. -/
def StepFacts (w h c d : Int) : Prop :=
  nbI w h c d = -1 ∧ gapI w h c d = -1 ∨
  (0 ≤ nbI w h c d ∧ nbI w h c d < cellsOf w h ∧ nbI w h c d ≠ c ∧ 0 ≤ gapI w h c d ∧ gapI w h c d < gapsOf w h ∧
    endsI w h (gapI w h c d) = (min c (nbI w h c d), max c (nbI w h c d)) ∧ nbI w h (nbI w h c d) ((d + 2) % 4) = c ∧ gapI w h (nbI w h c d) ((d + 2) % 4) = gapI w h c d)
instance (w h c d : Int) : Decidable (StepFacts w h c d) := by unfold StepFacts; infer_instance
def EndFacts (w h g : Int) : Prop :=
  0 ≤ g ∧ g < gapsOf w h → 0 ≤ (endsI w h g).1 ∧ (endsI w h g).1 < (endsI w h g).2 ∧ (endsI w h g).2 < cellsOf w h ∧
    (nbI w h (endsI w h g).1 1 = (endsI w h g).2 ∧ gapI w h (endsI w h g).1 1 = g ∨ nbI w h (endsI w h g).1 2 = (endsI w h g).2 ∧ gapI w h (endsI w h g).1 2 = g)
instance (w h g : Int) : Decidable (EndFacts w h g) := by unfold EndFacts; infer_instance
end Go.Proofs.Ytoohcdfokejkdaa.P
namespace Go.Proofs.Ytoohcdfokejkdaa.P
open Go.RowKit Go.Proofs.YtoohcdfokejkdaaW.PrintWords Go.Proofs.YtoohcdfokejkdaaW.PrintLast Go.Proofs.YtoohcdfokejkdaaW.PrintMore
attribute [local go_sem] max2_int min2_int max_two min_two max_three min_three max_four min_four   -- for this text's walks alone
set_option linter.unusedVariables false
set_option linter.unusedSimpArgs false

/-! ### impl_isCell: function 119 -/
/-! ### impl_Neighbor: function 103 -/
/-! ### spec_Neighbor: function 101 -/
/-! ### impl_MazeOk: function 69 -/
/-! ### spec_MazeOk: function 66 -/
/-! ### impl_isOpen: function 88 -/
/-! ### impl_isGap: function 106 -/
/-! ### impl_GapAt: function 102 -/
/-! ### impl_Step: function 72 -/
/-! ### impl_WaysFrom: function 71 -/
/-! ### spec_GapAt: function 100 -/
/-! ### spec_IsPassage: function 94 -/
/-! ### spec_Step: function 68 -/
/-! ### spec_WaysFrom: function 67 -/
end Go.Proofs.Ytoohcdfokejkdaa.P
namespace Go.Proofs.Ytoohcdfokejkdaa.P
open Go.RowKit Go.Proofs.YtoohcdfokejkdaaW.PrintWords
set_option linter.unusedVariables false
set_option linter.unusedSimpArgs false

/-- Connected by the edges of n. -/
inductive Cn (e : Nat → Nat × Nat) (n : Nat) : Nat → Nat → Prop
  | refl (x : Nat) : Cn e n x x
  | fwd {x : Nat} (k : Nat) : n.testBit k = true → Cn e n x (e k).1 → Cn e n x (e k).2
  | bwd {x : Nat} (k : Nat) : n.testBit k = true → Cn e n x (e k).2 → Cn e n x (e k).1
theorem Cn.trans {e : Nat → Nat × Nat} {n x y z : Nat} (h : Cn e n x y) (g : Cn e n y z) : Cn e n x z := by
  induction g with
  | refl => exact h
  | fwd k hk _ ih => exact .fwd k hk ih
  | bwd k hk _ ih => exact .bwd k hk ih
theorem Cn.edge {e : Nat → Nat × Nat} {n k : Nat} (h : n.testBit k = true) : Cn e n (e k).1 (e k).2 := .fwd k h (.refl _)
theorem Cn.edge' {e : Nat → Nat × Nat} {n k : Nat} (h : n.testBit k = true) : Cn e n (e k).2 (e k).1 := .bwd k h (.refl _)
theorem Cn.symm {e : Nat → Nat × Nat} {n x y : Nat} (h : Cn e n x y) : Cn e n y x := by
  induction h with
  | refl => exact .refl _
  | fwd k hk _ ih => exact (Cn.edge' hk).trans ih
  | bwd k hk _ ih => exact (Cn.edge hk).trans ih
theorem Cn.mono {e : Nat → Nat × Nat} {n m x y : Nat} (hm : ∀ i, n.testBit i = true → m.testBit i = true) (h : Cn e n x y) : Cn e m x y := by
  induction h with
  | refl => exact .refl _
  | fwd k hk _ ih => exact .fwd k (hm k hk) ih
  | bwd k hk _ ih => exact .bwd k (hm k hk) ih
/-- The first k bits of n. -/
def low (n k : Nat) : Nat := n % 2 ^ k
/-- The least vertex of the part of v, by the first k edges. -/
def lab (e : Nat → Nat × Nat) (n : Nat) : Nat → Nat → Nat
  | 0, v => v
  | k + 1, v =>
    if n.testBit k = true then
      (if lab e n k v = max (lab e n k (e k).1) (lab e n k (e k).2) then min (lab e n k (e k).1) (lab e n k (e k).2) else lab e n k v)
    else lab e n k v
/-- How many of the numbers under v. -/
def cnt (p : Nat → Bool) : Nat → Nat
  | 0 => 0
  | v + 1 => cnt p v + (p v).toNat
/-- The number of parts of v vertices, by k edges. -/
def parts (e : Nat → Nat × Nat) (v k n : Nat) : Nat := cnt (fun c => lab e n k c == c) v
/-- A graph: the ends of its edges are vertices. -/
def Gr (e : Nat → Nat × Nat) (v k : Nat) : Prop := ∀ j, j < k → (e j).1 < v ∧ (e j).2 < v
def upd (D : Nat → Int) (y : Nat) (v : Int) : Nat → Int := fun c => if c = y then v else D c
/-- One direction of one cell. -/
def relax (s : Nat → Nat → Int) (x d : Nat) (S : (Nat → Int) × List Nat) : (Nat → Int) × List Nat :=
  if 0 ≤ s x d ∧ S.1 (s x d).toNat < 0 then (upd S.1 (s x d).toNat (S.1 x + 1), S.2 ++ [(s x d).toNat]) else S
def bround (s : Nat → Nat → Int) (x : Nat) (S : (Nat → Int) × List Nat) : (Nat → Int) × List Nat := relax s x 3 (relax s x 2 (relax s x 1 (relax s x 0 S)))
/-- Steps stay among v cells. -/
def Rng (s : Nat → Nat → Int) (v : Nat) : Prop := ∀ x d, x < v → d < 4 → s x d = -1 ∨ (0 ≤ s x d ∧ s x d < (v : Int))

structure BInv (s : Nat → Nat → Int) (v src : Nat) (S : (Nat → Int) × List Nat) (i : Nat) (m : Nat) : Prop where
  src0 : S.1 src = 0
  zero : ∀ c, S.1 c = 0 → c = src
  srcq : src ∈ S.2
  inr : ∀ c ∈ S.2, c < v
  nodup : S.2.Nodup
  neg : ∀ c, S.1 c = -1 ∨ 0 ≤ S.1 c
  mem : ∀ c, 0 ≤ S.1 c ↔ c ∈ S.2
  sorted : S.2.Pairwise (fun a b => S.1 a ≤ S.1 b)
  top : ∀ x, S.2[i]? = some x → ∀ c ∈ S.2, S.1 c ≤ S.1 x + 1
  done : ∀ j x, S.2[j]? = some x → ∀ d, d < 4 → (j < i ∨ (j = i ∧ d < m)) → 0 ≤ s x d → 0 ≤ S.1 (s x d).toNat ∧ S.1 (s x d).toNat ≤ S.1 x + 1
  pred : ∀ c ∈ S.2, c = src ∨ ∃ c' d, c' ∈ S.2 ∧ d < 4 ∧ s c' d = (c : Int) ∧ S.1 c = S.1 c' + 1
theorem BInv.relax {s : Nat → Nat → Int} {v src : Nat} (hs : Rng s v) {S : (Nat → Int) × List Nat} {i m x : Nat} (hm : m < 4) (hx : S.2[i]? = some x) (I : BInv s v src S i m) :
    BInv s v src (relax s x m S) i (m + 1) ∧ (relax s x m S).2[i]? = some x := by
  have hxq : x ∈ S.2 := List.mem_of_getElem? hx
  have hi : i < S.2.length := by
    rcases Nat.lt_or_ge i S.2.length with h | h
    · exact h
    · rw [List.getElem?_eq_none h] at hx; cases hx
  have hxv := I.inr x hxq
  have hx0 := (I.mem x).2 hxq
  unfold Go.Proofs.Ytoohcdfokejkdaa.P.relax
  by_cases hc : 0 ≤ s x m ∧ S.1 (s x m).toNat < 0
  · rw [if_pos hc]
    obtain ⟨y, hy⟩ : ∃ y : Nat, s x m = y := ⟨(s x m).toNat, by omega⟩
    have hyv : y < v := by have := hs x m hxv hm; omega
    rw [hy] at hc ⊢
    simp only [Int.toNat_natCast] at hc ⊢
    have hyq : y ∉ S.2 := fun h => by have := (I.mem y).2 h; omega
    have keep : ∀ c, c ∈ S.2 → upd S.1 y (S.1 x + 1) c = S.1 c := by
      intro c h
      unfold upd
      rw [if_neg]
      rintro rfl
      exact hyq h
    have uy : upd S.1 y (S.1 x + 1) y = S.1 x + 1 := by unfold upd; rw [if_pos rfl]
    have idx : ∀ j z, (S.2 ++ [y])[j]? = some z → S.2[j]? = some z ∨ (j = S.2.length ∧ z = y) := by
      intro j z h
      rcases Nat.lt_or_ge j S.2.length with h1 | h1
      · rw [List.getElem?_append_left h1] at h; exact .inl h
      · rw [List.getElem?_append_right h1] at h
        have : j - S.2.length = 0 := by
          rcases Nat.eq_zero_or_pos (j - S.2.length) with h2 | h2
          · exact h2
          · rw [List.getElem?_eq_none (by simp only [List.length_singleton]; omega)] at h; cases h
        rw [this] at h
        simp at h
        exact .inr ⟨by omega, h.symm⟩
    have I0 : ∀ c, (upd S.1 y (S.1 x + 1), S.2 ++ [y]).1 c = 0 → c = src := by
      intro c
      show upd _ _ _ c = 0 → _
      unfold upd
      split
      · intro h; omega
      · exact I.zero c
    refine ⟨{ src0 := ?_, zero := I0, srcq := ?_, inr := ?_, nodup := ?_, neg := ?_, mem := ?_, sorted := ?_, top := ?_, done := ?_, pred := ?_ }, by rw [List.getElem?_append_left hi]; exact hx⟩
    · show upd _ _ _ src = 0
      rw [keep _ I.srcq]; exact I.src0
    · exact List.mem_append_left _ I.srcq
    · intro c hcq
      rcases List.mem_append.1 hcq with h | h
      · exact I.inr c h
      · simp at h; omega
    · rw [List.nodup_append]
      refine ⟨I.nodup, by simp, ?_⟩
      intro a ha b hb hab
      simp at hb
      subst hab hb
      exact hyq ha
    · intro c
      show upd _ _ _ c = -1 ∨ 0 ≤ upd _ _ _ c
      by_cases e : c = y
      · subst e; rw [uy]; omega
      · rw [show upd S.1 y (S.1 x + 1) c = S.1 c from if_neg e]; exact I.neg c
    · intro c
      rw [List.mem_append, List.mem_singleton]
      show 0 ≤ upd _ _ _ c ↔ _
      unfold upd
      by_cases e : c = y
      · rw [if_pos e]; exact ⟨fun _ => .inr e, fun _ => by omega⟩
      · rw [if_neg e, I.mem]; simp [e]
    · rw [List.pairwise_append]
      refine ⟨I.sorted.imp_of_mem fun {a b} ha hb h => ?_, by simp, ?_⟩
      · show upd _ _ _ a ≤ upd _ _ _ b
        rw [keep a ha, keep b hb]; exact h
      · intro a ha b hb
        simp at hb
        subst hb
        show upd _ _ _ a ≤ upd _ _ _ b
        rw [keep a ha, uy]
        exact I.top x hx a ha
    · intro z hz c hcq
      rw [List.getElem?_append_left hi, hx] at hz
      obtain rfl := Option.some.inj hz
      show upd _ _ _ c ≤ upd _ _ _ x + 1
      rw [keep x hxq]
      rcases List.mem_append.1 hcq with h | h
      · rw [keep c h]; exact I.top x hx c h
      · simp at h; subst h; rw [uy]; omega
    · intro j z hz d hd hj h0
      rcases idx j z hz with h | ⟨h, _⟩
      · have hzq : z ∈ S.2 := List.mem_of_getElem? h
        show 0 ≤ upd _ _ _ _ ∧ upd _ _ _ _ ≤ upd _ _ _ z + 1
        rw [keep z hzq]
        by_cases e : j = i ∧ d = m
        · obtain ⟨rfl, rfl⟩ := e
          rw [hx] at h
          obtain rfl := Option.some.inj h
          rw [hy, Int.toNat_natCast, uy]
          omega
        · have := I.done j z h d hd (by omega) h0
          have h1 := (I.mem _).1 this.1
          rw [keep _ h1]
          exact this
      · omega
    · intro c hcq
      rcases List.mem_append.1 hcq with h | h
      · rcases I.pred c h with h1 | ⟨c', d, h1, h2, h3, h4⟩
        · exact .inl h1
        · refine .inr ⟨c', d, List.mem_append_left _ h1, h2, h3, ?_⟩
          show upd _ _ _ c = upd _ _ _ c' + 1
          rw [keep c h, keep c' h1]; exact h4
      · simp at h
        subst h
        refine .inr ⟨x, m, List.mem_append_left _ hxq, hm, hy, ?_⟩
        show upd _ _ _ c = upd _ _ _ x + 1
        rw [uy, keep x hxq]
  · rw [if_neg hc]
    refine ⟨{ I with done := ?_ }, hx⟩
    intro j z hz d hd hj h0
    by_cases e : j = i ∧ d = m
    · obtain ⟨rfl, rfl⟩ := e
      rw [hx] at hz
      obtain rfl := Option.some.inj hz
      have h1 : 0 ≤ S.1 (s x d).toNat := by
        have := I.neg (s x d).toNat
        omega
      exact ⟨h1, I.top x hx _ ((I.mem _).1 h1)⟩
    · exact I.done j z hz d hd (by omega) h0
theorem BInv.next {s : Nat → Nat → Int} {v src : Nat} {S : (Nat → Int) × List Nat} {i x : Nat} (hx : S.2[i]? = some x) (I : BInv s v src S i 4) : BInv s v src S (i + 1) 0 :=
  { I with
    top := fun z hz c hc => by
      have h1 := I.top x hx c hc
      have h2 := List.pairwise_iff_getElem.1 I.sorted i (i + 1)
      obtain ⟨a, rfl⟩ := List.getElem?_eq_some_iff.1 hx
      obtain ⟨b, rfl⟩ := List.getElem?_eq_some_iff.1 hz
      have := h2 a b (by omega)
      omega
    done := fun j z hz d hd hj h0 => I.done j z hz d hd (by omega) h0 }
theorem BInv.round {s : Nat → Nat → Int} {v src : Nat} (hs : Rng s v) {S : (Nat → Int) × List Nat} {i x : Nat} (hx : S.2[i]? = some x) (I : BInv s v src S i 0) : BInv s v src (bround s x S) (i + 1) 0 := by
  obtain ⟨I1, h1⟩ := I.relax hs (by omega) hx
  obtain ⟨I2, h2⟩ := I1.relax hs (by omega) h1
  obtain ⟨I3, h3⟩ := I2.relax hs (by omega) h2
  obtain ⟨I4, h4⟩ := I3.relax hs (by omega) h3
  exact I4.next h4
theorem nodup_len {v : Nat} : ∀ {q : List Nat}, q.Nodup → (∀ c ∈ q, c < v) → q.length ≤ v := by
  induction v with
  | zero =>
    intro q _ h
    cases q with
    | nil => simp
    | cons a l => have := h a (by simp); omega
  | succ v ih =>
    intro q hn h
    have h1 := ih (q := q.erase v) (hn.erase v) (fun c hc => by
      have h1 := h c (List.mem_of_mem_erase hc)
      have : c ≠ v := by rintro rfl; exact absurd hc (List.Nodup.not_mem_erase hn)
      omega)
    have h2 := List.length_erase (a := v) (l := q)
    split at h2 <;> omega
theorem BInv.len {s : Nat → Nat → Int} {v src : Nat} {S : (Nat → Int) × List Nat} {i m : Nat} (I : BInv s v src S i m) : S.2.length ≤ v := nodup_len I.nodup I.inr
/-- What distances are. -/
structure Dist (s : Nat → Nat → Int) (v src : Nat) (D : Nat → Int) : Prop where
  src0 : D src = 0
  zero : ∀ c, D c = 0 → c = src
  neg : ∀ c, D c = -1 ∨ 0 ≤ D c
  inr : ∀ c, 0 ≤ D c → c < v
  lip : ∀ x d, d < 4 → 0 ≤ D x → 0 ≤ s x d → 0 ≤ D (s x d).toNat ∧ D (s x d).toNat ≤ D x + 1
  pred : ∀ c, 0 < D c → ∃ c' d, d < 4 ∧ s c' d = (c : Int) ∧ 0 ≤ D c' ∧ D c = D c' + 1
/-- Steps are the edges of n. -/
structure Net (s : Nat → Nat → Int) (e : Nat → Nat × Nat) (v n : Nat) : Prop where
  rng : Rng s v
  edge : ∀ x d, x < v → d < 4 → 0 ≤ s x d → ∃ k, n.testBit k = true ∧ (e k = (x, (s x d).toNat) ∨ e k = ((s x d).toNat, x))
  lt : ∀ k, n.testBit k = true → (e k).1 < v ∧ (e k).2 < v
  fwd : ∀ k, n.testBit k = true → ∃ d, d < 4 ∧ s (e k).1 d = ((e k).2 : Int)
  bwd : ∀ k, n.testBit k = true → ∃ d, d < 4 ∧ s (e k).2 d = ((e k).1 : Int)
end Go.Proofs.Ytoohcdfokejkdaa.P
namespace Go.Proofs.Ytoohcdfokejkdaa.P
open Go.RowKit Go.Proofs.YtoohcdfokejkdaaW.PrintWords Go.Proofs.YtoohcdfokejkdaaW.PrintLast Go.Proofs.YtoohcdfokejkdaaW.PrintMore
attribute [local go_sem] max2_int min2_int max_two min_two max_three min_three max_four min_four   -- for this text's walks alone
set_option linter.unusedVariables false
set_option linter.unusedSimpArgs false

/-! ### impl_distances: function 109 -/
/-! ### spec_l04Distances: function 132 -/
end Go.Proofs.Ytoohcdfokejkdaa.P
namespace Go.Proofs.Ytoohcdfokejkdaa.P
open Go.RowKit Go.Proofs.YtoohcdfokejkdaaW.PrintWords
set_option linter.unusedVariables false
set_option linter.unusedSimpArgs false

/-- What is kept while the search goes on. -/
structure SI (v : Nat) (S : (Nat → Int) × List Nat) : Prop where
  le : ∀ c, S.1 c ≤ S.2.length
  low : ∀ c, -1 ≤ S.1 c
  lt : ∀ c ∈ S.2, c < v
theorem SI.relax {v : Nat} {s : Nat → Nat → Int} (hs : Rng s v) {S : (Nat → Int) × List Nat} (I : SI v S) {x d : Nat} (hx : x < v) (hd : d < 4) : SI v (relax s x d S) ∧ (relax s x d S).2.length ≤ S.2.length + 1 ∧ ∀ (i z : Nat), S.2[i]? = some z → (relax s x d S).2[i]? = some z := by
  unfold Go.Proofs.Ytoohcdfokejkdaa.P.relax
  split
  · rename_i hc
    refine ⟨⟨fun c => ?_, fun c => ?_, fun c hcq => ?_⟩, by simp, fun i z hz => ?_⟩
    · have := I.le c
      have := I.le x
      show upd _ _ _ c ≤ _
      unfold upd
      simp only [List.length_append, List.length_singleton]
      split <;> omega
    · have := I.low c
      have := I.low x
      show _ ≤ upd _ _ _ c
      unfold upd
      split <;> omega
    · rcases List.mem_append.1 hcq with h | h
      · exact I.lt c h
      · simp at h
        have := hs x d hx hd
        omega
    · have hi := (List.getElem?_eq_some_iff.1 hz).1
      rw [List.getElem?_append_left hi]; exact hz
  · exact ⟨I, by omega, fun i z hz => hz⟩
section
variable {w h : Int} {n : Nat} (hg : gridOk w h = true) (hn : n < 2 ^ gapsN w h)
include hg hn
end
end Go.Proofs.Ytoohcdfokejkdaa.P
namespace Go.Proofs.Ytoohcdfokejkdaa.P
open Go.RowKit Go.Proofs.YtoohcdfokejkdaaW.PrintWords
set_option linter.unusedVariables false
set_option linter.unusedSimpArgs false

def dl (x y : Nat) : Int := if x = y then 1 else 0
/-- An edge as a vector over the vertices that stand for their parts, without the root. -/
def vg (l : Nat → Nat) (r : Nat) (e : Nat × Nat) (x : Nat) : Int := if x = r then 0 else dl x (l e.1) - dl x (l e.2)
section
variable {e : Nat → Nat × Nat} {E : Nat} {l : Nat → Nat} {r : Nat} {U : Nat → Bool} {g P Q : Nat}
variable (hl : ∀ x, l (l x) = l x) (hr : l r = r) (hg : g < E) (hU : U g = true) (hP : P = l (e g).1 ∧ Q = l (e g).2 ∨ P = l (e g).2 ∧ Q = l (e g).1) (hPQ : P ≠ Q)
include hl hr hg hU hP hPQ
end
end Go.Proofs.Ytoohcdfokejkdaa.P
namespace Go.Proofs.Ytoohcdfokejkdaa.P
open Go.RowKit Go.Proofs.YtoohcdfokejkdaaW.PrintWords
set_option linter.unusedVariables false
set_option linter.unusedSimpArgs false

/-- One entry changed. -/
def put (f : Nat → Nat → Int) (a b : Nat) (v : Int) : Nat → Nat → Int := fun r => if r = a then upd (f a) b v else f r
/-- Bounded entries. -/
def Bd (f : Nat → Nat → Int) (B : Int) : Prop := ∀ i j, -B ≤ f i j ∧ f i j ≤ B
theorem Bd.mono {f : Nat → Nat → Int} {B C : Int} (h : Bd f B) (hc : B ≤ C) : Bd f C := fun i j => by have := h i j; omega
/-- A matrix without a row and the column of the same number. -/
def minorL (m : List (List Int)) (r : Nat) : List (List Int) := (m.eraseIdx r).map fun row => row.eraseIdx r
theorem minor_snoc (l : List (List Int)) (x : List Int) (r : Nat) : minorL (l ++ [x]) r = if r = l.length then l.map (fun row => row.eraseIdx r) else minorL l r ++ [x.eraseIdx r] := by
  unfold minorL
  rcases Nat.lt_trichotomy r l.length with h | h | h
  · rw [if_neg (by omega), List.eraseIdx_append_of_lt_length h, List.map_append]; rfl
  · rw [if_pos h, List.eraseIdx_append_of_length_le (by omega), h, Nat.sub_self]; simp
  · rw [if_neg (by omega), List.eraseIdx_append_of_length_le (by omega), List.eraseIdx_of_length_le (by omega : l.length ≤ r), List.eraseIdx_of_length_le (show [x].length ≤ r - l.length by simp; omega), List.map_append]
    rfl
theorem minor_len_le (l : List (List Int)) (r : Nat) : (minorL l r).length ≤ l.length := by
  unfold minorL
  rw [List.length_map, List.length_eraseIdx]
  split <;> omega
theorem without_l0 (m : List (List Int)) (r : Nat) (hm : m.length ≤ 1048576) (hrow : ∀ row ∈ m, r < row.length ∧ row.length ≤ 1048576) : ∀ (d i : Nat), i + d = m.length →
    Ev (fun k => impl_without.l0 k r (minorL (m.take i) r) m (m.length : Int) i) (minorL m r)
  | 0, i, hd => by
    refine Ev.step (fun _ => impl_without.l0.eq_2 ..) (Ev.ff (by omega) (Ev.ret ?_))
    rw [List.take_of_length_le (by omega)]
  | d + 1, i, hd => by
    have hi : i < m.length := by omega
    have ht : m.take (i + 1) = m.take i ++ [m[i]] := by rw [List.take_succ_eq_append_getElem hi]
    have hl : (m.take i).length = i := by rw [List.length_take]; omega
    have hle := minor_len_le (m.take i) r
    obtain ⟨q1, q2⟩ := hrow _ (List.getElem_mem hi)
    have ih := without_l0 m r hm hrow d (i + 1) (by omega)
    rw [ht, minor_snoc, hl] at ih
    refine Ev.step (fun _ => impl_without.l0.eq_2 ..) (Ev.tt (by omega) (Ev.tt (by omega) (Ev.tt (by omega) ?_)))
    rw [wsucc (by omega)]
    refine Ev.ite (fun e => ?_) (fun e => ?_)
    · have er : r = i := by omega
      rw [if_pos er] at ih
      have : minorL (m.take i) r = (m.take i).map fun row => row.eraseIdx r := by
        unfold minorL
        rw [List.eraseIdx_of_length_le (by omega)]
      rw [this]
      exact ih
    · rw [if_neg (by omega)] at ih
      have hdel : slices_Delete_int_int.f (rd_L2 m (i : Int)) (r : Int) (wrap64 ((r : Int) + 1)) = some (m[i].eraseIdx r) := by
        rw [rdL_get hi, wsucc (by omega)]
        unfold slices_Delete_int_int.f
        rw [if_pos ⟨by omega, by omega, by omega, by omega⟩]
        congr 1
        rw [Int.toNat_natCast, Int.toNat_natCast, ← List.eraseIdx_eq_take_drop_succ]
      exact Ev.bnd0 hdel (Ev.tt (by omega) ih)
theorem without_ev (m : List (List Int)) (r : Nat) (hm : m.length ≤ 1048576) (hrow : ∀ row ∈ m, r < row.length ∧ row.length ≤ 1048576) : Ev (fun k => impl_without.f k m r) (minorL m r) := by
  unfold impl_without.f
  have := without_l0 m r hm hrow m.length 0 (by omega)
  rwa [List.take_zero, show minorL [] r = [] by simp [minorL]] at this
end Go.Proofs.Ytoohcdfokejkdaa.P
namespace Go.Proofs.Ytoohcdfokejkdaa.P
open Go.RowKit Go.Proofs.YtoohcdfokejkdaaW.PrintWords
set_option linter.unusedVariables false
set_option linter.unusedSimpArgs false

section
variable {e : Nat → Nat × Nat} {V E : Nat}
/-- Labels P tell the parts of o; no loop; what was looked at is joined. -/
structure KInv (e : Nat → Nat × Nat) (V E : Nat) (done : Nat → Prop) (P : Nat → Int) (o : Nat) : Prop where
  lt : o < 2 ^ E
  lab : ∀ x y, x < V → y < V → (P x = P y ↔ Cn e o x y)
  fo : pop E o + parts e V E o = V
  dn : ∀ g, g < E → done g → Cn e o (e g).1 (e g).2
theorem KInv.skip {done : Nat → Prop} {P : Nat → Int} {o g : Nat} (hG : Gr e V E) (K : KInv e V E done P o) (hg : g < E) (h : P (e g).1 = P (e g).2) : KInv e V E (fun j => done j ∨ j = g) P o :=
  ⟨K.lt, K.lab, K.fo, fun j hj hd => hd.elim (K.dn j hj) (fun h2 => by subst h2; exact (K.lab _ _ (hG j hg).1 (hG j hg).2).1 h)⟩
end
end Go.Proofs.Ytoohcdfokejkdaa.P
namespace Go.Proofs.Ytoohcdfokejkdaa.P
open Go.RowKit Go.Proofs.YtoohcdfokejkdaaW.PrintWords Go.Proofs.YtoohcdfokejkdaaW.PrintLast Go.Proofs.YtoohcdfokejkdaaW.PrintMore
attribute [local go_sem] max2_int min2_int max_two min_two max_three min_three max_four min_four   -- for this text's walks alone
set_option linter.unusedVariables false
set_option linter.unusedSimpArgs false

/-! ### spec_EndsOf: function 84 -/
/-! ### spec_l01PickInt: function 120 -/
/-! ### spec_l02Grid: function 105 -/
/-! ### spec_l03Common: function 125 -/
/-! ### spec_l03Tree: function 113 -/
/-! ### spec_l05Tree: function 87 -/
/-! ### spec_DrawPerfect: function 42 -/
end Go.Proofs.Ytoohcdfokejkdaa.P
namespace Go.Proofs.Ytoohcdfokejkdaa.P
open Go Go.RowKit Go.Proofs.YtoohcdfokejkdaaW.PrintWords
set_option linter.unusedVariables false
set_option linter.unusedSimpArgs false

theorem bits_255 (x : Int) : 0 ≤ Go.bits .and .i64 x 255 ∧ Go.bits .and .i64 x 255 ≤ 255 := by
  have h : (BitVec.ofInt 64 x &&& BitVec.ofInt 64 255).toNat ≤ 255 := by
    rw [BitVec.toNat_and]
    exact Nat.and_le_right
  show 0 ≤ IntKind.i64.wrap ((BitVec.ofInt 64 x &&& BitVec.ofInt 64 255).toNat : Int) ∧ IntKind.i64.wrap ((BitVec.ofInt 64 x &&& BitVec.ofInt 64 255).toNat : Int) ≤ 255
  rw [wrap_small (by omega)]
  omega
section
variable {l : List Int}
theorem spec_New_l0 (hl : l.length ≤ 1048576) : ∀ (e i : Nat) (h : Int), l.length - i = e → ∃ h', Ev (fun k => spec_l01New.l0 k l h i) (l, 0, h')
  | 0, i, h, he => ⟨h, Ev.step (fun _ => spec_l01New.l0.eq_2 ..) (Ev.ff (by omega) (Ev.ret rfl))⟩
  | e + 1, i, h, he => by
    by_cases h4 : (i : Int) < 4000
    · obtain ⟨h', ih⟩ := spec_New_l0 hl e (i + 1) (Go.bits .and .i64 (wrap64 ((wrap64 ((wrap64 (h * 131)) + (wrap64 (rd l i)))) + 7)) 1073741823) (by omega)
      refine ⟨h', Ev.step (fun _ => spec_l01New.l0.eq_2 ..) (Ev.tt (by omega) (Ev.tt h4 (Ev.tt (by omega) ?_)))⟩
      rw [wsucc (by omega)]
      exact ih
    · exact ⟨h, Ev.step (fun _ => spec_l01New.l0.eq_2 ..) (Ev.tt (by omega) (Ev.ff h4 (Ev.ret rfl)))⟩
theorem spec_New_ev (hl : l.length ≤ 1048576) : ∃ h', Ev (fun k => spec_l01New.f k l) (l, 0, h') := spec_New_l0 hl l.length 0 _ rfl
theorem spec_Byte_eq (hl : l.length ≤ 1048576) {i : Int} (hi : 0 ≤ i) (h : Int) : ∃ b i' h', spec_l01Byte.f l i h = some (b, i', h') ∧ 0 ≤ b ∧ b ≤ 255 ∧ 0 ≤ i' := by
  unfold spec_l01Byte.f
  by_cases e : i < (l.length : Int)
  · rw [if_pos e, if_pos hi]
    exact ⟨_, _, _, rfl, (bits_255 _).1, (bits_255 _).2, by rw [wrap64_id (by omega) (by omega)]; omega⟩
  · rw [if_neg e]
    exact ⟨_, _, _, rfl, (bits_255 _).1, (bits_255 _).2, hi⟩
theorem spec_Below_eq (hl : l.length ≤ 1048576) {i : Int} (hi : 0 ≤ i) (h : Int) {n : Int} (h1 : 1 ≤ n) (h2 : n ≤ 256) : ∃ b i' h', spec_l01Below.f l i h n = some (b, i', h') ∧ 0 ≤ b ∧ b < n ∧ 0 ≤ i' := by
  obtain ⟨b, i', h', e, b0, b1, hi'⟩ := spec_Byte_eq hl hi h
  unfold spec_l01Below.f
  rw [if_neg (by omega), if_pos h2, e, Option.bind_some, if_neg (by omega)]
  exact ⟨_, _, _, rfl, Int.tmod_nonneg _ b0, Int.tmod_lt_of_pos _ (by omega), hi'⟩
end
/-! The step that the draw takes -/
/-! Labels as a table -/
end Go.Proofs.Ytoohcdfokejkdaa.P
namespace Go.Proofs.Ytoohcdfokejkdaa.P
open Go.RowKit Go.Proofs.YtoohcdfokejkdaaW.PrintWords
set_option linter.unusedVariables false
set_option linter.unusedSimpArgs false

theorem at_eq {l : List Int} (hl : l.length ≤ 1048576) (hz : ∀ x ∈ l, 0 ≤ x ∧ x ≤ 255) {a : Int} (h0 : 0 ≤ a) (h1 : a ≤ 9) : ∃ v, laws_at.f l a = some v ∧ 0 ≤ v ∧ v ≤ 255 := by
  unfold laws_at.f
  by_cases e : (l.length : Int) = 0
  · exact ⟨0, if_pos e, by omega, by omega⟩
  · rw [if_neg e, wrap64_id (x := a * 5) (by omega) (by omega), wrap64_id (x := a * 5 + 1) (by omega) (by omega)]
    have t0 : 0 ≤ Int.tmod (a * 5 + 1) (l.length : Int) := Int.tmod_nonneg _ (by omega)
    have t1 : Int.tmod (a * 5 + 1) (l.length : Int) < (l.length : Int) := Int.tmod_lt_of_pos _ (by omega)
    rw [if_pos t0, if_pos t1]
    obtain ⟨i, hi⟩ := Int.eq_ofNat_of_zero_le t0
    rw [hi] at t1 ⊢
    have hm := hz _ (List.getElem_mem (show i < l.length by omega))
    refine ⟨_, rfl, ?_⟩
    show 0 ≤ wrap64 (rd l (i : Int)) ∧ wrap64 (rd l (i : Int)) ≤ 255
    rw [rd_get (show i < l.length by omega), wrap64_id (by omega) (by omega)]
    exact hm
end Go.Proofs.Ytoohcdfokejkdaa.P
namespace Go.Proofs.Ytoohcdfokejkdaa.P
open Go.RowKit Go.Proofs.YtoohcdfokejkdaaW.PrintWords Go.Proofs.Ytoohcdfokejkdaa.Sup
set_option linter.unusedVariables false
set_option linter.unusedSimpArgs false

/-- A drawn matrix: square, at most 5 rows, numbers from -2 to 2. -/
def DrawnM (n : Nat) (m : List (List Int)) : Prop := ∀ row ∈ m, row.length = n ∧ ∀ x ∈ row, -2 ≤ x ∧ x ≤ 2
theorem sq_l1 {xs : List Int} (hl : xs.length ≤ 1048576) {n : Nat} (hn : n ≤ 5) {m : List (List Int)} {i : Nat} {P : List Int → Int → Int → Prop} : ∀ (e j : Nat) (row : List Int) (i1 h1 : Int), j + e = n → row.length = j → (∀ x ∈ row, -2 ≤ x ∧ x ≤ 2) → 0 ≤ i1 →
    ∃ (row' : List Int) (i2 h2 : Int), row'.length = n ∧ (∀ x ∈ row', -2 ≤ x ∧ x ≤ 2) ∧ 0 ≤ i2 ∧ ∀ r : List (List Int) × Int × Int, m.length ≤ 1000 → Ev (fun k => spec_l11Square.l0 k (m ++ [row']) n ((i + 1 : Nat) : Int) xs i2 h2) r → i ≤ 1000 → Ev (fun k => spec_l11Square.l1 k m n i row j xs i1 h1) r
  | 0, j, row, i1, h1, he, hr, hx, hi => by
    refine ⟨row, i1, h1, by omega, hx, hi, fun r hm ev hi' => ?_⟩
    refine Ev.step (fun _ => spec_l11Square.l1.eq_2 ..) (Ev.ff (by omega) (Ev.tt (by omega) ?_))
    rw [wsucc (by omega)]
    exact ev
  | e + 1, j, row, i1, h1, he, hr, hx, hi => by
    obtain ⟨b, i2, h2, f1, b0, b1, hi2⟩ := spec_Below_eq hl hi h1 (n := 5) (by omega) (by omega)
    obtain ⟨row', i3, h3, r1, r2, r3, r4⟩ := sq_l1 (xs := xs) (m := m) (i := i) (P := P) hl hn e (j + 1) (row ++ [b - 2]) i2 h2 (by omega) (by simp [hr]) (fun x hm => by
      rcases List.mem_append.1 hm with h | h
      · exact hx x h
      · rw [List.mem_singleton.1 h]; omega) hi2
    refine ⟨row', i3, h3, r1, r2, r3, fun r hm ev hi' => ?_⟩
    refine Ev.step (fun _ => spec_l11Square.l1.eq_2 ..) (Ev.tt (by omega) (Ev.bnd0 f1 (Ev.tt (by omega) ?_)))
    rw [wrap64_id (x := b - 2) (by omega) (by omega), wsucc (by omega)]
    exact r4 r hm ev hi'
theorem sq_l0 {xs : List Int} (hl : xs.length ≤ 1048576) {n : Nat} (hn : n ≤ 5) : ∀ (e i : Nat) (m : List (List Int)) (i1 h1 : Int), i + e = n → m.length = i → DrawnM n m → 0 ≤ i1 →
    ∃ (m' : List (List Int)) (i2 h2 : Int), m'.length = n ∧ DrawnM n m' ∧ Ev (fun k => spec_l11Square.l0 k m n i xs i1 h1) (m', i2, h2)
  | 0, i, m, i1, h1, he, hm, hd, hi => ⟨m, i1, h1, by omega, hd, Ev.step (fun _ => spec_l11Square.l0.eq_2 ..) (Ev.ff (by omega) (Ev.ret rfl))⟩
  | e + 1, i, m, i1, h1, he, hm, hd, hi => by
    obtain ⟨row, i2, h2, r1, r2, r3, r4⟩ := sq_l1 (xs := xs) (m := m) (i := i) (P := fun _ _ _ => True) hl hn n 0 [] i1 h1 (by omega) rfl (by simp) hi
    obtain ⟨m', i3, h3, q1, q2, q3⟩ := sq_l0 hl hn e (i + 1) (m ++ [row]) i2 h2 (by omega) (by simp [hm]) (fun x hx => by
      rcases List.mem_append.1 hx with h | h
      · exact hd x h
      · rw [List.mem_singleton.1 h]; exact ⟨r1, r2⟩) r3
    refine ⟨m', i3, h3, q1, q2, Ev.step (fun _ => spec_l11Square.l0.eq_2 ..) (Ev.tt (by omega) ?_)⟩
    exact r4 _ (by omega) q3 (by omega)
theorem spec_DrawSquare_ev {l : List Int} (hl : l.length ≤ 1048576) : ∃ m : List (List Int), m.length ≤ 5 ∧ DrawnM m.length m ∧ Ev (fun k => spec_DrawSquare.f k l) m := by
  obtain ⟨h', e1⟩ := spec_New_ev hl
  obtain ⟨b, i2, h2, f1, b0, b1, hi2⟩ := spec_Below_eq hl (i := 0) (by omega) h' (n := 6) (by omega) (by omega)
  obtain ⟨n, rfl⟩ := Int.eq_ofNat_of_zero_le b0
  obtain ⟨m, i3, h3, q1, q2, q3⟩ := sq_l0 hl (n := n) (by omega) n 0 [] i2 h2 (by omega) rfl (fun _ h => by cases h) hi2
  refine ⟨m, by omega, by rw [q1]; exact q2, ?_⟩
  unfold spec_DrawSquare.f
  refine Ev.bind e1 (Ev.bind (a := (m, i3, h3)) ?_ (Ev.ret rfl))
  unfold spec_l11Square.f
  exact Ev.bnd0 f1 q3
theorem sumAbs_two : ∀ row : List Int, (∀ x ∈ row, -2 ≤ x ∧ x ≤ 2) → sumAbs row ≤ 2 * row.length
  | [], _ => by simp [sumAbs]
  | x :: t, h => by
    have h1 := h x List.mem_cons_self
    have h2 := sumAbs_two t fun y hy => h y (List.mem_cons_of_mem _ hy)
    rw [sumAbs_cons, List.length_cons]
    omega
theorem drawn_ok {m : List (List Int)} (h5 : m.length ≤ 5) (hd : DrawnM m.length m) : squareOk m = true := by
  unfold squareOk rowOk
  rw [Bool.and_eq_true, decide_eq_true_eq, List.all_eq_true]
  refine ⟨by omega, fun row hr => ?_⟩
  obtain ⟨h1, h2⟩ := hd row hr
  have := sumAbs_two row h2
  rw [Bool.and_eq_true, Bool.and_eq_true, decide_eq_true_eq, decide_eq_true_eq, List.all_eq_true]
  refine ⟨⟨h1, fun x hx => ?_⟩, by omega⟩
  have := h2 x hx
  unfold small
  rw [decide_eq_true_eq]; omega
theorem detI_dt {m : List (List Int)} (h : squareOk m = true) : detI m = wrap64 (dt m.length (ent m)) := by
  unfold detI
  rw [if_pos h, Ds_full]
theorem rd_setL {L : List (List Int)} {i j : Nat} {v : List Int} (hi : i < L.length) : rd_L2 (L.set i v) (j : Int) = if j = i then v else rd_L2 L (j : Int) := by
  show (L.set i v).getD j [] = if j = i then v else L.getD j []
  rw [List.getD_eq_getElem?_getD, List.getD_eq_getElem?_getD, List.getElem?_set]
  by_cases e : i = j
  · subst e
    simp [hi]
  · rw [if_neg e, if_neg (fun q => e q.symm)]
theorem rdL_get2 {l : List (List Int)} {i : Nat} (h : i < l.length) : rd_L2 l (i : Int) = l[i] := by simp [rd_L2, List.getD_eq_getElem?_getD, List.getElem?_eq_getElem h]
theorem FnDeterminants_pure (l : List Int) (hy : l.length ≤ 140737488351232) (hz : ∀ x ∈ l, 0 ≤ x ∧ x ≤ 255) : ∃ k, laws_FnDeterminants.f k l = some true := by
  refine Ev.rounds ?_
  unfold laws_FnDeterminants.f
  refine Ev.bnd0 rfl (Ev.ite (fun _ => Ev.ret rfl) (fun hb => ?_))
  have hl : l.length ≤ 1048576 := by simp only [decide_eq_true_eq] at hb; omega
  obtain ⟨m, h5, hd, ed⟩ := spec_DrawSquare_ev hl
  have hok := drawn_ok h5 hd
  refine Ev.bind ed (Ev.ite (fun e => ?_) (fun e => ?_))
  · have e0 := impl_Determinant_ev [] (by simp)
    have hd0 : detI [] = 1 := by
      rw [detI_dt (by decide), show dt ([] : List (List Int)).length (ent []) = 1 from rfl, wrap64_id (by omega) (by omega)]
    rw [hd0] at e0
    have e1 := impl_SquareOk_ev m (by omega)
    rw [hok] at e1
    exact Ev.bind e0 (Ev.tt rfl (Ev.bind e1 (Ev.ret rfl)))
  · obtain ⟨v, ea, v0, v1⟩ := at_eq hl hz (a := 0) (by omega) (by omega)
    obtain ⟨u, eb, u0, u1⟩ := at_eq hl hz (a := 1) (by omega) (by omega)
    obtain ⟨n, hn⟩ : ∃ n : Nat, m.length = n := ⟨_, rfl⟩
    have hw1 : wrap64 ((m.length : Int) - 1) = (n : Int) - 1 := by rw [hn, wrap64_id (by omega) (by omega)]
    have t0 : 0 ≤ Int.tmod v (n : Int) := by rw [Int.tmod_eq_emod_of_nonneg v0]; exact Int.emod_nonneg _ (by omega)
    have t1 : Int.tmod v (n : Int) < (n : Int) := by rw [Int.tmod_eq_emod_of_nonneg v0]; exact Int.emod_lt_of_pos _ (by omega)
    have s0 : 0 ≤ Int.tmod u ((n : Int) - 1) := by rw [Int.tmod_eq_emod_of_nonneg u0]; exact Int.emod_nonneg _ (by omega)
    have s1 : Int.tmod u ((n : Int) - 1) < (n : Int) - 1 := by rw [Int.tmod_eq_emod_of_nonneg u0]; exact Int.emod_lt_of_pos _ (by omega)
    refine Ev.bnd0 ea (Ev.ff (by omega) (Ev.bnd0 eb ?_))
    rw [hw1, hn]
    generalize Int.tmod v (n : Int) = vi at *
    generalize Int.tmod u ((n : Int) - 1) = uj at *
    obtain ⟨i, rfl⟩ := Int.eq_ofNat_of_zero_le t0
    obtain ⟨j, rfl⟩ := Int.eq_ofNat_of_zero_le s0
    have hw2 : wrap64 (wrap64 ((i : Int) + 1) + (j : Int)) = ((i + 1 + j : Nat) : Int) := by rw [wrap64_id (x := (i : Int) + 1) (by omega) (by omega), wrap64_id (by omega) (by omega)]; omega
    have hk : Int.tmod ((i + 1 + j : Nat) : Int) (n : Int) = (((i + 1 + j) % n : Nat) : Int) := by rw [Int.tmod_eq_emod_of_nonneg (by omega)]; omega
    rw [hw2, hk]
    have hkl : (i + 1 + j) % n < n := Nat.mod_lt _ (by omega)
    have hki : (i + 1 + j) % n ≠ i := by
      by_cases hh : i + 1 + j < n
      · rw [Nat.mod_eq_of_lt hh]; omega
      · rw [Nat.mod_eq_sub_mod (by omega), Nat.mod_eq_of_lt (by omega)]; omega
    generalize (i + 1 + j) % n = k at *
    have hi : i < m.length := by omega
    have hkm : k < m.length := by omega
    have hB : ((([] : List (List Int)) ++ m).set ((i : Int)).toNat (rd_L2 m (k : Int))).set ((k : Int)).toNat (rd_L2 m (i : Int)) = (m.set i m[k]).set k m[i] := by
      rw [rdL_get2 hkm, rdL_get2 hi]; rfl
    have hC : (([] : List (List Int)) ++ m).set ((i : Int)).toNat (rd_L2 m (k : Int)) = m.set i m[k] := by
      rw [rdL_get2 hkm]; rfl
    have hBl : ((m.set i m[k]).set k m[i]).length = m.length := by simp
    have hCl : (m.set i m[k]).length = m.length := by simp
    have hdC : DrawnM m.length (m.set i m[k]) := fun row hr => by
      rcases List.mem_or_eq_of_mem_set hr with h | h
      · exact hd row h
      · rw [h]; exact hd _ (List.getElem_mem hkm)
    have hdB : DrawnM m.length ((m.set i m[k]).set k m[i]) := fun row hr => by
      rcases List.mem_or_eq_of_mem_set hr with h | h
      · exact hdC row h
      · rw [h]; exact hd _ (List.getElem_mem hi)
    have hokB := drawn_ok (m := (m.set i m[k]).set k m[i]) (by omega) (by rw [hBl]; exact hdB)
    have hokC := drawn_ok (m := m.set i m[k]) (by omega) (by rw [hCl]; exact hdC)
    have eB := impl_Determinant_ev ((m.set i m[k]).set k m[i]) (by omega)
    have eA := impl_Determinant_ev m (by omega)
    have eC := impl_Determinant_ev (m.set i m[k]) (by omega)
    have dB : detI ((m.set i m[k]).set k m[i]) = wrap64 (-(detI m)) := by
      rw [detI_dt hokB, detI_dt hok, hBl]
      have h1 : dt m.length (ent ((m.set i m[k]).set k m[i])) = dt m.length (swp (ent m) i k) := dt_congr fun r c hr hc => by
        unfold ent swp
        rw [rd_setL (by rw [hCl]; exact hkm), rd_setL hi]
        by_cases er : r = i
        · rw [if_neg (by omega), if_pos er, if_pos er, ← rdL_get2 hkm]
        · by_cases ek : r = k
          · rw [if_pos ek, if_neg er, if_pos ek, ← rdL_get2 hi]
          · rw [if_neg ek, if_neg er, if_neg er, if_neg ek]
      rw [h1, dt_swp _ (Ne.symm hki) hi hkm]
      unfold wrap64
      omega
    have dC : detI (m.set i m[k]) = 0 := by
      rw [detI_dt hokC, hCl, dt_eq (i := i) (j := k) _ (Ne.symm hki) hi hkm fun c => ?_]
      · exact wrap64_id (by omega) (by omega)
      · unfold ent
        rw [rd_setL hi, rd_setL hi, if_pos rfl, if_neg hki, ← rdL_get2 hkm]
    have eW : Ev (fun q => impl_WithoutRow.f q m (i : Int)) (minorL m i) := by
      have e0 := impl_SquareOk_ev m (by omega)
      rw [hok] at e0
      unfold impl_WithoutRow.f
      exact Ev.bind e0 (Ev.tt rfl (Ev.ff (by omega) (Ev.ff (by omega) (Ev.bind (without_ev m i (by omega) (fun row hr => by have := (hd row hr).1; omega)) (Ev.ret rfl)))))
    have hwl : (minorL m i).length = n - 1 := by
      unfold minorL
      rw [List.length_map, List.length_eraseIdx, if_pos hi, hn]
    have eS := impl_SquareOk_ev ((m.set i m[k]).set k m[i]) (by omega)
    rw [hokB] at eS
    refine Ev.ff (by omega) (Ev.bnd0 rfl (Ev.tt (by simp; omega) (Ev.bnd0 rfl (Ev.tt (by omega) (Ev.tt (by omega) (Ev.tt (by omega) (Ev.tt (by simp; omega) (Ev.tt (by omega) (Ev.tt (by simp; omega) (Ev.bnd0 rfl (Ev.bnd0 rfl (Ev.tt (by simp; omega) (Ev.bnd0 rfl (Ev.tt (by simp; omega) ?_))))))))))))))
    rw [hB, hC]
    refine Ev.bind eB (Ev.bind eA (Ev.tt dB (Ev.bind eC (Ev.tt dC (Ev.bind eW (Ev.tt (by omega) (Ev.bind eS (Ev.ret rfl))))))))
end Go.Proofs.Ytoohcdfokejkdaa.P
namespace Go.Proofs.Ytoohcdfokejkdaa.fnDeterminants
open Go.ChangeShapes Go.WideShapes Go.ChangeAt Go.RowKit Go.Proofs.YtoohcdfokejkdaaW.PrintWords Go.Proofs.Ytoohcdfokejkdaa.Sup
open Go.ChangeMaps (open_string shut_string)
set_option linter.unusedVariables false
theorem own : ownKnob Try.prog.godebug = none := by kernel_rfl
theorem laidOut : laidOutB Try.prog = true := by kernel_rfl
set_option maxRecDepth 100000 in
theorem lifted (os : Os) (started : os.Started) (H : Type) (enc : TypeId × Value → H) :
    ReturnsInHanded {} Try.checked os 3 .any (Rows.fnDeterminantsSpec.pre6 enc Try.prog Try.f3 Rows.fnDeterminantsRow.domain false) (Rows.fnDeterminantsSpec.post enc Try.prog Try.f3 false true false false) := by
  refine returnsInHanded_of_change_sized (C := Try.checked) own started (by kernel_rfl) Try.func3
    (ChangeSpec.witness6 (enc := enc) (C := Try.checked) false ⟨#[], #[.slice none 0 0], []⟩ 8 (by kernel_rfl) (by kernel_rfl) (by kernel_rfl) (by kernel_rfl)) ?_
  intro W base args ds gs before hval0 hW hcnd hsz0 _
  have hsz : (DataW.weightsEach Try.prog (Try.f3.params.toList ++ Rows.fnDeterminantsSpec.plain.varTypes Try.prog) (ds ++ gs)).all (· ≤ reachBytes) = true := hsz0
  have hval : ∀ (j : Nat) t v, Try.f3.params[j]? = some t → args[j]? = some v → Value.okWide Try.prog W .any base t v := hval0
  have hW' := hW
  obtain ⟨p, q, hA0, hV, rfl, hfz, hnd⟩ := hW
  have hA : DataW.TrodAll enc Try.prog W 0 (fun _ => true) true Try.f3.params.toList args.toList ds p := hA0
  rw [Try.params3] at hA hval hsz
  obtain ⟨v0, vs0, d0, ds0, p0, q0, hargs, rfl, rfl, h0, r0⟩ := trodAll_cons hA
  obtain ⟨rfl, rfl, rfl⟩ := trodAll_nil r0
  obtain rfl : args = #[v0] := by cases args; simp_all
  obtain ⟨rfl, rfl⟩ := trodVars_none hV
  obtain ⟨a0, len0, cap0, rfl⟩ := okWide_slice Try.underlying22 (hval 0 22 v0 rfl rfl)
  have k0 := h0
  have lt0 : ∀ x ∈ p0, x.block < W.heap.size := by obtain ⟨m, hm⟩ := k0; exact DataW.trod_lt m _ _ _ hm
  obtain ⟨z0, w0⟩ : ∃ zs, IsRow .u8 W a0 len0 cap0 zs := by
    obtain ⟨fuel, hf⟩ := h0
    rcases open_ints Try.underlying22 Try.underlying5 (by kernel_rfl) hf with ⟨hcs, _⟩ | ⟨x, l, c, zs, hcs, _, hl, hm, hz, _, hcell, hwz⟩
    · simp [Value.cells] at hcs
      obtain ⟨rfl, rfl, rfl⟩ := hcs
      exact ⟨[], .inl ⟨rfl, rfl, rfl, rfl⟩⟩
    · simp [Value.cells] at hcs
      obtain ⟨rfl, rfl, rfl⟩ := hcs
      exact ⟨zs, .inr ⟨_, rfl, hl, hm, by simpa using hz, hcell, hwz⟩⟩
  have y0 : len0 * 1 ≤ 140737488351232 := sized_ints hsz (j := 0) (t := 22) rfl rfl Try.underlying22 Try.underlying5 (by kernel_rfl) (by kernel_rfl) h0
  obtain ⟨l0, rfl, hr0, hm0, hw0, hc0⟩ := ReadsInt.ofRowC w0
  clear hA0 hval0 hsz0 hsz
  obtain ⟨k, hf⟩ := P.FnDeterminants_pure l0 (by omega) (fun x hx => u8_of_wf (hw0 x hx))
  refine (P.laws_FnDeterminants.calls k _ _ l0 true W (Kd.C_of_reads (d := (0 : Int)) (h1 := fun _ => rfl) hr0) hc0 hf).mono fun e W' ⟨he, bel0⟩ => ?_
  have bel : Below W.heap.size W W' := bel0
  subst he
  exact ⟨_, rfl, _, _, _, [], _, [], hW', trodAll_mk1 (shut_bool Try.underlying4 _), (trodAll_cons_mk (Below.trod laidOut (by kernel_rfl) (of_decide_eq_true (by kernel_rfl)) k0 bel lt0) trodAll_mk0), rfl, bel.frame _, fun h => by cases h⟩
theorem over : Rows.fnDeterminantsRow.holds Try.pinned (OpenSpec.ofChange Rows.fnDeterminantsSpec) :=
  OpenClaim.holds_of_wide 3 Try.f3 rfl rfl rfl rfl rfl rfl rfl ⟨rfl, rfl, rfl, rfl, rfl⟩ rfl rfl rfl rfl rfl (by kernel_rfl) Try.func3 (by kernel_rfl)
    (of_decide_eq_true (by kernel_rfl)) (by unfold Func.isWrapper; first | (rw [if_pos (by decide +kernel)]; kernel_rfl) | (rw [if_neg (by decide +kernel)]; exact ⟨rfl, rfl⟩))
    (fun os started H enc _ => lifted os started H enc)
theorem proved : Rows.FnDeterminantsSaid := over
end Go.Proofs.Ytoohcdfokejkdaa.fnDeterminants
namespace Go.Proofs.Ytoohcdfokejkdaa
/-- The row, under a short name, for the claim. -/
theorem fnDeterminants_holds : Rows.FnDeterminantsSaid := fnDeterminants.proved
#print axioms fnDeterminants_holds
end Go.Proofs.Ytoohcdfokejkdaa
