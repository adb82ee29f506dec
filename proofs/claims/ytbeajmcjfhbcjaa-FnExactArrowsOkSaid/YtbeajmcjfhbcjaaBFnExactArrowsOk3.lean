/- The statement FnExactArrowsOk of the seat, out of its plain form (FnExactArrowsOk_pure) and the walk of its Go function. Part 3 of 3: each Go function's walk, then the plain lemmas, then the row. No condition: it holds for every input. -/
import Derived.Test.YtbeajmcjfhbcjaaBFnExactArrowsOk2
import Derived.Test.YtbeajmcjfhbcjaaRows
import Derived.Below
import Derived.ChangeOld
import Derived.OpenShut
import Derived.ProofKit
import Derived.ShutString
import Derived.SizedLaws
import Derived.WalkKit
namespace Go.Proofs.Ytbeajmcjfhbcjaa.P
open Go.RowKit Go.Proofs.YtbeajmcjfhbcjaaW.PrintWords
set_option linter.unusedVariables false
set_option linter.unusedSimpArgs false

def upd (D : Nat → Int) (y : Nat) (v : Int) : Nat → Int := fun c => if c = y then v else D c
/-- One direction of one cell. -/
def relax (s : Nat → Nat → Int) (x d : Nat) (S : (Nat → Int) × List Nat) : (Nat → Int) × List Nat :=
  if 0 ≤ s x d ∧ S.1 (s x d).toNat < 0 then (upd S.1 (s x d).toNat (S.1 x + 1), S.2 ++ [(s x d).toNat]) else S
def bround (s : Nat → Nat → Int) (x : Nat) (S : (Nat → Int) × List Nat) : (Nat → Int) × List Nat := relax s x 3 (relax s x 2 (relax s x 1 (relax s x 0 S)))
/-- Steps stay among v cells. -/
def Rng (s : Nat → Nat → Int) (v : Nat) : Prop := ∀ x d, x < v → d < 4 → s x d = -1 ∨ (0 ≤ s x d ∧ s x d < (v : Int))

structure BInv (s : Nat → Nat → Int) (v src : Nat) (S : (Nat → Int) × List Nat) (i : Nat) (m : Nat) : Prop where
  src0 : S.1 src = 0
  zero : ∀ c, S.1 c = 0 → c = src
  srcq : src ∈ S.2
  inr : ∀ c ∈ S.2, c < v
  nodup : S.2.Nodup
  neg : ∀ c, S.1 c = -1 ∨ 0 ≤ S.1 c
  mem : ∀ c, 0 ≤ S.1 c ↔ c ∈ S.2
  sorted : S.2.Pairwise (fun a b => S.1 a ≤ S.1 b)
  top : ∀ x, S.2[i]? = some x → ∀ c ∈ S.2, S.1 c ≤ S.1 x + 1
  done : ∀ j x, S.2[j]? = some x → ∀ d, d < 4 → (j < i ∨ (j = i ∧ d < m)) → 0 ≤ s x d → 0 ≤ S.1 (s x d).toNat ∧ S.1 (s x d).toNat ≤ S.1 x + 1
  pred : ∀ c ∈ S.2, c = src ∨ ∃ c' d, c' ∈ S.2 ∧ d < 4 ∧ s c' d = (c : Int) ∧ S.1 c = S.1 c' + 1
theorem BInv.relax {s : Nat → Nat → Int} {v src : Nat} (hs : Rng s v) {S : (Nat → Int) × List Nat} {i m x : Nat} (hm : m < 4) (hx : S.2[i]? = some x) (I : BInv s v src S i m) :
    BInv s v src (relax s x m S) i (m + 1) ∧ (relax s x m S).2[i]? = some x := by
  have hxq : x ∈ S.2 := List.mem_of_getElem? hx
  have hi : i < S.2.length := by
    rcases Nat.lt_or_ge i S.2.length with h | h
    · exact h
    · rw [List.getElem?_eq_none h] at hx; cases hx
  have hxv := I.inr x hxq
  have hx0 := (I.mem x).2 hxq
  unfold Go.Proofs.Ytbeajmcjfhbcjaa.P.relax
  by_cases hc : 0 ≤ s x m ∧ S.1 (s x m).toNat < 0
  · rw [if_pos hc]
    obtain ⟨y, hy⟩ : ∃ y : Nat, s x m = y := ⟨(s x m).toNat, by omega⟩
    have hyv : y < v := by have := hs x m hxv hm; omega
    rw [hy] at hc ⊢
    simp only [Int.toNat_natCast] at hc ⊢
    have hyq : y ∉ S.2 := fun h => by have := (I.mem y).2 h; omega
    have keep : ∀ c, c ∈ S.2 → upd S.1 y (S.1 x + 1) c = S.1 c := by
      intro c h
      unfold upd
      rw [if_neg]
      rintro rfl
      exact hyq h
    have uy : upd S.1 y (S.1 x + 1) y = S.1 x + 1 := by unfold upd; rw [if_pos rfl]
    have idx : ∀ j z, (S.2 ++ [y])[j]? = some z → S.2[j]? = some z ∨ (j = S.2.length ∧ z = y) := by
      intro j z h
      rcases Nat.lt_or_ge j S.2.length with h1 | h1
      · rw [List.getElem?_append_left h1] at h; exact .inl h
      · rw [List.getElem?_append_right h1] at h
        have : j - S.2.length = 0 := by
          rcases Nat.eq_zero_or_pos (j - S.2.length) with h2 | h2
          · exact h2
          · rw [List.getElem?_eq_none (by simp only [List.length_singleton]; omega)] at h; cases h
        rw [this] at h
        simp at h
        exact .inr ⟨by omega, h.symm⟩
    have I0 : ∀ c, (upd S.1 y (S.1 x + 1), S.2 ++ [y]).1 c = 0 → c = src := by
      intro c
      show upd _ _ _ c = 0 → _
      unfold upd
      split
      · intro h; omega
      · exact I.zero c
    refine ⟨{ src0 := ?_, zero := I0, srcq := ?_, inr := ?_, nodup := ?_, neg := ?_, mem := ?_, sorted := ?_, top := ?_, done := ?_, pred := ?_ }, by rw [List.getElem?_append_left hi]; exact hx⟩
    · show upd _ _ _ src = 0
      rw [keep _ I.srcq]; exact I.src0
    · exact List.mem_append_left _ I.srcq
    · intro c hcq
      rcases List.mem_append.1 hcq with h | h
      · exact I.inr c h
      · simp at h; omega
    · rw [List.nodup_append]
      refine ⟨I.nodup, by simp, ?_⟩
      intro a ha b hb hab
      simp at hb
      subst hab hb
      exact hyq ha
    · intro c
      show upd _ _ _ c = -1 ∨ 0 ≤ upd _ _ _ c
      by_cases e : c = y
      · subst e; rw [uy]; omega
      · rw [show upd S.1 y (S.1 x + 1) c = S.1 c from if_neg e]; exact I.neg c
    · intro c
      rw [List.mem_append, List.mem_singleton]
      show 0 ≤ upd _ _ _ c ↔ _
      unfold upd
      by_cases e : c = y
      · rw [if_pos e]; exact ⟨fun _ => .inr e, fun _ => by omega⟩
      · rw [if_neg e, I.mem]; simp [e]
    · rw [List.pairwise_append]
      refine ⟨I.sorted.imp_of_mem fun {a b} ha hb h => ?_, by simp, ?_⟩
      · show upd _ _ _ a ≤ upd _ _ _ b
        rw [keep a ha, keep b hb]; exact h
      · intro a ha b hb
        simp at hb
        subst hb
        show upd _ _ _ a ≤ upd _ _ _ b
        rw [keep a ha, uy]
        exact I.top x hx a ha
    · intro z hz c hcq
      rw [List.getElem?_append_left hi, hx] at hz
      obtain rfl := Option.some.inj hz
      show upd _ _ _ c ≤ upd _ _ _ x + 1
      rw [keep x hxq]
      rcases List.mem_append.1 hcq with h | h
      · rw [keep c h]; exact I.top x hx c h
      · simp at h; subst h; rw [uy]; omega
    · intro j z hz d hd hj h0
      rcases idx j z hz with h | ⟨h, _⟩
      · have hzq : z ∈ S.2 := List.mem_of_getElem? h
        show 0 ≤ upd _ _ _ _ ∧ upd _ _ _ _ ≤ upd _ _ _ z + 1
        rw [keep z hzq]
        by_cases e : j = i ∧ d = m
        · obtain ⟨rfl, rfl⟩ := e
          rw [hx] at h
          obtain rfl := Option.some.inj h
          rw [hy, Int.toNat_natCast, uy]
          omega
        · have := I.done j z h d hd (by omega) h0
          have h1 := (I.mem _).1 this.1
          rw [keep _ h1]
          exact this
      · omega
    · intro c hcq
      rcases List.mem_append.1 hcq with h | h
      · rcases I.pred c h with h1 | ⟨c', d, h1, h2, h3, h4⟩
        · exact .inl h1
        · refine .inr ⟨c', d, List.mem_append_left _ h1, h2, h3, ?_⟩
          show upd _ _ _ c = upd _ _ _ c' + 1
          rw [keep c h, keep c' h1]; exact h4
      · simp at h
        subst h
        refine .inr ⟨x, m, List.mem_append_left _ hxq, hm, hy, ?_⟩
        show upd _ _ _ c = upd _ _ _ x + 1
        rw [uy, keep x hxq]
  · rw [if_neg hc]
    refine ⟨{ I with done := ?_ }, hx⟩
    intro j z hz d hd hj h0
    by_cases e : j = i ∧ d = m
    · obtain ⟨rfl, rfl⟩ := e
      rw [hx] at hz
      obtain rfl := Option.some.inj hz
      have h1 : 0 ≤ S.1 (s x d).toNat := by
        have := I.neg (s x d).toNat
        omega
      exact ⟨h1, I.top x hx _ ((I.mem _).1 h1)⟩
    · exact I.done j z hz d hd (by omega) h0
theorem BInv.next {s : Nat → Nat → Int} {v src : Nat} {S : (Nat → Int) × List Nat} {i x : Nat} (hx : S.2[i]? = some x) (I : BInv s v src S i 4) : BInv s v src S (i + 1) 0 :=
  { I with
    top := fun z hz c hc => by
      have h1 := I.top x hx c hc
      have h2 := List.pairwise_iff_getElem.1 I.sorted i (i + 1)
      obtain ⟨a, rfl⟩ := List.getElem?_eq_some_iff.1 hx
      obtain ⟨b, rfl⟩ := List.getElem?_eq_some_iff.1 hz
      have := h2 a b (by omega)
      omega
    done := fun j z hz d hd hj h0 => I.done j z hz d hd (by omega) h0 }
theorem BInv.round {s : Nat → Nat → Int} {v src : Nat} (hs : Rng s v) {S : (Nat → Int) × List Nat} {i x : Nat} (hx : S.2[i]? = some x) (I : BInv s v src S i 0) : BInv s v src (bround s x S) (i + 1) 0 := by
  obtain ⟨I1, h1⟩ := I.relax hs (by omega) hx
  obtain ⟨I2, h2⟩ := I1.relax hs (by omega) h1
  obtain ⟨I3, h3⟩ := I2.relax hs (by omega) h2
  obtain ⟨I4, h4⟩ := I3.relax hs (by omega) h3
  exact I4.next h4
theorem nodup_len {v : Nat} : ∀ {q : List Nat}, q.Nodup → (∀ c ∈ q, c < v) → q.length ≤ v := by
  induction v with
  | zero =>
    intro q _ h
    cases q with
    | nil => simp
    | cons a l => have := h a (by simp); omega
  | succ v ih =>
    intro q hn h
    have h1 := ih (q := q.erase v) (hn.erase v) (fun c hc => by
      have h1 := h c (List.mem_of_mem_erase hc)
      have : c ≠ v := by rintro rfl; exact absurd hc (List.Nodup.not_mem_erase hn)
      omega)
    have h2 := List.length_erase (a := v) (l := q)
    split at h2 <;> omega
theorem BInv.len {s : Nat → Nat → Int} {v src : Nat} {S : (Nat → Int) × List Nat} {i m : Nat} (I : BInv s v src S i m) : S.2.length ≤ v := nodup_len I.nodup I.inr
/-- What distances are. -/
structure Dist (s : Nat → Nat → Int) (v src : Nat) (D : Nat → Int) : Prop where
  src0 : D src = 0
  zero : ∀ c, D c = 0 → c = src
  neg : ∀ c, D c = -1 ∨ 0 ≤ D c
  inr : ∀ c, 0 ≤ D c → c < v
  lip : ∀ x d, d < 4 → 0 ≤ D x → 0 ≤ s x d → 0 ≤ D (s x d).toNat ∧ D (s x d).toNat ≤ D x + 1
  pred : ∀ c, 0 < D c → ∃ c' d, d < 4 ∧ s c' d = (c : Int) ∧ 0 ≤ D c' ∧ D c = D c' + 1
/-- Steps are the edges of n. -/
structure Net (s : Nat → Nat → Int) (e : Nat → Nat × Nat) (v n : Nat) : Prop where
  rng : Rng s v
  edge : ∀ x d, x < v → d < 4 → 0 ≤ s x d → ∃ k, n.testBit k = true ∧ (e k = (x, (s x d).toNat) ∨ e k = ((s x d).toNat, x))
  lt : ∀ k, n.testBit k = true → (e k).1 < v ∧ (e k).2 < v
  fwd : ∀ k, n.testBit k = true → ∃ d, d < 4 ∧ s (e k).1 d = ((e k).2 : Int)
  bwd : ∀ k, n.testBit k = true → ∃ d, d < 4 ∧ s (e k).2 d = ((e k).1 : Int)
end Go.Proofs.Ytbeajmcjfhbcjaa.P
namespace Go.Proofs.Ytbeajmcjfhbcjaa.P
open Go.RowKit Go.Proofs.YtbeajmcjfhbcjaaW.PrintWords Go.Proofs.YtbeajmcjfhbcjaaW.PrintLast Go.Proofs.YtbeajmcjfhbcjaaW.PrintMore
attribute [local go_sem] max2_int min2_int max_two min_two max_three min_three max_four min_four   -- for this text's walks alone
set_option linter.unusedVariables false
set_option linter.unusedSimpArgs false

/-! ### slices_DeleteFunc_int_int: function 111 -/
theorem filter_take_succ (p : Int → Bool) (l : List Int) (j : Nat) (h : j < l.length) : (l.take (j + 1)).filter p = (l.take j).filter p ++ (if p (rd l j) then [rd l j] else []) := by
  rw [List.take_succ_eq_append_getElem h, List.filter_append]
  congr 1
  have : rd l (j : Int) = l[j] := by simp [rd, List.getD_eq_getElem?_getD, List.getElem?_eq_getElem h]
  rw [this]
  cases hq : p l[j] <;> simp [hq]
theorem rd_set_ne {l : List Int} {i j : Nat} {x : Int} (h : i ≠ j) : rd (l.set i x) (j : Int) = rd l (j : Int) := by
  simp [rd, List.getD_eq_getElem?_getD, List.getElem?_set, h]
/-- How far slices.DeleteFunc is. -/
structure DelInv (p : Int → Bool) (l zs : List Int) (i j : Nat) : Prop where
  len : zs.length = l.length
  lt : i < j
  le : j ≤ l.length
  pre : zs.take i = (l.take j).filter (fun x => !p x)
  same : ∀ t, j ≤ t → rd zs (t : Int) = rd l (t : Int)
theorem DelInv.skip {p : Int → Bool} {l zs : List Int} {i j : Nat} (h : DelInv p l zs i j) (hj : j < l.length) (hp : p (rd l (j : Int)) = true) : DelInv p l zs i (j + 1) := by
  refine ⟨h.len, by have := h.lt; omega, by omega, ?_, fun t ht => h.same t (by omega)⟩
  rw [filter_take_succ _ _ _ hj, h.pre]
  simp [hp]
theorem DelInv.keep {p : Int → Bool} {l zs : List Int} {i j : Nat} (h : DelInv p l zs i j) (hj : j < l.length) (hp : p (rd l (j : Int)) = false) : DelInv p l (zs.set i (rd l (j : Int))) (i + 1) (j + 1) := by
  have hlt := h.lt; have hlen := h.len
  refine ⟨by rw [List.length_set, h.len], by omega, by omega, ?_, fun t ht => ?_⟩
  · rw [filter_take_succ _ _ _ hj, ← h.pre]
    simp only [hp, Bool.not_false, if_true]
    rw [List.take_succ_eq_append_getElem (by rw [List.length_set]; omega), List.take_set_of_le (Nat.le_refl _)]
    simp
  · rw [rd_set_ne (by omega)]
    exact h.same t (by omega)
theorem DelInv.done {p : Int → Bool} {l zs : List Int} {i : Nat} (h : DelInv p l zs i l.length) : zs.take i = l.filter (fun x => !p x) := by
  have := h.pre
  rwa [List.take_length] at this
end Go.Proofs.Ytbeajmcjfhbcjaa.P
namespace Go.Proofs.Ytbeajmcjfhbcjaa.P
open Go.RowKit Go.Proofs.YtbeajmcjfhbcjaaW.PrintWords Go.Proofs.YtbeajmcjfhbcjaaW.PrintLast Go.Proofs.YtbeajmcjfhbcjaaW.PrintMore
attribute [local go_sem] max2_int min2_int max_two min_two max_three min_three max_four min_four   -- for this text's walks alone
set_option linter.unusedVariables false
set_option linter.unusedSimpArgs false

/-! ### impl_DeadEnds: function 96 -/
section
variable {P : Program} {ops : Array Oper} {Q : Exit → Act → World → Prop}
end
end Go.Proofs.Ytbeajmcjfhbcjaa.P
namespace Go.Proofs.Ytbeajmcjfhbcjaa.P
open Go.RowKit Go.Proofs.YtbeajmcjfhbcjaaW.PrintWords Go.Proofs.YtbeajmcjfhbcjaaW.PrintLast Go.Proofs.YtbeajmcjfhbcjaaW.PrintMore
attribute [local go_sem] max2_int min2_int max_two min_two max_three min_three max_four min_four   -- for this text's walks alone
set_option linter.unusedVariables false
set_option linter.unusedSimpArgs false

/-! ### spec_DeadEnds: function 95 -/
/-! ### impl_IsBraid: function 36 -/
/-! ### spec_IsBraid: function 34 -/
end Go.Proofs.Ytbeajmcjfhbcjaa.P
namespace Go.Proofs.Ytbeajmcjfhbcjaa.P
open Go.RowKit Go.Proofs.YtbeajmcjfhbcjaaW.PrintWords
set_option linter.unusedVariables false
set_option linter.unusedSimpArgs false

/-- Enough rounds for all of a list. -/
theorem ev_all {β : Type} {f : Nat → Int → Option β} {g : Int → β} : ∀ {l : List Int}, (∀ c ∈ l, Ev (fun k => f k c) (g c)) → ∃ K, ∀ k, K ≤ k → ∀ c ∈ l, f k c = some (g c)
  | [], _ => ⟨0, fun _ _ c hc => by cases hc⟩
  | x :: xs, h => by
    obtain ⟨K1, h1⟩ := h x List.mem_cons_self
    obtain ⟨K2, h2⟩ := ev_all (l := xs) fun c hc => h c (List.mem_cons_of_mem _ hc)
    refine ⟨max K1 K2, fun k hk c hc => ?_⟩
    rcases List.mem_cons.1 hc with rfl | hc
    · exact h1 k (by omega)
    · exact h2 k (by omega) c hc
theorem toIntS_l0 (l : List Int) (hl : l.length ≤ 35184372088832) : ∀ (d i : Nat) (m : List Int), l.length - i = d → i ≤ l.length → m.length = l.length → (∀ j, j < i → rd m j = rd l j) → Ev (fun k => laws_toIntS.l0 k l m i) l
  | 0, i, m, hd, hi, hm, he => by
    refine Ev.step (fun _ => laws_toIntS.l0.eq_2 ..) ?_
    refine Ev.ff (by omega) (Ev.ret ?_)
    refine List.ext_getElem hm fun j h1 h2 => ?_
    have := he j (by omega)
    rwa [rd_get h1, rd_get h2] at this
  | d + 1, i, m, hd, hi, hm, he => by
    refine Ev.step (fun _ => laws_toIntS.l0.eq_2 ..) ?_
    refine Ev.tt (by omega) (Ev.tt (by omega) (Ev.tt (by omega) ?_))
    rw [wsucc (by omega)]
    refine toIntS_l0 l hl d (i + 1) _ (by omega) (by omega) (by rw [List.length_set]; exact hm) fun j hj => ?_
    by_cases e : j = i
    · subst e
      rw [rd_get (by rw [List.length_set]; omega)]
      simp [rd_get (show j < l.length by omega)]
    · rw [← he j (by omega), rd_get (by rw [List.length_set]; omega), rd_get (by omega)]
      simp only [Int.toNat_natCast]
      rw [List.getElem_set_ne (by omega), rd_get (by omega)]
theorem toIntS_ev (l : List Int) (hl : l.length ≤ 35184372088832) : Ev (fun k => laws_toIntS.f k l) l := by
  unfold laws_toIntS.f
  refine Ev.tt (by omega) (Ev.tt (by omega) ?_)
  exact toIntS_l0 l hl l.length 0 _ (by omega) (by omega) (by simp) (fun j hj => by omega)

theorem eqIntS_l0 (a b : List Int) (hl : a.length = b.length) (hb : b.length ≤ 35184372088832) : ∀ (d i : Nat), a.length - i = d → i ≤ a.length → Ev (fun k => laws_eqIntS.l0 k a b i) (decide (a.drop i = b.drop i))
  | 0, i, hd, hi => by
    refine Ev.step (fun _ => laws_eqIntS.l0.eq_2 ..) ?_
    refine Ev.ff (by omega) (Ev.ret ?_)
    rw [List.drop_eq_nil_of_le (by omega), List.drop_eq_nil_of_le (by omega)]
    rfl
  | d + 1, i, hd, hi => by
    refine Ev.step (fun _ => laws_eqIntS.l0.eq_2 ..) ?_
    refine Ev.tt (by omega) (Ev.tt (by omega) (Ev.tt (by omega) ?_))
    have h1 : a.drop i = a[i]'(by omega) :: a.drop (i + 1) := List.drop_eq_getElem_cons (by omega)
    have h2 : b.drop i = b[i]'(by omega) :: b.drop (i + 1) := List.drop_eq_getElem_cons (by omega)
    rw [rd_get (show i < a.length by omega), rd_get (show i < b.length by omega), h1, h2]
    refine Ev.ite (fun e => ?_) (fun e => ?_)
    · rw [wsucc (by omega)]
      refine Ev.eq (eqIntS_l0 a b hl hb d (i + 1) (by omega) (by omega)) ?_
      rw [decide_eq_decide, List.cons.injEq, e]
      simp only [true_and]
    · refine Ev.ret ?_
      symm
      rw [decide_eq_false_iff_not, List.cons.injEq]
      exact fun h => e h.1
theorem eqIntS_ev (a b : List Int) (hb : b.length ≤ 35184372088832) : Ev (fun k => laws_eqIntS.f k a b) (decide (a = b)) := by
  unfold laws_eqIntS.f
  refine Ev.ite (fun h => ?_) (fun h => ?_)
  · have := eqIntS_l0 a b (by omega) hb a.length 0 (by omega) (by omega)
    simpa using this
  · refine Ev.ret ?_
    have : a ≠ b := by rintro rfl; exact h rfl
    simp [this]

end Go.Proofs.Ytbeajmcjfhbcjaa.P
namespace Go.Proofs.Ytbeajmcjfhbcjaa.P
open Go.RowKit Go.Proofs.YtbeajmcjfhbcjaaW.PrintWords Go.Proofs.Ytbeajmcjfhbcjaa.Sup
set_option linter.unusedVariables false
set_option linter.unusedSimpArgs false

theorem rdL_get {l : List (List Int)} {i : Nat} (h : i < l.length) : rd_L4 l (i : Int) = l[i] := by simp [rd_L4, List.getD_eq_getElem?_getD, List.getElem?_eq_getElem h]
def lens (l : List (List Int)) : Nat := (l.map List.length).sum
theorem lens_cons (a : List Int) (l : List (List Int)) : lens (a :: l) = a.length + lens l := by simp [lens]
theorem szIntS_eq (l : List Int) (n : Nat) (hn : n ≤ 1048576) (hl : l.length ≤ 9223372036854775807) : laws_szIntS.f l (n : Int) = some (if l.length ≤ n then ((n - l.length : Nat) : Int) else -1) := by
  unfold laws_szIntS.f
  rw [wrap64_id (by omega) (by omega)]
  by_cases h : l.length ≤ n
  · rw [if_neg (by omega), if_pos h]; congr 1; omega
  · rw [if_pos (by omega), if_neg h]
theorem szIntSS_l0 (l : List (List Int)) (hl : l.length ≤ 1048576) (hr : ∀ row ∈ l, row.length ≤ 9223372036854775807) : ∀ (d i n : Nat), l.length - i = d → i ≤ l.length → n ≤ 1048576 →
    Ev (fun k => laws_szIntSS.l0 k l (n : Int) i) (if lens (l.drop i) ≤ n then ((n - lens (l.drop i) : Nat) : Int) else -1)
  | 0, i, n, hd, hi, hn => by
    refine Ev.step (fun _ => laws_szIntSS.l0.eq_2 ..) ?_
    refine Ev.ff (by omega) (Ev.ret ?_)
    rw [List.drop_eq_nil_of_le (by omega)]
    simp [lens]
  | d + 1, i, n, hd, hi, hn => by
    refine Ev.step (fun _ => laws_szIntSS.l0.eq_2 ..) ?_
    have hil : i < l.length := by omega
    have hrow := hr l[i] (List.getElem_mem hil)
    rw [rdL_get hil, List.drop_eq_getElem_cons hil, lens_cons]
    refine Ev.tt (by omega) (Ev.tt (by omega) ?_)
    refine Ev.bnd0 (szIntS_eq _ n hn hrow) ?_
    by_cases h : (l[i]).length ≤ n
    · rw [if_pos h]
      refine Ev.ff (by omega) ?_
      rw [wsucc (by omega)]
      refine Ev.eq (szIntSS_l0 l hl hr d (i + 1) (n - (l[i]).length) (by omega) (by omega) (by omega)) ?_
      by_cases h2 : (l[i]).length + lens (l.drop (i + 1)) ≤ n
      · rw [if_pos (by omega), if_pos h2]; congr 1; omega
      · rw [if_neg (by omega), if_neg h2]
    · rw [if_neg h, if_neg (by omega)]
      exact Ev.tt (by omega) (Ev.ret rfl)
/-- The size of a slice of slices, out of 2^20. -/
theorem szIntSS_ev (l : List (List Int)) (hl : l.length ≤ 140737488351232) (hr : ∀ row ∈ l, row.length ≤ 9223372036854775807) :
    Ev (fun k => laws_szIntSS.f k l 1048576) (if l.length + lens l ≤ 1048576 then ((1048576 - (l.length + lens l) : Nat) : Int) else -1) := by
  unfold laws_szIntSS.f
  rw [wrap64_id (by omega) (by omega)]
  by_cases h : l.length ≤ 1048576
  · refine Ev.ff (by omega) ?_
    rw [show (1048576 - (l.length : Int)) = ((1048576 - l.length : Nat) : Int) by omega]
    refine Ev.eq (szIntSS_l0 l h hr l.length 0 (1048576 - l.length) (by omega) (by omega) (by omega)) ?_
    rw [List.drop_zero]
    by_cases h2 : l.length + lens l ≤ 1048576
    · rw [if_pos (by omega), if_pos h2]; congr 1; omega
    · rw [if_neg (by omega), if_neg h2]
  · rw [if_neg (by omega)]
    exact Ev.tt (by omega) (Ev.ret rfl)
theorem row_le_lens {l : List (List Int)} {row : List Int} (h : row ∈ l) : row.length ≤ lens l := by
  induction l with
  | nil => simp at h
  | cons a t ih =>
    rw [lens_cons]
    rcases List.mem_cons.1 h with rfl | h
    · omega
    · have := ih h; omega
theorem toIntSS_l0 (l : List (List Int)) (hl : l.length ≤ 1048576) (hr : ∀ row ∈ l, row.length ≤ 1048576) : ∀ (d i : Nat) (m : List (List Int)), l.length - i = d → i ≤ l.length → m.length = l.length → (∀ (j : Nat), j < i → m[j]? = l[j]?) → Ev (fun k => laws_toIntSS.l0 k l m i) l
  | 0, i, m, hd, hi, hm, he => by
    refine Ev.step (fun _ => laws_toIntSS.l0.eq_2 ..) ?_
    refine Ev.ff (by omega) (Ev.ret ?_)
    refine List.ext_getElem? fun j => ?_
    by_cases h : j < i
    · exact he j h
    · rw [List.getElem?_eq_none (by omega), List.getElem?_eq_none (by omega)]
  | d + 1, i, m, hd, hi, hm, he => by
    refine Ev.step (fun _ => laws_toIntSS.l0.eq_2 ..) ?_
    have hil : i < l.length := by omega
    refine Ev.tt (by omega) (Ev.tt (by omega) ?_)
    rw [rdL_get hil]
    refine Ev.bind (toIntS_ev _ (by have := hr _ (List.getElem_mem hil); omega)) ?_
    refine Ev.tt (by omega) ?_
    rw [wsucc (by omega)]
    refine toIntSS_l0 l hl hr d (i + 1) _ (by omega) (by omega) (by rw [List.length_set]; exact hm) fun j hj => ?_
    simp only [Int.toNat_natCast]
    by_cases e : j = i
    · subst e
      rw [List.getElem?_set_self (by omega), List.getElem?_eq_getElem hil]
    · rw [List.getElem?_set_ne (by omega)]
      exact he j (by omega)
theorem toIntSS_ev (l : List (List Int)) (hl : l.length ≤ 1048576) (hr : ∀ row ∈ l, row.length ≤ 1048576) : Ev (fun k => laws_toIntSS.f k l) l := by
  unfold laws_toIntSS.f
  refine Ev.tt (by omega) (Ev.tt (by omega) ?_)
  exact toIntSS_l0 l hl hr l.length 0 _ (by omega) (by omega) (by simp) (fun j hj => by omega)
theorem eqIntSS_l0 (a b : List (List Int)) (hl : a.length = b.length) (hb : b.length ≤ 1048576) (hr : ∀ row ∈ b, row.length ≤ 1048576) : ∀ (d i : Nat), a.length - i = d → i ≤ a.length → Ev (fun k => laws_eqIntSS.l0 k a b i) (decide (a.drop i = b.drop i))
  | 0, i, hd, hi => by
    refine Ev.step (fun _ => laws_eqIntSS.l0.eq_2 ..) ?_
    refine Ev.ff (by omega) (Ev.ret ?_)
    rw [List.drop_eq_nil_of_le (by omega), List.drop_eq_nil_of_le (by omega)]
    rfl
  | d + 1, i, hd, hi => by
    refine Ev.step (fun _ => laws_eqIntSS.l0.eq_2 ..) ?_
    have ha' : i < a.length := by omega
    have hb' : i < b.length := by omega
    refine Ev.tt (by omega) (Ev.tt (by omega) (Ev.tt (by omega) ?_))
    rw [rdL_get ha', rdL_get hb', List.drop_eq_getElem_cons ha', List.drop_eq_getElem_cons hb']
    refine Ev.bind (eqIntS_ev _ _ (by have := hr _ (List.getElem_mem hb'); omega)) ?_
    refine Ev.ite (fun e => ?_) (fun e => ?_)
    · rw [wsucc (by omega)]
      refine Ev.eq (eqIntSS_l0 a b hl hb hr d (i + 1) (by omega) (by omega)) ?_
      rw [decide_eq_decide, List.cons.injEq, of_decide_eq_true e]
      simp only [true_and]
    · refine Ev.ret ?_
      symm
      rw [decide_eq_false_iff_not, List.cons.injEq]
      exact fun h => e (decide_eq_true h.1)
theorem eqIntSS_ev (a b : List (List Int)) (hb : b.length ≤ 1048576) (hr : ∀ row ∈ b, row.length ≤ 1048576) : Ev (fun k => laws_eqIntSS.f k a b) (decide (a = b)) := by
  unfold laws_eqIntSS.f
  refine Ev.ite (fun h => ?_) (fun h => ?_)
  · have := eqIntSS_l0 a b (by omega) hb hr a.length 0 (by omega) (by omega)
    simpa using this
  · refine Ev.ret ?_
    have : a ≠ b := by rintro rfl; exact h rfl
    simp [this]
theorem cellsOf_pos' {w h : Int} (hg : gridOk w h = true) : 1 ≤ cellsOf w h := by
  unfold cellsOf
  rw [if_pos hg]
  obtain ⟨h1 | h1 | h1 | h1, h2 | h2 | h2 | h2⟩ := grid_cases hg <;> subst h1 <;> subst h2 <;> decide
def badRow (w h c : Int) (l : List Int) : Bool := decide (l.length > 60) || l.any fun d => decide (nbI w h c d < 0)
def arrGo (w h : Int) : Nat → List (List Int) → Bool
  | _, [] => true
  | i, l :: ls => if badRow w h i l = true then false else arrGo w h (i + 1) ls
theorem impl_row_ev (w h c : Int) (l : List Int) : Ev (fun k => impl_ArrowsOk.row k w h c l) (badRow w h c l) := by
  obtain ⟨K, hK⟩ := ev_all (f := fun k d => impl_Neighbor.f k w h c d) (g := fun d => nbI w h c d) (l := l) fun d _ => impl_Neighbor_ev w h c d
  refine ⟨K, fun k hk => ?_⟩
  have e1 : ∀ d ∈ l, impl_Neighbor.f k w h c d = some (nbI w h c d) := hK k hk
  show impl_ArrowsOk.row k w h c l = _
  unfold impl_ArrowsOk.row badRow
  by_cases h60 : l.length > 60
  · rw [if_pos h60, decide_eq_true h60]; rfl
  · rw [if_neg h60, decide_eq_false h60, Bool.false_or, if_pos]
    · congr 1
      rw [Bool.eq_iff_iff, List.any_eq_true, List.any_eq_true]
      constructor
      · rintro ⟨d, hd, h1⟩; exact ⟨d, hd, by rw [e1 d hd] at h1; exact h1⟩
      · rintro ⟨d, hd, h1⟩; exact ⟨d, hd, by rw [e1 d hd]; exact h1⟩
    · rw [List.all_eq_true]
      intro d hd
      rw [e1 d hd]
      rfl
theorem impl_go_ev (w h : Int) : ∀ (ls : List (List Int)) (i : Nat), Ev (fun k => impl_ArrowsOk.go k w h i ls) (arrGo w h i ls)
  | [], i => Ev.ret rfl
  | l :: ls, i => by
    unfold impl_ArrowsOk.go arrGo
    refine Ev.bind (impl_row_ev w h i l) (Ev.ite (fun e => ?_) (fun e => ?_))
    · rw [if_pos e]; exact Ev.ret rfl
    · rw [if_neg e]; exact impl_go_ev w h ls (i + 1)
theorem spec_arr_l1 {w h : Int} {L : List (List Int)} (hL : L.length ≤ 1048576) (hR : ∀ row ∈ L, row.length ≤ 1048576) {c : Nat} (hc : c < L.length) {r : Bool} (next : Ev (fun k => spec_ArrowsOk.l0 k L ((c + 1 : Nat) : Int) w h) r) :
    ∀ (e i : Nat), i + e = L[c].length → Ev (fun k => spec_ArrowsOk.l1 k L c i w h) (if ((L[c].drop i).any (fun d => decide (nbI w h c d < 0)) || (decide (i < L[c].length) && decide (L[c].length > 60))) = true then false else r)
  | 0, i, he => by
    refine Ev.step (fun _ => spec_ArrowsOk.l1.eq_2 ..) (Ev.tt (by omega) (Ev.tt (by omega) ?_))
    rw [rdL_get hc, wsucc (show c < 4611686018427387904 by omega)]
    refine Ev.ff (by omega) ?_
    rw [List.drop_eq_nil_of_le (by omega), decide_eq_false (show ¬ i < L[c].length by omega)]
    simpa using next
  | e + 1, i, he => by
    have hrow := hR _ (List.getElem_mem hc)
    refine Ev.step (fun _ => spec_ArrowsOk.l1.eq_2 ..) (Ev.tt (by omega) (Ev.tt (by omega) ?_))
    rw [rdL_get hc, rd_get (show i < L[c].length by omega), wsucc (show i < 4611686018427387904 by omega)]
    refine Ev.tt (by omega) (Ev.tt (by omega) (Ev.bind (spec_Neighbor_ev w h c _) ?_))
    rw [List.drop_eq_getElem_cons (show i < L[c].length by omega), List.any_cons, decide_eq_true (show i < L[c].length by omega)]
    refine Ev.ite (fun e1 => ?_) (fun e1 => Ev.ite (fun e2 => ?_) (fun e2 => ?_))
    · rw [decide_eq_true e1]; exact Ev.ret rfl
    · rw [decide_eq_true (show L[c].length > 60 by omega)]; simp only [Bool.and_self, Bool.or_true, if_true]; exact Ev.ret rfl
    · have ih := spec_arr_l1 hL hR hc next e (i + 1) (by omega)
      rw [decide_eq_false e1, decide_eq_false (show ¬ L[c].length > 60 by omega)]
      rw [decide_eq_false (show ¬ L[c].length > 60 by omega)] at ih
      simpa using ih
theorem spec_arr_l0 {w h : Int} {L : List (List Int)} (hL : L.length ≤ 1048576) (hR : ∀ row ∈ L, row.length ≤ 1048576) : ∀ (e c : Nat), c + e = L.length → Ev (fun k => spec_ArrowsOk.l0 k L c w h) (arrGo w h c (L.drop c))
  | 0, c, he => by
    refine Ev.step (fun _ => spec_ArrowsOk.l0.eq_2 ..) (Ev.ff (by omega) (Ev.ret ?_))
    rw [List.drop_eq_nil_of_le (by omega)]
    rfl
  | e + 1, c, he => by
    have ih := spec_arr_l0 (w := w) (h := h) hL hR e (c + 1) (by omega)
    refine Ev.step (fun _ => spec_ArrowsOk.l0.eq_2 ..) (Ev.tt (by omega) ?_)
    refine Ev.eq (spec_arr_l1 hL hR (show c < L.length by omega) ih L[c].length 0 (by omega)) ?_
    rw [List.drop_eq_getElem_cons (show c < L.length by omega)]
    show _ = (if badRow w h c L[c] = true then false else arrGo w h (c + 1) (L.drop (c + 1)))
    unfold badRow
    rw [List.drop_zero]
    congr 1
    rw [eq_iff_iff, Bool.or_eq_true, Bool.or_eq_true, Bool.and_eq_true, decide_eq_true_eq, decide_eq_true_eq]
    constructor
    · rintro (h1 | h1)
      · exact .inr h1
      · exact .inl h1.2
    · rintro (h1 | h1)
      · exact .inr ⟨by omega, h1⟩
      · exact .inl h1
theorem FnExactArrowsOk_pure (a0_0 a0_1 : Int) (w0_0 : InR a0_0) (w0_1 : InR a0_1) (l : List (List Int)) (hy : l.length ≤ 140737488351232) (hz : ∀ row ∈ l, row.length ≤ 9223372036854775807 ∧ ∀ x ∈ row, InR x) : ∃ k, laws_FnExactArrowsOk.f k a0_0 a0_1 l = some true := by
  refine Ev.rounds ?_
  unfold laws_FnExactArrowsOk.f
  refine Ev.bind (szIntSS_ev l hy fun row hr => (hz row hr).1) (Ev.ite (fun _ => Ev.ret rfl) (fun h => ?_))
  have hsz : l.length + lens l ≤ 1048576 := by
    by_cases h2 : l.length + lens l ≤ 1048576
    · exact h2
    · rw [if_neg h2] at h; omega
  have hL : l.length ≤ 1048576 := by omega
  have hR : ∀ row ∈ l, row.length ≤ 1048576 := fun row hr => by have := row_le_lens hr; omega
  have hcr := cellsOf_range a0_0 a0_1
  have key : ∃ r : Bool, Ev (fun k => impl_ArrowsOk.f k a0_0 a0_1 l) r ∧ Ev (fun k => spec_ArrowsOk.f k a0_0 a0_1 l) r := by
    have hj : Ev (fun k => spec_ArrowsOk.j0 k l true a0_0 a0_1) false := Ev.step (fun _ => spec_ArrowsOk.j0.eq_2 ..) (Ev.tt rfl (Ev.ret rfl))
    unfold impl_ArrowsOk.f spec_ArrowsOk.f
    by_cases hg : gridOk a0_0 a0_1 = true
    · by_cases hlen : (l.length : Int) = cellsOf a0_0 a0_1
      · have hpos : 0 < l.length := by
          have := cellsOf_pos' hg
          omega
        have e0 : rdR_ l 0 = rd_L4 l 0 := rfl
        by_cases h0 : ((rd_L4 l 0).length : Int) > 0
        · refine ⟨false, Ev.bnd0 (impl_GridOk_eq ..) (Ev.tt hg (Ev.bnd0 (impl_CountCells_eq ..) (Ev.tt hlen (Ev.tt (by omega) (Ev.tt (by rw [e0]; exact h0) (Ev.ret rfl)))))), Ev.bnd0 (spec_GridOk_eq ..) (Ev.tt hg (Ev.bnd0 (spec_CountCells_eq ..) (Ev.tt hlen (Ev.tt (by omega) ?_))))⟩
          rw [decide_eq_true h0]; exact hj
        · refine ⟨arrGo a0_0 a0_1 0 l, Ev.bnd0 (impl_GridOk_eq ..) (Ev.tt hg (Ev.bnd0 (impl_CountCells_eq ..) (Ev.tt hlen (Ev.tt (by omega) (Ev.ff (by rw [e0]; exact h0) (impl_go_ev a0_0 a0_1 l 0)))))), Ev.bnd0 (spec_GridOk_eq ..) (Ev.tt hg (Ev.bnd0 (spec_CountCells_eq ..) (Ev.tt hlen (Ev.tt (by omega) ?_))))⟩
          rw [decide_eq_false h0]
          exact Ev.step (fun _ => spec_ArrowsOk.j0.eq_2 ..) (Ev.ff (by decide) (spec_arr_l0 hL hR l.length 0 (by omega)))
      · exact ⟨false, Ev.bnd0 (impl_GridOk_eq ..) (Ev.tt hg (Ev.bnd0 (impl_CountCells_eq ..) (Ev.ff hlen (Ev.ret rfl)))), Ev.bnd0 (spec_GridOk_eq ..) (Ev.tt hg (Ev.bnd0 (spec_CountCells_eq ..) (Ev.ff hlen hj)))⟩
    · exact ⟨false, Ev.bnd0 (impl_GridOk_eq ..) (Ev.ff hg (Ev.ret rfl)), Ev.bnd0 (spec_GridOk_eq ..) (Ev.ff hg hj)⟩
  obtain ⟨r, hi, hs⟩ := key
  have ht := toIntSS_ev l hL hR
  have hgr : laws_toGrid.f a0_0 a0_1 = some (a0_0, a0_1) := rfl
  exact Ev.bnd0 hgr (Ev.bind ht (Ev.bind hs (Ev.bind ht (Ev.bnd0 hgr (Ev.bind hi (Ev.ff (by simp) (Ev.bind ht (Ev.bind (eqIntSS_ev l l hL hR) (Ev.tt (by simp) (Ev.ret rfl))))))))))
end Go.Proofs.Ytbeajmcjfhbcjaa.P
namespace Go.Proofs.Ytbeajmcjfhbcjaa.fnExactArrowsOk
open Go.ChangeShapes Go.WideShapes Go.ChangeAt Go.RowKit Go.Proofs.YtbeajmcjfhbcjaaW.PrintWords Go.Proofs.Ytbeajmcjfhbcjaa.Sup
open Go.ChangeMaps (open_string shut_string)
set_option linter.unusedVariables false
theorem own : ownKnob Try.prog.godebug = none := by kernel_rfl
theorem laidOut : laidOutB Try.prog = true := by kernel_rfl
set_option maxRecDepth 100000 in
theorem lifted (os : Os) (started : os.Started) (H : Type) (enc : TypeId × Value → H) :
    ReturnsInHanded {} Try.checked os 4 .any (Rows.fnExactArrowsOkSpec.pre6 enc Try.prog Try.f4 Rows.fnExactArrowsOkRow.domain false) (Rows.fnExactArrowsOkSpec.post enc Try.prog Try.f4 false true false false) := by
  refine returnsInHanded_of_change_sized (C := Try.checked) own started (by kernel_rfl) Try.func4
    (ChangeSpec.witness6 (enc := enc) (C := Try.checked) false ⟨#[], #[.agg #[.int .i64 0, .int .i64 0], .slice none 0 0], []⟩ 8 (by kernel_rfl) (by kernel_rfl) (by kernel_rfl) (by kernel_rfl)) ?_
  intro W base args ds gs before hval0 hW hcnd hsz0 _
  have hsz : (DataW.weightsEach Try.prog (Try.f4.params.toList ++ Rows.fnExactArrowsOkSpec.plain.varTypes Try.prog) (ds ++ gs)).all (· ≤ reachBytes) = true := hsz0
  have hval : ∀ (j : Nat) t v, Try.f4.params[j]? = some t → args[j]? = some v → Value.okWide Try.prog W .any base t v := hval0
  have hW' := hW
  obtain ⟨p, q, hA0, hV, rfl, hfz, hnd⟩ := hW
  have hA : DataW.TrodAll enc Try.prog W 0 (fun _ => true) true Try.f4.params.toList args.toList ds p := hA0
  rw [Try.params4] at hA hval hsz
  obtain ⟨v0, vs0, d0, ds0, p0, q0, hargs, rfl, rfl, h0, r0⟩ := trodAll_cons hA
  obtain ⟨v1, vs1, d1, ds1, p1, q1, rfl, rfl, rfl, h1, r1⟩ := trodAll_cons r0
  obtain ⟨rfl, rfl, rfl⟩ := trodAll_nil r1
  obtain rfl : args = #[v0, v1] := by cases args; simp_all
  obtain ⟨rfl, rfl⟩ := trodVars_none hV
  have k0 := h0
  have lt0 : ∀ x ∈ p0, x.block < W.heap.size := by obtain ⟨m, hm⟩ := k0; exact DataW.trod_lt m _ _ _ hm
  obtain ⟨a0_0, a0_1, rfl, w0_0, w0_1⟩ := open2 Try.underlying31 (by kernel_rfl) (by kernel_rfl) rfl rfl (by kernel_rfl) (by kernel_rfl) (by kernel_rfl) (hval 0 31 v0 rfl rfl) h0
  obtain ⟨a1, len1, cap1, rfl⟩ := okWide_slice Try.underlying32 (hval 1 32 v1 rfl rfl)
  have k1 := h1
  have lt1 : ∀ x ∈ p1, x.block < W.heap.size := by obtain ⟨m, hm⟩ := k1; exact DataW.trod_lt m _ _ _ hm
  obtain ⟨l1, rfl, hr1, hc1, hy1, hz1⟩ := open_rows Try.underlying32 Try.underlying39 Try.underlying3 (by kernel_rfl) (by kernel_rfl) hsz (B := 24) (by kernel_rfl) (by decide) (j := 1) (t := 32) rfl rfl h1
  clear hA0 hval0 hsz0 hsz
  obtain ⟨k, hf⟩ := P.FnExactArrowsOk_pure a0_0 a0_1 w0_0 w0_1 l1 hy1 hz1
  refine (P.laws_FnExactArrowsOk.calls k a0_0 a0_1 _ _ l1 true W hr1 hc1 hf).mono fun e W' ⟨he, bel0⟩ => ?_
  have bel : Below W.heap.size W W' := bel0
  subst he
  exact ⟨_, rfl, _, _, _, [], _, [], hW', trodAll_mk1 (shut_bool Try.underlying4 _), (trodAll_cons_mk (Below.trod laidOut (by kernel_rfl) (of_decide_eq_true (by kernel_rfl)) k0 bel lt0) (trodAll_cons_mk (Below.trod laidOut (by kernel_rfl) (of_decide_eq_true (by kernel_rfl)) k1 bel lt1) trodAll_mk0)), rfl, bel.frame _, fun h => by cases h⟩
theorem over : Rows.fnExactArrowsOkRow.holds Try.pinned (OpenSpec.ofChange Rows.fnExactArrowsOkSpec) :=
  OpenClaim.holds_of_wide 4 Try.f4 rfl rfl rfl rfl rfl rfl rfl ⟨rfl, rfl, rfl, rfl, rfl⟩ rfl rfl rfl rfl rfl (by kernel_rfl) Try.func4 (by kernel_rfl)
    (of_decide_eq_true (by kernel_rfl)) (by unfold Func.isWrapper; first | (rw [if_pos (by decide +kernel)]; kernel_rfl) | (rw [if_neg (by decide +kernel)]; exact ⟨rfl, rfl⟩))
    (fun os started H enc _ => lifted os started H enc)
theorem proved : Rows.FnExactArrowsOkSaid := over
end Go.Proofs.Ytbeajmcjfhbcjaa.fnExactArrowsOk
namespace Go.Proofs.Ytbeajmcjfhbcjaa
/-- The row, under a short name, for the claim. -/
theorem fnExactArrowsOk_holds : Rows.FnExactArrowsOkSaid := fnExactArrowsOk.proved
#print axioms fnExactArrowsOk_holds
end Go.Proofs.Ytbeajmcjfhbcjaa
