/- The statement FnExactListTrees of the seat, out of its plain form (FnExactListTrees_pure) and the walk of its Go function. Part 5 of 5: each Go function's walk, then the plain lemmas, then the row. No condition: it holds for every input. -/
import Derived.Test.YtcajhmldbkfhiaaBFnExactListTrees4
import Derived.Test.YtcajhmldbkfhiaaRows
import Derived.Below
import Derived.ChangeOld
import Derived.OpenShut
import Derived.ProofKit
import Derived.ShutString
import Derived.SizedLaws
import Derived.WalkKit
namespace Go.Proofs.Ytcajhmldbkfhiaa.P
open Go.RowKit Go.Proofs.YtcajhmldbkfhiaaW.PrintWords
set_option linter.unusedVariables false
set_option linter.unusedSimpArgs false

def upd (D : Nat → Int) (y : Nat) (v : Int) : Nat → Int := fun c => if c = y then v else D c
/-- One direction of one cell. -/
def relax (s : Nat → Nat → Int) (x d : Nat) (S : (Nat → Int) × List Nat) : (Nat → Int) × List Nat :=
  if 0 ≤ s x d ∧ S.1 (s x d).toNat < 0 then (upd S.1 (s x d).toNat (S.1 x + 1), S.2 ++ [(s x d).toNat]) else S
def bround (s : Nat → Nat → Int) (x : Nat) (S : (Nat → Int) × List Nat) : (Nat → Int) × List Nat := relax s x 3 (relax s x 2 (relax s x 1 (relax s x 0 S)))
def bfsF (s : Nat → Nat → Int) : Nat → (Nat → Int) × List Nat → Nat → (Nat → Int)
  | 0, S, _ => S.1
  | f + 1, S, i => match S.2[i]? with
    | none => S.1
    | some x => bfsF s f (bround s x S) (i + 1)
/-- The distances from a cell, or -1. -/
def bfsD (s : Nat → Nat → Int) (v src : Nat) : Nat → Int := bfsF s (v + 1) (upd (fun _ => -1) src 0, [src]) 0
/-- Steps stay among v cells. -/
def Rng (s : Nat → Nat → Int) (v : Nat) : Prop := ∀ x d, x < v → d < 4 → s x d = -1 ∨ (0 ≤ s x d ∧ s x d < (v : Int))

structure BInv (s : Nat → Nat → Int) (v src : Nat) (S : (Nat → Int) × List Nat) (i : Nat) (m : Nat) : Prop where
  src0 : S.1 src = 0
  zero : ∀ c, S.1 c = 0 → c = src
  srcq : src ∈ S.2
  inr : ∀ c ∈ S.2, c < v
  nodup : S.2.Nodup
  neg : ∀ c, S.1 c = -1 ∨ 0 ≤ S.1 c
  mem : ∀ c, 0 ≤ S.1 c ↔ c ∈ S.2
  sorted : S.2.Pairwise (fun a b => S.1 a ≤ S.1 b)
  top : ∀ x, S.2[i]? = some x → ∀ c ∈ S.2, S.1 c ≤ S.1 x + 1
  done : ∀ j x, S.2[j]? = some x → ∀ d, d < 4 → (j < i ∨ (j = i ∧ d < m)) → 0 ≤ s x d → 0 ≤ S.1 (s x d).toNat ∧ S.1 (s x d).toNat ≤ S.1 x + 1
  pred : ∀ c ∈ S.2, c = src ∨ ∃ c' d, c' ∈ S.2 ∧ d < 4 ∧ s c' d = (c : Int) ∧ S.1 c = S.1 c' + 1
theorem BInv.start {s : Nat → Nat → Int} {v src : Nat} (h : src < v) : BInv s v src (upd (fun _ => -1) src 0, [src]) 0 0 where
  src0 := by simp [upd]
  zero := fun c => by simp only [upd]; split <;> simp_all
  srcq := by simp
  inr := by simpa using h
  nodup := by simp
  neg := fun c => by simp only [upd]; split <;> simp
  mem := fun c => by
    simp only [upd, List.mem_singleton]
    split
    · rename_i e; simp [e]
    · rename_i e; simp [e]
  sorted := by simp
  top := fun x hx c hc => by
    simp at hx hc
    subst hx hc
    omega
  done := fun j x hx d hd hj => by omega
  pred := fun c hc => .inl (by simpa using hc)
theorem BInv.relax {s : Nat → Nat → Int} {v src : Nat} (hs : Rng s v) {S : (Nat → Int) × List Nat} {i m x : Nat} (hm : m < 4) (hx : S.2[i]? = some x) (I : BInv s v src S i m) :
    BInv s v src (relax s x m S) i (m + 1) ∧ (relax s x m S).2[i]? = some x := by
  have hxq : x ∈ S.2 := List.mem_of_getElem? hx
  have hi : i < S.2.length := by
    rcases Nat.lt_or_ge i S.2.length with h | h
    · exact h
    · rw [List.getElem?_eq_none h] at hx; cases hx
  have hxv := I.inr x hxq
  have hx0 := (I.mem x).2 hxq
  unfold Go.Proofs.Ytcajhmldbkfhiaa.P.relax
  by_cases hc : 0 ≤ s x m ∧ S.1 (s x m).toNat < 0
  · rw [if_pos hc]
    obtain ⟨y, hy⟩ : ∃ y : Nat, s x m = y := ⟨(s x m).toNat, by omega⟩
    have hyv : y < v := by have := hs x m hxv hm; omega
    rw [hy] at hc ⊢
    simp only [Int.toNat_natCast] at hc ⊢
    have hyq : y ∉ S.2 := fun h => by have := (I.mem y).2 h; omega
    have keep : ∀ c, c ∈ S.2 → upd S.1 y (S.1 x + 1) c = S.1 c := by
      intro c h
      unfold upd
      rw [if_neg]
      rintro rfl
      exact hyq h
    have uy : upd S.1 y (S.1 x + 1) y = S.1 x + 1 := by unfold upd; rw [if_pos rfl]
    have idx : ∀ j z, (S.2 ++ [y])[j]? = some z → S.2[j]? = some z ∨ (j = S.2.length ∧ z = y) := by
      intro j z h
      rcases Nat.lt_or_ge j S.2.length with h1 | h1
      · rw [List.getElem?_append_left h1] at h; exact .inl h
      · rw [List.getElem?_append_right h1] at h
        have : j - S.2.length = 0 := by
          rcases Nat.eq_zero_or_pos (j - S.2.length) with h2 | h2
          · exact h2
          · rw [List.getElem?_eq_none (by simp only [List.length_singleton]; omega)] at h; cases h
        rw [this] at h
        simp at h
        exact .inr ⟨by omega, h.symm⟩
    have I0 : ∀ c, (upd S.1 y (S.1 x + 1), S.2 ++ [y]).1 c = 0 → c = src := by
      intro c
      show upd _ _ _ c = 0 → _
      unfold upd
      split
      · intro h; omega
      · exact I.zero c
    refine ⟨{ src0 := ?_, zero := I0, srcq := ?_, inr := ?_, nodup := ?_, neg := ?_, mem := ?_, sorted := ?_, top := ?_, done := ?_, pred := ?_ }, by rw [List.getElem?_append_left hi]; exact hx⟩
    · show upd _ _ _ src = 0
      rw [keep _ I.srcq]; exact I.src0
    · exact List.mem_append_left _ I.srcq
    · intro c hcq
      rcases List.mem_append.1 hcq with h | h
      · exact I.inr c h
      · simp at h; omega
    · rw [List.nodup_append]
      refine ⟨I.nodup, by simp, ?_⟩
      intro a ha b hb hab
      simp at hb
      subst hab hb
      exact hyq ha
    · intro c
      show upd _ _ _ c = -1 ∨ 0 ≤ upd _ _ _ c
      by_cases e : c = y
      · subst e; rw [uy]; omega
      · rw [show upd S.1 y (S.1 x + 1) c = S.1 c from if_neg e]; exact I.neg c
    · intro c
      rw [List.mem_append, List.mem_singleton]
      show 0 ≤ upd _ _ _ c ↔ _
      unfold upd
      by_cases e : c = y
      · rw [if_pos e]; exact ⟨fun _ => .inr e, fun _ => by omega⟩
      · rw [if_neg e, I.mem]; simp [e]
    · rw [List.pairwise_append]
      refine ⟨I.sorted.imp_of_mem fun {a b} ha hb h => ?_, by simp, ?_⟩
      · show upd _ _ _ a ≤ upd _ _ _ b
        rw [keep a ha, keep b hb]; exact h
      · intro a ha b hb
        simp at hb
        subst hb
        show upd _ _ _ a ≤ upd _ _ _ b
        rw [keep a ha, uy]
        exact I.top x hx a ha
    · intro z hz c hcq
      rw [List.getElem?_append_left hi, hx] at hz
      obtain rfl := Option.some.inj hz
      show upd _ _ _ c ≤ upd _ _ _ x + 1
      rw [keep x hxq]
      rcases List.mem_append.1 hcq with h | h
      · rw [keep c h]; exact I.top x hx c h
      · simp at h; subst h; rw [uy]; omega
    · intro j z hz d hd hj h0
      rcases idx j z hz with h | ⟨h, _⟩
      · have hzq : z ∈ S.2 := List.mem_of_getElem? h
        show 0 ≤ upd _ _ _ _ ∧ upd _ _ _ _ ≤ upd _ _ _ z + 1
        rw [keep z hzq]
        by_cases e : j = i ∧ d = m
        · obtain ⟨rfl, rfl⟩ := e
          rw [hx] at h
          obtain rfl := Option.some.inj h
          rw [hy, Int.toNat_natCast, uy]
          omega
        · have := I.done j z h d hd (by omega) h0
          have h1 := (I.mem _).1 this.1
          rw [keep _ h1]
          exact this
      · omega
    · intro c hcq
      rcases List.mem_append.1 hcq with h | h
      · rcases I.pred c h with h1 | ⟨c', d, h1, h2, h3, h4⟩
        · exact .inl h1
        · refine .inr ⟨c', d, List.mem_append_left _ h1, h2, h3, ?_⟩
          show upd _ _ _ c = upd _ _ _ c' + 1
          rw [keep c h, keep c' h1]; exact h4
      · simp at h
        subst h
        refine .inr ⟨x, m, List.mem_append_left _ hxq, hm, hy, ?_⟩
        show upd _ _ _ c = upd _ _ _ x + 1
        rw [uy, keep x hxq]
  · rw [if_neg hc]
    refine ⟨{ I with done := ?_ }, hx⟩
    intro j z hz d hd hj h0
    by_cases e : j = i ∧ d = m
    · obtain ⟨rfl, rfl⟩ := e
      rw [hx] at hz
      obtain rfl := Option.some.inj hz
      have h1 : 0 ≤ S.1 (s x d).toNat := by
        have := I.neg (s x d).toNat
        omega
      exact ⟨h1, I.top x hx _ ((I.mem _).1 h1)⟩
    · exact I.done j z hz d hd (by omega) h0
theorem BInv.next {s : Nat → Nat → Int} {v src : Nat} {S : (Nat → Int) × List Nat} {i x : Nat} (hx : S.2[i]? = some x) (I : BInv s v src S i 4) : BInv s v src S (i + 1) 0 :=
  { I with
    top := fun z hz c hc => by
      have h1 := I.top x hx c hc
      have h2 := List.pairwise_iff_getElem.1 I.sorted i (i + 1)
      obtain ⟨a, rfl⟩ := List.getElem?_eq_some_iff.1 hx
      obtain ⟨b, rfl⟩ := List.getElem?_eq_some_iff.1 hz
      have := h2 a b (by omega)
      omega
    done := fun j z hz d hd hj h0 => I.done j z hz d hd (by omega) h0 }
theorem BInv.round {s : Nat → Nat → Int} {v src : Nat} (hs : Rng s v) {S : (Nat → Int) × List Nat} {i x : Nat} (hx : S.2[i]? = some x) (I : BInv s v src S i 0) : BInv s v src (bround s x S) (i + 1) 0 := by
  obtain ⟨I1, h1⟩ := I.relax hs (by omega) hx
  obtain ⟨I2, h2⟩ := I1.relax hs (by omega) h1
  obtain ⟨I3, h3⟩ := I2.relax hs (by omega) h2
  obtain ⟨I4, h4⟩ := I3.relax hs (by omega) h3
  exact I4.next h4
theorem nodup_len {v : Nat} : ∀ {q : List Nat}, q.Nodup → (∀ c ∈ q, c < v) → q.length ≤ v := by
  induction v with
  | zero =>
    intro q _ h
    cases q with
    | nil => simp
    | cons a l => have := h a (by simp); omega
  | succ v ih =>
    intro q hn h
    have h1 := ih (q := q.erase v) (hn.erase v) (fun c hc => by
      have h1 := h c (List.mem_of_mem_erase hc)
      have : c ≠ v := by rintro rfl; exact absurd hc (List.Nodup.not_mem_erase hn)
      omega)
    have h2 := List.length_erase (a := v) (l := q)
    split at h2 <;> omega
theorem BInv.len {s : Nat → Nat → Int} {v src : Nat} {S : (Nat → Int) × List Nat} {i m : Nat} (I : BInv s v src S i m) : S.2.length ≤ v := nodup_len I.nodup I.inr
/-- What distances are. -/
structure Dist (s : Nat → Nat → Int) (v src : Nat) (D : Nat → Int) : Prop where
  src0 : D src = 0
  zero : ∀ c, D c = 0 → c = src
  neg : ∀ c, D c = -1 ∨ 0 ≤ D c
  inr : ∀ c, 0 ≤ D c → c < v
  lip : ∀ x d, d < 4 → 0 ≤ D x → 0 ≤ s x d → 0 ≤ D (s x d).toNat ∧ D (s x d).toNat ≤ D x + 1
  pred : ∀ c, 0 < D c → ∃ c' d, d < 4 ∧ s c' d = (c : Int) ∧ 0 ≤ D c' ∧ D c = D c' + 1
theorem BInv.dist {s : Nat → Nat → Int} {v src : Nat} {S : (Nat → Int) × List Nat} {i : Nat} (hi : S.2[i]? = none) (I : BInv s v src S i 0) : Dist s v src S.1 where
  src0 := I.src0
  zero := I.zero
  neg := I.neg
  inr := fun c h => I.inr c ((I.mem c).1 h)
  lip := fun x d hd hx h0 => by
    obtain ⟨j, hj⟩ := List.mem_iff_getElem?.1 ((I.mem x).1 hx)
    refine I.done j x hj d hd (.inl ?_) h0
    rcases Nat.lt_or_ge j i with h | h
    · exact h
    · rw [List.getElem?_eq_none_iff] at hi
      rw [List.getElem?_eq_none (by omega)] at hj
      cases hj
  pred := fun c h => by
    rcases I.pred c ((I.mem c).1 (by omega)) with h1 | ⟨c', d, h1, h2, h3, h4⟩
    · rw [h1, I.src0] at h; omega
    · exact ⟨c', d, h2, h3, (I.mem c').2 h1, h4⟩
theorem bfsF_dist {s : Nat → Nat → Int} {v src : Nat} (hs : Rng s v) : ∀ (f : Nat) (S : (Nat → Int) × List Nat) (i : Nat), BInv s v src S i 0 → i ≤ S.2.length → v + 1 - i ≤ f → Dist s v src (bfsF s f S i)
  | 0, S, i, I, hi, hf => by have := I.len; omega
  | f + 1, S, i, I, hi, hf => by
    simp only [bfsF]
    cases h : S.2[i]? with
    | none => exact I.dist h
    | some x =>
      have I2 := I.round hs h
      have hl : S.2.length ≤ (bround s x S).2.length := by
        have h1 : ∀ m T, T.2.length ≤ (Go.Proofs.Ytcajhmldbkfhiaa.P.relax s x m T).2.length := by
          intro m T
          unfold Go.Proofs.Ytcajhmldbkfhiaa.P.relax
          split <;> simp
        exact Nat.le_trans (h1 0 S) (Nat.le_trans (h1 1 _) (Nat.le_trans (h1 2 _) (h1 3 _)))
      have h2 := (List.getElem?_eq_some_iff.1 h).1
      exact bfsF_dist hs f _ (i + 1) I2 (by omega) (by omega)
theorem bfsD_dist {s : Nat → Nat → Int} {v src : Nat} (hs : Rng s v) (h : src < v) : Dist s v src (bfsD s v src) := bfsF_dist hs _ _ 0 (BInv.start h) (by simp) (by omega)
/-- Steps are the edges of n. -/
structure Net (s : Nat → Nat → Int) (e : Nat → Nat × Nat) (v n : Nat) : Prop where
  rng : Rng s v
  edge : ∀ x d, x < v → d < 4 → 0 ≤ s x d → ∃ k, n.testBit k = true ∧ (e k = (x, (s x d).toNat) ∨ e k = ((s x d).toNat, x))
  lt : ∀ k, n.testBit k = true → (e k).1 < v ∧ (e k).2 < v
  fwd : ∀ k, n.testBit k = true → ∃ d, d < 4 ∧ s (e k).1 d = ((e k).2 : Int)
  bwd : ∀ k, n.testBit k = true → ∃ d, d < 4 ∧ s (e k).2 d = ((e k).1 : Int)
theorem Dist.cn {s : Nat → Nat → Int} {e : Nat → Nat × Nat} {v n src : Nat} {D : Nat → Int} (N : Net s e v n) (I : Dist s v src D) (c : Nat) : 0 ≤ D c ↔ Cn e n src c := by
  constructor
  · intro h
    obtain ⟨m, hm⟩ : ∃ m : Nat, D c = m := ⟨(D c).toNat, by omega⟩
    clear h
    induction m using Nat.strongRecOn generalizing c with
    | _ m ih =>
      by_cases h0 : 0 < D c
      · obtain ⟨c', d, hd, h1, h2, h3⟩ := I.pred c h0
        have := ih (D c').toNat (by omega) c' (by omega)
        obtain ⟨k, hk, hk2⟩ := N.edge c' d (I.inr _ h2) hd (by omega)
        rw [h1] at hk2
        simp only [Int.toNat_natCast] at hk2
        rcases hk2 with h | h
        · have e1 := Cn.edge (e := e) hk
          rw [h] at e1
          exact this.trans e1
        · have e1 := Cn.edge' (e := e) hk
          rw [h] at e1
          exact this.trans e1
      · rw [I.zero c (by omega)]
        exact .refl _
  · intro h
    induction h with
    | refl => rw [I.src0]; omega
    | fwd k hk _ ih =>
      obtain ⟨d, hd, h1⟩ := N.fwd k hk
      have := I.lip _ d hd ih (by omega)
      rw [h1] at this
      simpa using this.1
    | bwd k hk _ ih =>
      obtain ⟨d, hd, h1⟩ := N.bwd k hk
      have := I.lip _ d hd ih (by omega)
      rw [h1] at this
      simpa using this.1
def cellsN (w h : Int) : Nat := (cellsOf w h).toNat
theorem cellsN_cast (w h : Int) : ((cellsN w h : Nat) : Int) = cellsOf w h := by have := cellsOf_range w h; unfold cellsN; omega
theorem cellsN_le (w h : Int) : cellsN w h ≤ 16 := by have := cellsOf_range w h; unfold cellsN; omega
def ends (w h : Int) (g : Nat) : Nat × Nat := ((endsI w h g).1.toNat, (endsI w h g).2.toNat)
def st (w h : Int) (n : Nat) (c d : Nat) : Int := stepI w h n c d
theorem ends_facts {w h : Int} {g : Nat} (hg : g < gapsN w h) : endsI w h g = (((ends w h g).1 : Int), ((ends w h g).2 : Int)) ∧ (ends w h g).1 < (ends w h g).2 ∧ (ends w h g).2 < cellsN w h := by
  have hc := gapsN_cast w h
  have hc2 := cellsN_cast w h
  obtain ⟨h1, h2, h3, _⟩ := end_facts (w := w) (h := h) (g := g) (by omega) (by omega)
  unfold ends
  refine ⟨?_, by simp only; omega, by simp only; omega⟩
  apply Prod.ext
  · simp only; omega
  · simp only; omega
theorem gr_grid (w h : Int) : Gr (ends w h) (cellsN w h) (gapsN w h) := fun g hg => by
  have := ends_facts hg
  omega
theorem step_open {w h : Int} {n : Nat} {c d : Int} (hn : n < 2 ^ gapsN w h) (h0 : 0 ≤ stepI w h n c d) : ∃ g : Nat, g < gapsN w h ∧ gapI w h c d = g ∧ n.testBit g = true ∧ stepI w h n c d = nbI w h c d ∧ endsI w h g = (min c (nbI w h c d), max c (nbI w h c d)) := by
  have hc := gapsN_cast w h
  unfold stepI at *
  by_cases ho : openI n (gapI w h c d) = true
  · rw [if_pos ho] at *
    rcases step_facts w h c d with ⟨h1, _⟩ | ⟨h1, h2, h3, h4, h5, h6, _⟩
    · omega
    · refine ⟨(gapI w h c d).toNat, by omega, by omega, ?_, rfl, ?_⟩
      · unfold openI at ho
        simp only [Bool.and_eq_true] at ho
        exact ho.2
      · rw [show (((gapI w h c d).toNat : Nat) : Int) = gapI w h c d by omega]; exact h6
  · rw [if_neg ho] at h0; omega
theorem net_grid {w h : Int} {n : Nat} (hn : n < 2 ^ gapsN w h) : Net (st w h n) (ends w h) (cellsN w h) n where
  rng := fun x d _ _ => by
    have := cellsN_cast w h
    unfold st
    rcases step_lt (w := w) (h := h) (c := x) (d := d) (n := n) with h1 | h1
    · exact .inl h1
    · exact .inr (by omega)
  edge := fun x d hx hd h0 => by
    unfold st at *
    obtain ⟨g, h1, h2, h3, h4, h5⟩ := step_open hn h0
    refine ⟨g, h3, ?_⟩
    unfold ends
    rw [h5, h4]
    rw [h4] at h0
    rcases Int.le_total x (nbI w h x d) with hl | hl
    · left
      rw [Int.min_eq_left hl, Int.max_eq_right hl]; rfl
    · right
      rw [Int.min_eq_right hl, Int.max_eq_left hl]; rfl
  lt := fun k hk => by
    have := ends_facts (lt_of_testBit hn hk)
    omega
  fwd := fun k hk => by
    have hkg := lt_of_testBit hn hk
    have hc := gapsN_cast w h
    obtain ⟨e1, e2, e3⟩ := ends_facts hkg
    obtain ⟨_, _, _, h4⟩ := end_facts (w := w) (h := h) (g := k) (by omega) (by omega)
    rw [e1] at h4
    simp only at h4
    have ho : openI n (k : Int) = true := by unfold openI; simp [hk]
    rcases h4 with ⟨a, b⟩ | ⟨a, b⟩
    · exact ⟨1, by omega, by unfold st stepI; rw [show ((1 : Nat) : Int) = 1 from rfl, b, if_pos ho, a]⟩
    · exact ⟨2, by omega, by unfold st stepI; rw [show ((2 : Nat) : Int) = 2 from rfl, b, if_pos ho, a]⟩
  bwd := fun k hk => by
    have hkg := lt_of_testBit hn hk
    have hc := gapsN_cast w h
    obtain ⟨e1, e2, e3⟩ := ends_facts hkg
    obtain ⟨_, _, _, h4⟩ := end_facts (w := w) (h := h) (g := k) (by omega) (by omega)
    rw [e1] at h4
    simp only at h4
    have ho : openI n (k : Int) = true := by unfold openI; simp [hk]
    rcases h4 with ⟨a, b⟩ | ⟨a, b⟩
    · rcases step_facts w h (ends w h k).1 1 with ⟨q, _⟩ | ⟨q1, q2, q3, q4, q5, q6, q7, q8⟩
      · omega
      · rw [a] at q7 q8
        exact ⟨3, by omega, by unfold st stepI; rw [show ((3 : Nat) : Int) = (1 + 2) % 4 from rfl, q8, b, if_pos ho, q7]⟩
    · rcases step_facts w h (ends w h k).1 2 with ⟨q, _⟩ | ⟨q1, q2, q3, q4, q5, q6, q7, q8⟩
      · omega
      · rw [a] at q7 q8
        exact ⟨0, by omega, by unfold st stepI; rw [show ((0 : Nat) : Int) = (2 + 2) % 4 from rfl, q8, b, if_pos ho, q7]⟩
/-- The distance from a cell, or -1. -/
def distN (w h : Int) (n s : Nat) : Nat → Int := bfsD (st w h n) (cellsN w h) s
theorem distN_dist {w h : Int} {n s : Nat} (hn : n < 2 ^ gapsN w h) (hs : s < cellsN w h) : Dist (st w h n) (cellsN w h) s (distN w h n s) := bfsD_dist (net_grid hn).rng hs
theorem distN_cn {w h : Int} {n s : Nat} (hn : n < 2 ^ gapsN w h) (hs : s < cellsN w h) (c : Nat) : 0 ≤ distN w h n s c ↔ Cn (ends w h) n s c := (distN_dist hn hs).cn (net_grid hn) c
def p1 (x : Nat) : Nat := ((x / 2) &&& 6148914691236517205) + (x &&& 6148914691236517205)
def p2 (x : Nat) : Nat := ((x / 4) &&& 3689348814741910323) + (x &&& 3689348814741910323)
def p3 (x : Nat) : Nat := (x / 16 + x) &&& 1085102592571150095
theorem and_split {a m : Nat} (b M : Nat) (ha : a < 256) (hm : m < 256) : (256 * b + a) &&& (256 * M + m) = 256 * (b &&& M) + (a &&& m) := by
  apply Nat.eq_of_testBit_eq
  intro i
  have h1 := Nat.testBit_two_pow_mul_add b (i := 8) ha i
  have h2 := Nat.testBit_two_pow_mul_add M (i := 8) hm i
  have h3 := Nat.testBit_two_pow_mul_add (b &&& M) (i := 8) (b := a &&& m) (Nat.lt_of_le_of_lt Nat.and_le_left ha) i
  simp only [show (2 : Nat) ^ 8 = 256 from rfl] at h1 h2 h3
  rw [Nat.testBit_and, h1, h2, h3]
  split <;> simp [Nat.testBit_and]
theorem p1_split (b a : Nat) (ha : a < 256) : p1 (256 * b + a) = 256 * (((b / 2) &&& 24019198012642645) + (b &&& 24019198012642645)) + p1 a := by
  have e1 : (256 * b + a) / 2 = 256 * (b / 2) + (128 * (b % 2) + a / 2) := by omega
  have e2 : ∀ c, c < 2 → ∀ a, a < 256 → (128 * c + a / 2) &&& 85 = (a / 2) &&& 6148914691236517205 := by decide +kernel
  have e3 : ∀ a, a < 256 → a &&& 85 = a &&& 6148914691236517205 := by decide +kernel
  unfold p1
  rw [e1, show (6148914691236517205 : Nat) = 256 * 24019198012642645 + 85 from rfl, and_split _ _ (by omega) (by decide), and_split _ _ ha (by decide), ← show (6148914691236517205 : Nat) = 256 * 24019198012642645 + 85 from rfl, e2 _ (Nat.mod_lt _ (by decide)) a ha, e3 a ha]
  omega
theorem p2_split (b a : Nat) (ha : a < 256) : p2 (256 * b + a) = 256 * (((b / 4) &&& 14411518807585587) + (b &&& 14411518807585587)) + p2 a := by
  have e1 : (256 * b + a) / 4 = 256 * (b / 4) + (64 * (b % 4) + a / 4) := by omega
  have e2 : ∀ c, c < 4 → ∀ a, a < 256 → (64 * c + a / 4) &&& 51 = (a / 4) &&& 3689348814741910323 := by decide +kernel
  have e3 : ∀ a, a < 256 → a &&& 51 = a &&& 3689348814741910323 := by decide +kernel
  unfold p2
  rw [e1, show (3689348814741910323 : Nat) = 256 * 14411518807585587 + 51 from rfl, and_split _ _ (by omega) (by decide), and_split _ _ ha (by decide), ← show (3689348814741910323 : Nat) = 256 * 14411518807585587 + 51 from rfl, e2 _ (Nat.mod_lt _ (by decide)) a ha, e3 a ha]
  omega
theorem p3_split (b a : Nat) (ha : a < 72) (hb : b % 16 ≤ 4) : p3 (256 * b + a) = 256 * ((b / 16 + b) &&& 4238682002231055) + p3 a := by
  have e1 : (256 * b + a) / 16 + (256 * b + a) = 256 * (b / 16 + b) + (16 * (b % 16) + a / 16 + a) := by omega
  have e2 : ∀ c, c < 5 → ∀ a, a < 72 → (16 * c + a / 16 + a) &&& 15 = (a / 16 + a) &&& 1085102592571150095 := by decide +kernel
  unfold p3
  rw [e1, show (1085102592571150095 : Nat) = 256 * 4238682002231055 + 15 from rfl, and_split _ _ (by omega) (by decide), ← show (1085102592571150095 : Nat) = 256 * 4238682002231055 + 15 from rfl, e2 _ (by omega) a ha]
theorem byte : ∀ a, a < 256 → p1 a < 256 ∧ p1 a % 4 ≤ 2 ∧ p2 (p1 a) < 72 ∧ p2 (p1 a) % 16 ≤ 4 ∧ p3 (p2 (p1 a)) = pop 8 a := by decide +kernel
theorem and_low {b M : Nat} (hb : b < 65536) : b &&& M = b &&& (M % 65536) := by
  have h := Nat.and_mod_two_pow (a := b) (b := M) (n := 16)
  simp only [show (2 : Nat) ^ 16 = 65536 from rfl] at h
  rw [Nat.mod_eq_of_lt hb, Nat.mod_eq_of_lt (Nat.lt_of_le_of_lt Nat.and_le_left hb)] at h
  exact h
theorem p1_hi {b : Nat} (hb : b < 65536) : ((b / 2) &&& 24019198012642645) + (b &&& 24019198012642645) = p1 b := by
  unfold p1
  rw [and_low (show b / 2 < 65536 by omega), and_low hb, and_low (M := 6148914691236517205) (show b / 2 < 65536 by omega), and_low (M := 6148914691236517205) hb]
theorem p2_hi {b : Nat} (hb : b < 65536) : ((b / 4) &&& 14411518807585587) + (b &&& 14411518807585587) = p2 b := by
  unfold p2
  rw [and_low (show b / 4 < 65536 by omega), and_low hb, and_low (M := 3689348814741910323) (show b / 4 < 65536 by omega), and_low (M := 3689348814741910323) hb]
theorem p3_hi {b : Nat} (hb : b < 61680) : (b / 16 + b) &&& 4238682002231055 = p3 b := by
  unfold p3
  rw [and_low (show b / 16 + b < 65536 by omega), and_low (M := 1085102592571150095) (show b / 16 + b < 65536 by omega)]
theorem p3_three {a b c : Nat} (ha : a < 256) (hb : b < 256) (hc : c < 256) : p3 (p2 (p1 (256 * (256 * c + b) + a))) = 256 * (256 * pop 8 c + pop 8 b) + pop 8 a := by
  obtain ⟨a1, _, a2, a3, a4⟩ := byte a ha
  obtain ⟨b1, _, b2, b3, b4⟩ := byte b hb
  obtain ⟨c1, _, c2, c3, c4⟩ := byte c hc
  rw [p1_split _ _ ha, p1_hi (by omega), p1_split _ _ hb, p1_hi (by omega)]
  rw [p2_split _ _ a1, p2_hi (by omega), p2_split _ _ b1, p2_hi (by omega)]
  rw [p3_split _ _ a2 (by omega), p3_hi (by omega), p3_split _ _ b2 c3, p3_hi (by omega), a4, b4, c4]
theorem pop24 (a b c : Nat) (ha : a < 256) (hb : b < 256) (hc : c < 256) : pop 24 (256 * (256 * c + b) + a) = pop 8 a + pop 8 b + pop 8 c := by
  rw [show 24 = 8 + (8 + 8) from rfl, pop_add, pop_add, show (2 : Nat) ^ 8 = 256 from rfl, show (256 * (256 * c + b) + a) / 256 = 256 * c + b by omega, show (256 * c + b) / 256 = c by omega]
  rw [← pop_mod 8 (256 * (256 * c + b) + a), ← pop_mod 8 (256 * c + b), show (2 : Nat) ^ 8 = 256 from rfl, show (256 * (256 * c + b) + a) % 256 = a by omega, show (256 * c + b) % 256 = b by omega, Nat.add_assoc]
theorem u64_small {n : Nat} (h : n < 18446744073709551616) : IntKind.u64.wrap (n : Int) = n := by
  rw [IntKind.wrap_u64]; omega
theorem u64_and {a b : Nat} (ha : a < 9223372036854775808) (hb : b < 9223372036854775808) : Go.bits .and .u64 a b = ((a &&& b : Nat) : Int) :=
  (bits_nat .u64 63 (by decide) (fun n h0 h1 => by rw [IntKind.wrap_u64]; omega) a b (by simpa using ha) (by simpa using hb)).1
def s1 (a : Int) : Int := IntKind.u64.wrap ((Go.bits .and .u64 (a / 2) 6148914691236517205) + (Go.bits .and .u64 a 6148914691236517205))
def s2 (a : Int) : Int := IntKind.u64.wrap ((Go.bits .and .u64 (a / 4) 3689348814741910323) + (Go.bits .and .u64 a 3689348814741910323))
def s3 (a : Int) : Int := Go.bits .and .u64 (IntKind.u64.wrap (a / 16 + a)) 1085102592571150095
def s4 (a : Int) : Int := IntKind.u64.wrap (a + a / 256)
def s5 (a : Int) : Int := IntKind.u64.wrap (a + a / 65536)
def s6 (a : Int) : Int := IntKind.u64.wrap (a + a / 4294967296)
theorem ones_steps (a : Int) : bits_OnesCount.f a = some (Go.bits .and .i64 (wrap64 (s6 (s5 (s4 (s3 (s2 (s1 a))))))) 127) := rfl
theorem s1_nat {a : Nat} (h : a < 16777216) : s1 (a : Int) = (p1 a : Int) := by
  unfold s1 p1
  rw [show ((a : Int) / 2) = ((a / 2 : Nat) : Int) by omega, show (6148914691236517205 : Int) = ((6148914691236517205 : Nat) : Int) from rfl, u64_and (by omega) (by decide), u64_and (by omega) (by decide)]
  have h1 : (a / 2 &&& 6148914691236517205) ≤ a / 2 := Nat.and_le_left
  have h2 : (a &&& 6148914691236517205) ≤ a := Nat.and_le_left
  rw [← Int.natCast_add, u64_small (by omega)]
theorem s2_nat {a : Nat} (h : a < 67108864) : s2 (a : Int) = (p2 a : Int) := by
  unfold s2 p2
  rw [show ((a : Int) / 4) = ((a / 4 : Nat) : Int) by omega, show (3689348814741910323 : Int) = ((3689348814741910323 : Nat) : Int) from rfl, u64_and (by omega) (by decide), u64_and (by omega) (by decide)]
  have h1 : (a / 4 &&& 3689348814741910323) ≤ a / 4 := Nat.and_le_left
  have h2 : (a &&& 3689348814741910323) ≤ a := Nat.and_le_left
  rw [← Int.natCast_add, u64_small (by omega)]
theorem s3_nat {a : Nat} (h : a < 268435456) : s3 (a : Int) = (p3 a : Int) := by
  unfold s3 p3
  rw [show ((a : Int) / 16 + a) = ((a / 16 + a : Nat) : Int) by omega, u64_small (by omega), show (1085102592571150095 : Int) = ((1085102592571150095 : Nat) : Int) from rfl, u64_and (by omega) (by decide)]
/-- The library's count of bits. -/
theorem ones_eq {s : Nat} (h : s < 16777216) : bits_OnesCount.f (s : Int) = some (pop 24 s : Int) := by
  rw [ones_steps]
  have h1 : p1 s < 67108864 := by
    unfold p1
    have h1 : (s / 2 &&& 6148914691236517205) ≤ s / 2 := Nat.and_le_left
    have h2 : (s &&& 6148914691236517205) ≤ s := Nat.and_le_left
    omega
  have h2 : p2 (p1 s) < 268435456 := by
    unfold p2
    have h3 : (p1 s / 4 &&& 3689348814741910323) ≤ p1 s / 4 := Nat.and_le_left
    have h4 : (p1 s &&& 3689348814741910323) ≤ p1 s := Nat.and_le_left
    omega
  rw [s1_nat h, s2_nat h1, s3_nat h2]
  obtain ⟨a, b, c, ha, hb, hc, rfl⟩ : ∃ a b c, a < 256 ∧ b < 256 ∧ c < 256 ∧ s = 256 * (256 * c + b) + a := ⟨s % 256, s / 256 % 256, s / 65536, by omega, by omega, by omega, by omega⟩
  rw [p3_three ha hb hc, pop24 _ _ _ ha hb hc]
  have qa := pop_le 8 a
  have qb := pop_le 8 b
  have qc := pop_le 8 c
  generalize pop 8 a = x at *
  generalize pop 8 b = y at *
  generalize pop 8 c = z at *
  have e4 : s4 ((256 * (256 * z + y) + x : Nat) : Int) = ((65536 * z + 256 * (y + z) + (x + y) : Nat) : Int) := by
    unfold s4
    rw [show (((256 * (256 * z + y) + x : Nat) : Int) + ((256 * (256 * z + y) + x : Nat) : Int) / 256) = ((65536 * z + 256 * (y + z) + (x + y) : Nat) : Int) by omega, u64_small (by omega)]
  have e5 : s5 ((65536 * z + 256 * (y + z) + (x + y) : Nat) : Int) = ((65536 * z + 256 * (y + z) + (x + y + z) : Nat) : Int) := by
    unfold s5
    rw [show (((65536 * z + 256 * (y + z) + (x + y) : Nat) : Int) + ((65536 * z + 256 * (y + z) + (x + y) : Nat) : Int) / 65536) = ((65536 * z + 256 * (y + z) + (x + y + z) : Nat) : Int) by omega, u64_small (by omega)]
  have e6 : s6 ((65536 * z + 256 * (y + z) + (x + y + z) : Nat) : Int) = ((65536 * z + 256 * (y + z) + (x + y + z) : Nat) : Int) := by
    unfold s6
    rw [show (((65536 * z + 256 * (y + z) + (x + y + z) : Nat) : Int) + ((65536 * z + 256 * (y + z) + (x + y + z) : Nat) : Int) / 4294967296) = ((65536 * z + 256 * (y + z) + (x + y + z) : Nat) : Int) by omega, u64_small (by omega)]
  rw [e4, e5, e6, wrap64_id (by omega) (by omega), show (127 : Int) = ((127 : Nat) : Int) from rfl, bits_and (by omega) (by decide)]
  congr 2
  rw [show (127 : Nat) = 2 ^ 7 - 1 from rfl, Nat.and_two_pow_sub_one_eq_mod]
  omega
theorem ones_eq' {n s : Nat} (hn : n ≤ 24) (h : s < 2 ^ n) : bits_OnesCount.f (s : Int) = some (pop n s : Int) := by
  rw [ones_eq (Nat.lt_of_lt_of_le h (Nat.pow_le_pow_right (by decide) hn)), pop_big h hn]
end Go.Proofs.Ytcajhmldbkfhiaa.P
namespace Go.Proofs.Ytcajhmldbkfhiaa.P
open Go.RowKit Go.Proofs.YtcajhmldbkfhiaaW.PrintWords Go.Proofs.YtcajhmldbkfhiaaW.PrintLast Go.Proofs.YtcajhmldbkfhiaaW.PrintMore
attribute [local go_sem] max2_int min2_int max_two min_two max_three min_three max_four min_four   -- for this text's walks alone
set_option linter.unusedVariables false
set_option linter.unusedSimpArgs false

/-! ### spec_l04Has: function 91 -/
/-! ### spec_Reached: function 143 -/
/-! ### spec_CountParts: function 132 -/
/-! ### spec_IsConnected: function 93 -/
end Go.Proofs.Ytcajhmldbkfhiaa.P
namespace Go.Proofs.Ytcajhmldbkfhiaa.P
open Go.RowKit Go.Proofs.YtcajhmldbkfhiaaW.PrintWords
set_option linter.unusedVariables false
set_option linter.unusedSimpArgs false

theorem filter_head {p : Nat → Bool} {m v : Nat} (hm : m < v) (hp : p m = true) (h : ∀ i, i < m → p i = false) : ∃ t, (List.range v).filter p = m :: t := by
  obtain ⟨d, rfl⟩ : ∃ d, v = m + (d + 1) := ⟨v - m - 1, by omega⟩
  rw [List.range_add, List.filter_append]
  have h1 : (List.range m).filter p = [] := by
    rw [List.filter_eq_nil_iff]
    intro a ha
    rw [h a (List.mem_range.1 ha)]
    simp
  rw [h1, List.nil_append, List.range_succ_eq_map, List.map_cons, Nat.add_zero, List.filter_cons, if_pos hp]
  exact ⟨_, rfl⟩
/-- The cells that are reached, in ascending order. -/
def reachN (w h : Int) (n s : Nat) : List Nat := (List.range (cellsN w h)).filter fun c => decide (0 ≤ distN w h n s c)
/-- The least cell of the part of a cell. -/
def labN (w h : Int) (n c : Nat) : Nat := lab (ends w h) n (gapsN w h) c
theorem reachN_head {w h : Int} {n s : Nat} (hn : n < 2 ^ gapsN w h) (hs : s < cellsN w h) : ∃ t, reachN w h n s = labN w h n s :: t := by
  have hle := lab_le (ends w h) n (gapsN w h) s
  refine filter_head (show labN w h n s < cellsN w h by unfold labN; omega) ?_ ?_
  · rw [decide_eq_true_eq, distN_cn hn hs]
    exact lab_cn hn s
  · intro i hi
    rw [decide_eq_false_iff_not, distN_cn hn hs]
    intro hc
    have := lab_least hn hc
    unfold labN at hi
    omega
def partsN (w h : Int) (n : Nat) : Nat := parts (ends w h) (cellsN w h) (gapsN w h) n
def perfN (w h : Int) (n : Nat) : Bool := perf (ends w h) (cellsN w h) (gapsN w h) n
theorem cells_pos {w h : Int} (hg : gridOk w h = true) : 1 ≤ cellsN w h := by
  unfold cellsN cellsOf
  rw [if_pos hg]
  obtain ⟨h1 | h1 | h1 | h1, h2 | h2 | h2 | h2⟩ := grid_cases hg <;> subst h1 <;> subst h2 <;> decide
/-- The directions from d on in which s leads somewhere. -/
def waysFrom (s : Int → Int) (d : Nat) : List Int := ([0, 1, 2, 3].drop d).filter fun x => decide (0 ≤ s x)
theorem waysFrom_succ (s : Int → Int) {d : Nat} (hd : d < 4) : waysFrom s d = if 0 ≤ s d then (d : Int) :: waysFrom s (d + 1) else waysFrom s (d + 1) := by
  have : d = 0 ∨ d = 1 ∨ d = 2 ∨ d = 3 := by omega
  rcases this with rfl | rfl | rfl | rfl <;> simp [waysFrom, List.filter_cons]
def waysI (w h : Int) (n : Nat) (c : Int) : List Int := waysFrom (stepI w h n c) 0
theorem impl_Step_ev {w h : Int} {n : Nat} (hg : gridOk w h = true) (hn : n < 2 ^ gapsN w h) (c d : Int) : Ev (fun k => impl_Step.f k w h n c d) (stepI w h n c d) := by
  unfold impl_Step.f stepI
  refine Ev.bnd0 (impl_MazeOk_eq w h n) (Ev.tt (mazeOk_iff.2 ⟨hg, n, rfl, hn⟩) ?_)
  refine Ev.bind (impl_GapAt_ev w h c d) (Ev.bnd0 (impl_isOpen_eq w h (open_small hn) _) ?_)
  by_cases ho : openI n (gapI w h c d) = true
  · rw [if_pos ho]
    exact Ev.tt ho (Ev.bind (impl_Neighbor_ev w h c d) (Ev.ret rfl))
  · rw [if_neg ho]
    exact Ev.ff ho (Ev.ret rfl)
theorem impl_Ways_l0 (w h : Int) (o c : Int) (s : Int → Int) (hs : ∀ d, Ev (fun k => impl_Step.f k w h o c d) (s d)) : ∀ (e d : Nat) (out : List Int), 4 - d = e → d ≤ 4 → out.length ≤ d →
    Ev (fun k => impl_WaysFrom.l0 k c out d w h o) (out ++ waysFrom s d)
  | 0, d, out, he, hd, hl => by
    refine Ev.step (fun _ => impl_WaysFrom.l0.eq_2 ..) ?_
    refine Ev.ff (by omega) (Ev.ret ?_)
    obtain rfl : d = 4 := by omega
    simp [waysFrom]
  | e + 1, d, out, he, hd, hl => by
    refine Ev.step (fun _ => impl_WaysFrom.l0.eq_2 ..) ?_
    refine Ev.tt (by omega) (Ev.bind (hs d) ?_)
    rw [wsucc (by omega), waysFrom_succ s (show d < 4 by omega)]
    refine Ev.ite (fun h1 => Ev.tt (by omega) ?_) (fun h1 => ?_)
    · rw [if_pos (by omega)]
      have := impl_Ways_l0 w h o c s hs e (d + 1) (out ++ [(d : Int)]) (by omega) (by omega) (by simp; omega)
      simpa using this
    · rw [if_neg (by omega)]
      exact impl_Ways_l0 w h o c s hs e (d + 1) out (by omega) (by omega) (by omega)
theorem impl_Ways_ev {w h : Int} {n : Nat} (hg : gridOk w h = true) (hn : n < 2 ^ gapsN w h) (c : Int) : Ev (fun k => impl_WaysFrom.f k w h n c) (waysI w h n c) := by
  unfold impl_WaysFrom.f waysI
  have := impl_Ways_l0 w h n c _ (fun d => impl_Step_ev hg hn c d) 4 0 [] (by omega) (by omega) (by simp)
  simpa using this
end Go.Proofs.Ytcajhmldbkfhiaa.P
namespace Go.Proofs.Ytcajhmldbkfhiaa.P
open Go.RowKit Go.Proofs.YtcajhmldbkfhiaaW.PrintWords Go.Proofs.YtcajhmldbkfhiaaW.PrintLast Go.Proofs.YtcajhmldbkfhiaaW.PrintMore
attribute [local go_sem] max2_int min2_int max_two min_two max_three min_three max_four min_four   -- for this text's walks alone
set_option linter.unusedVariables false
set_option linter.unusedSimpArgs false

/-! ### spec_WaysFrom: function 128 -/
end Go.Proofs.Ytcajhmldbkfhiaa.P
namespace Go.Proofs.Ytcajhmldbkfhiaa.P
open Go.RowKit Go.Proofs.YtcajhmldbkfhiaaW.PrintWords
set_option linter.unusedVariables false
set_option linter.unusedSimpArgs false

theorem spec_IsPassage_eq {w h : Int} {n : Nat} (hg : gridOk w h = true) (hn : n < 2 ^ gapsN w h) (g : Int) : spec_IsPassage.f w h n g = some (openI n g) := by
  have hr := gapsOf_range w h
  unfold spec_IsPassage.f
  rw [spec_MazeOk_eq, Option.bind_some, if_pos (mazeOk_iff.2 ⟨hg, n, rfl, hn⟩), spec_CountGaps_eq, Option.bind_some, wrap64_id (by omega) (by omega), l01In_eq, Option.bind_some]
  by_cases hc : 0 ≤ g ∧ g < gapsOf w h
  · rw [if_pos (by simp; omega), spec_l03Bit_eq (open_small hn) hc.1]
    rfl
  · rw [if_neg (by simp; omega)]
    congr 1
    symm
    rw [Bool.eq_false_iff]
    intro ho
    have := open_isGap hn ho
    unfold isGapI at this
    simp at this
    omega
theorem spec_Step_ev {w h : Int} {n : Nat} (hg : gridOk w h = true) (hn : n < 2 ^ gapsN w h) (c d : Int) : Ev (fun k => spec_Step.f k w h n c d) (stepI w h n c d) := by
  unfold spec_Step.f stepI
  refine Ev.bnd0 (spec_MazeOk_eq w h n) (Ev.tt (mazeOk_iff.2 ⟨hg, n, rfl, hn⟩) ?_)
  refine Ev.bind (spec_GapAt_ev w h c d) (Ev.bnd0 (spec_IsPassage_eq hg hn _) ?_)
  by_cases ho : openI n (gapI w h c d) = true
  · rw [if_pos ho]
    exact Ev.tt ho (Ev.bind (spec_Neighbor_ev w h c d) (Ev.ret rfl))
  · rw [if_neg ho]
    exact Ev.ff ho (Ev.ret rfl)
end Go.Proofs.Ytcajhmldbkfhiaa.P
namespace Go.Proofs.Ytcajhmldbkfhiaa.P
open Go.RowKit Go.Proofs.YtcajhmldbkfhiaaW.PrintWords
set_option linter.unusedVariables false
set_option linter.unusedSimpArgs false

def ints (q : List Nat) : List Int := q.map fun (x : Nat) => (x : Int)
theorem ints_length (q : List Nat) : (ints q).length = q.length := by simp [ints]
theorem ints_app (q : List Nat) (y : Nat) : ints (q ++ [y]) = ints q ++ [(y : Int)] := by simp [ints]
theorem rd_ints {q : List Nat} {i x : Nat} (h : q[i]? = some x) : rd (ints q) (i : Int) = x := by
  rw [rd_nat, List.getD_eq_getElem?_getD]
  simp [ints, h]
/-- A function on the numbers under v as a list. -/
def dlist (v : Nat) (D : Nat → Int) : List Int := (List.range v).map D
theorem dlist_length (v : Nat) (D : Nat → Int) : (dlist v D).length = v := by simp [dlist]
theorem rd_dlist {v : Nat} {D : Nat → Int} {c : Nat} (h : c < v) : rd (dlist v D) (c : Int) = D c := by
  rw [rd_get (by rw [dlist_length]; exact h)]
  simp [dlist]
theorem dlist_set {v : Nat} {D : Nat → Int} {y : Nat} {a : Int} (h : y < v) : (dlist v D).set y a = dlist v (upd D y a) := by
  refine List.ext_getElem (by simp [dlist]) fun i h1 h2 => ?_
  rw [List.getElem_set]
  simp only [dlist, upd, List.getElem_map, List.getElem_range]
  by_cases e : y = i
  · rw [if_pos e, if_pos e.symm]
  · rw [if_neg e, if_neg (fun e' => e e'.symm)]
/-- What is kept while the search goes on. -/
structure SI (v : Nat) (S : (Nat → Int) × List Nat) : Prop where
  le : ∀ c, S.1 c ≤ S.2.length
  low : ∀ c, -1 ≤ S.1 c
  lt : ∀ c ∈ S.2, c < v
theorem SI.relax {v : Nat} {s : Nat → Nat → Int} (hs : Rng s v) {S : (Nat → Int) × List Nat} (I : SI v S) {x d : Nat} (hx : x < v) (hd : d < 4) : SI v (relax s x d S) ∧ (relax s x d S).2.length ≤ S.2.length + 1 ∧ ∀ (i z : Nat), S.2[i]? = some z → (relax s x d S).2[i]? = some z := by
  unfold Go.Proofs.Ytcajhmldbkfhiaa.P.relax
  split
  · rename_i hc
    refine ⟨⟨fun c => ?_, fun c => ?_, fun c hcq => ?_⟩, by simp, fun i z hz => ?_⟩
    · have := I.le c
      have := I.le x
      show upd _ _ _ c ≤ _
      unfold upd
      simp only [List.length_append, List.length_singleton]
      split <;> omega
    · have := I.low c
      have := I.low x
      show _ ≤ upd _ _ _ c
      unfold upd
      split <;> omega
    · rcases List.mem_append.1 hcq with h | h
      · exact I.lt c h
      · simp at h
        have := hs x d hx hd
        omega
    · have hi := (List.getElem?_eq_some_iff.1 hz).1
      rw [List.getElem?_append_left hi]; exact hz
  · exact ⟨I, by omega, fun i z hz => hz⟩
def relaxL (s : Nat → Nat → Int) (x : Nat) : List Nat → (Nat → Int) × List Nat → (Nat → Int) × List Nat
  | [], S => S
  | d :: ds, S => relaxL s x ds (relax s x d S)
theorem relaxL_filter (s : Nat → Nat → Int) (x : Nat) : ∀ l S, relaxL s x (l.filter fun d => decide (0 ≤ s x d)) S = relaxL s x l S
  | [], S => rfl
  | d :: ds, S => by
    rw [List.filter_cons]
    by_cases h : 0 ≤ s x d
    · simp only [h, decide_true, if_true, relaxL]
      exact relaxL_filter s x ds _
    · simp only [h, decide_false, Bool.false_eq_true, if_false, relaxL]
      rw [relaxL_filter s x ds S, show relax s x d S = S from if_neg fun hc => h hc.1]
theorem bround_eq (s : Nat → Nat → Int) (x : Nat) (S : (Nat → Int) × List Nat) : bround s x S = relaxL s x [0, 1, 2, 3] S := rfl
theorem waysI_ints (w h : Int) (n c : Nat) : waysI w h n c = ints ([0, 1, 2, 3].filter fun d => decide (0 ≤ st w h n c d)) := by
  unfold waysI waysFrom st ints
  simp only [List.drop_zero, List.filter_cons, List.filter_nil]
  by_cases a : 0 ≤ stepI w h n c 0 <;> by_cases b : 0 ≤ stepI w h n c 1 <;> by_cases c' : 0 ≤ stepI w h n c 2 <;> by_cases d : 0 ≤ stepI w h n c 3 <;> simp [a, b, c', d]
section
variable {w h : Int} {n : Nat} (hg : gridOk w h = true) (hn : n < 2 ^ gapsN w h)
include hg hn
theorem impl_dist_l1 {x i : Nat} (W : List Nat) (hW : ∀ d ∈ W, d < 4 ∧ 0 ≤ st w h n x d) (hW4 : W.length ≤ 4) (res : List Int) :
    ∀ (e j : Nat) (S : (Nat → Int) × List Nat), j + e = W.length → SI (cellsN w h) S → S.2[i]? = some x → S.2.length ≤ 100 + j →
      (∀ S', S' = relaxL (st w h n) x (W.drop j) S → SI (cellsN w h) S' → Ev (fun k => impl_distances.l0 k (dlist (cellsN w h) S'.1) (ints S'.2) ((i + 1 : Nat) : Int) w h n) res) →
      Ev (fun k => impl_distances.l1 k (dlist (cellsN w h) S.1) (ints S.2) i (ints W) ((ints W).length : Int) j w h n) res
  | 0, j, S, hj, I, hx, hl, next => by
    have hi := (List.getElem?_eq_some_iff.1 hx).1
    refine Ev.step (fun _ => impl_distances.l1.eq_2 ..) (Ev.ff (by rw [ints_length]; omega) ?_)
    rw [wsucc (by omega)]
    exact next S (by rw [List.drop_eq_nil_of_le (by omega)]; rfl) I
  | e + 1, j, S, hj, I, hx, hl, next => by
    have hcast := cellsN_cast w h
    have hi := (List.getElem?_eq_some_iff.1 hx).1
    have hxv := I.lt x (List.mem_of_getElem? hx)
    have hjW : j < W.length := by omega
    obtain ⟨hd4, hd0⟩ := hW _ (List.getElem_mem hjW)
    have hdrop : W.drop j = W[j] :: W.drop (j + 1) := List.drop_eq_getElem_cons hjW
    have hwj : rd (ints W) (j : Int) = (W[j] : Nat) := rd_ints (List.getElem?_eq_getElem hjW)
    have hrng := (net_grid hn).rng x W[j] hxv hd4
    obtain ⟨y, hy⟩ : ∃ y : Nat, st w h n x W[j] = y := ⟨(st w h n x W[j]).toNat, by omega⟩
    have hyv : y < cellsN w h := by omega
    obtain ⟨I', hl', hk'⟩ := I.relax (net_grid hn).rng hxv hd4
    have ih := impl_dist_l1 W hW hW4 res e (j + 1) (relax (st w h n) x W[j] S) (by omega) I' (hk' i x hx) (by omega) (fun S' hS' I'' => next S' (by rw [hS', hdrop]; rfl) I'')
    refine Ev.step (fun _ => impl_distances.l1.eq_2 ..) ?_
    refine Ev.tt (by rw [ints_length]; omega) (Ev.tt (by omega) (Ev.tt (by rw [ints_length]; omega) (Ev.tt (by omega) (Ev.tt (by rw [ints_length]; omega) ?_))))
    rw [hwj, rd_ints hx]
    refine Ev.bind (impl_Step_ev hg hn x (W[j] : Nat)) ?_
    rw [show stepI w h n x (W[j] : Nat) = y from hy, wsucc (by omega)]
    refine Ev.tt (by omega) (Ev.tt (by rw [dlist_length]; omega) ?_)
    rw [rd_dlist hyv, rd_dlist hxv]
    refine Ev.ite (fun h1 => ?_) (fun h1 => ?_)
    · refine Ev.tt (by omega) (Ev.tt (by rw [dlist_length]; omega) (Ev.tt (by rw [ints_length]; omega) ?_))
      have hb1 := I.le x
      have hb2 : 0 ≤ S.1 x ∨ S.1 x < 0 := by omega
      have hrel : relax (st w h n) x W[j] S = (upd S.1 y (S.1 x + 1), S.2 ++ [y]) := by
        unfold relax
        rw [hy, Int.toNat_natCast, if_pos ⟨by omega, h1⟩]
      rw [hrel] at ih
      rw [Int.toNat_natCast, dlist_set hyv, ← ints_app]
      have := I.low x
      rw [wrap64_id (by omega) (by omega)]
      exact ih
    · have hrel : relax (st w h n) x W[j] S = S := by
        unfold relax
        rw [hy, Int.toNat_natCast, if_neg (fun hc => h1 hc.2)]
      rw [hrel] at ih
      exact ih
theorem impl_dist_l0 {src : Nat} (hs : src < cellsN w h) : ∀ (f i : Nat) (S : (Nat → Int) × List Nat), BInv (st w h n) (cellsN w h) src S i 0 → SI (cellsN w h) S → i ≤ S.2.length → cellsN w h + 1 - i ≤ f →
    Ev (fun k => impl_distances.l0 k (dlist (cellsN w h) S.1) (ints S.2) i w h n) (dlist (cellsN w h) (bfsF (st w h n) f S i))
  | 0, i, S, B, I, hi, hf => by have := B.len; omega
  | f + 1, i, S, B, I, hi, hf => by
    have h16 := cellsN_le w h
    have hlen := B.len
    refine Ev.step (fun _ => impl_distances.l0.eq_2 ..) ?_
    simp only [bfsF]
    cases hx : S.2[i]? with
    | none =>
      rw [List.getElem?_eq_none_iff] at hx
      exact Ev.ff (by rw [ints_length]; omega) (Ev.ret rfl)
    | some x =>
      have hil := (List.getElem?_eq_some_iff.1 hx).1
      have hxv := I.lt x (List.mem_of_getElem? hx)
      refine Ev.tt (by rw [ints_length]; omega) (Ev.tt (by omega) ?_)
      rw [rd_ints hx]
      refine Ev.bind (impl_Ways_ev hg hn _) ?_
      rw [waysI_ints]
      have hW : ∀ d ∈ ([0, 1, 2, 3].filter fun d => decide (0 ≤ st w h n x d)), d < 4 ∧ 0 ≤ st w h n x d := fun d hd => by
        rw [List.mem_filter] at hd
        refine ⟨?_, of_decide_eq_true hd.2⟩
        have := hd.1
        simp at this
        omega
      refine impl_dist_l1 hg hn (i := i) (x := x) _ hW (List.length_filter_le _ _) _ _ 0 S (Nat.zero_add _) I hx (by omega) (fun S' hS' I' => ?_)
      rw [List.drop_zero, relaxL_filter, ← bround_eq] at hS'
      subst hS'
      have B' := B.round (net_grid hn).rng hx
      refine impl_dist_l0 hs f (i + 1) _ B' I' ?_ (by omega)
      have h1 : ∀ m T, T.2.length ≤ (relax (st w h n) x m T).2.length := by
        intro m T
        unfold relax
        split <;> simp
      have := Nat.le_trans (h1 0 S) (Nat.le_trans (h1 1 _) (Nat.le_trans (h1 2 _) (h1 3 _)))
      show i + 1 ≤ (bround (st w h n) x S).2.length
      unfold bround
      omega
omit hg hn in
theorem SI.start {v src : Nat} (h : src < v) : SI v (upd (fun _ => -1) src 0, [src]) where
  le := fun c => by simp only [upd]; split <;> simp
  low := fun c => by simp only [upd]; split <;> omega
  lt := fun c hc => by simp at hc; omega
theorem impl_distances_ev {src : Nat} (hs : src < cellsN w h) : Ev (fun k => impl_distances.f k w h n src) (dlist (cellsN w h) (distN w h n src)) := by
  have h16 := cellsN_le w h
  have hcast := cellsN_cast w h
  unfold impl_distances.f
  refine Ev.bnd0 (impl_CountCells_eq w h) (Ev.bnd0 (a := dlist (cellsN w h) fun _ => -1) ?_ ?_)
  · unfold slices_Repeat_int_int.f
    rw [if_pos ⟨by simp, by omega, by omega⟩]
    congr 1
    refine List.ext_getElem (by simp [dlist]; omega) fun i h1 h2 => ?_
    simp [dlist, rd]
  · refine Ev.tt (by omega) (Ev.tt (by rw [dlist_length]; omega) ?_)
    rw [Int.toNat_natCast, dlist_set hs]
    exact impl_dist_l0 hg hn hs _ 0 _ (BInv.start hs) (SI.start hs) (by simp) (by omega)
theorem spec_dist_l2 {x i : Nat} (res : List Int) :
    ∀ (e j : Nat) (S : (Nat → Int) × List Nat), j + e = 4 → SI (cellsN w h) S → S.2[i]? = some x → S.2.length ≤ 100 + j →
      (∀ S', S' = relaxL (st w h n) x ([0, 1, 2, 3].drop j) S → SI (cellsN w h) S' → Ev (fun k => spec_l04Distances.l1 k (dlist (cellsN w h) S'.1) (ints S'.2) ((i + 1 : Nat) : Int) w h n) res) →
      Ev (fun k => spec_l04Distances.l2 k (dlist (cellsN w h) S.1) (ints S.2) i j w h n) res
  | 0, j, S, hj, I, hx, hl, next => by
    have hi := (List.getElem?_eq_some_iff.1 hx).1
    refine Ev.step (fun _ => spec_l04Distances.l2.eq_2 ..) (Ev.ff (by omega) ?_)
    rw [wsucc (by omega)]
    exact next S (by rw [show j = 4 by omega]; rfl) I
  | e + 1, j, S, hj, I, hx, hl, next => by
    have hcast := cellsN_cast w h
    have hi := (List.getElem?_eq_some_iff.1 hx).1
    have hxv := I.lt x (List.mem_of_getElem? hx)
    have hd4 : j < 4 := by omega
    have hdrop : [0, 1, 2, 3].drop j = j :: [0, 1, 2, 3].drop (j + 1) := by
      have : j = 0 ∨ j = 1 ∨ j = 2 ∨ j = 3 := by omega
      rcases this with rfl | rfl | rfl | rfl <;> rfl
    have hrng := (net_grid hn).rng x j hxv hd4
    obtain ⟨I', hl', hk'⟩ := I.relax (net_grid hn).rng hxv hd4
    have ih := spec_dist_l2 (i := i) res e (j + 1) (relax (st w h n) x j S) (by omega) I' (hk' i x hx) (by omega) (fun S' hS' I'' => next S' (by rw [hS', hdrop]; rfl) I'')
    refine Ev.step (fun _ => spec_l04Distances.l2.eq_2 ..) ?_
    refine Ev.tt (by omega) (Ev.tt (by omega) (Ev.tt (by rw [ints_length]; omega) ?_))
    rw [rd_ints hx]
    refine Ev.bind (spec_Step_ev hg hn x (j : Nat)) ?_
    rw [wsucc (by omega)]
    have hst : stepI w h n x (j : Nat) = st w h n x j := rfl
    rw [hst]
    refine Ev.ite (fun h0 => ?_) (fun h0 => ?_)
    · obtain ⟨y, hy⟩ : ∃ y : Nat, st w h n x j = y := ⟨(st w h n x j).toNat, by omega⟩
      have hyv : y < cellsN w h := by omega
      rw [hy]
      refine Ev.tt (by omega) (Ev.tt (by rw [dlist_length]; omega) ?_)
      rw [rd_dlist hyv, rd_dlist hxv]
      refine Ev.ite (fun h1 => ?_) (fun h1 => ?_)
      · refine Ev.tt (by omega) (Ev.tt (by rw [dlist_length]; omega) (Ev.tt (by rw [ints_length]; omega) ?_))
        have hb1 := I.le x
        have hrel : relax (st w h n) x j S = (upd S.1 y (S.1 x + 1), S.2 ++ [y]) := by
          unfold relax
          rw [hy, Int.toNat_natCast, if_pos ⟨by omega, h1⟩]
        rw [hrel] at ih
        rw [Int.toNat_natCast, dlist_set hyv, ← ints_app]
        have := I.low x
        rw [wrap64_id (by omega) (by omega)]
        exact ih
      · have hrel : relax (st w h n) x j S = S := by
          unfold relax
          rw [hy, Int.toNat_natCast, if_neg (fun hc => h1 hc.2)]
        rw [hrel] at ih
        exact ih
    · have hrel : relax (st w h n) x j S = S := by
        unfold relax
        rw [if_neg (fun hc => h0 hc.1)]
      rw [hrel] at ih
      exact ih
theorem spec_dist_l1 {src : Nat} (hs : src < cellsN w h) : ∀ (f i : Nat) (S : (Nat → Int) × List Nat), BInv (st w h n) (cellsN w h) src S i 0 → SI (cellsN w h) S → i ≤ S.2.length → cellsN w h + 1 - i ≤ f →
    Ev (fun k => spec_l04Distances.l1 k (dlist (cellsN w h) S.1) (ints S.2) i w h n) (dlist (cellsN w h) (bfsF (st w h n) f S i))
  | 0, i, S, B, I, hi, hf => by have := B.len; omega
  | f + 1, i, S, B, I, hi, hf => by
    have h16 := cellsN_le w h
    have hlen := B.len
    refine Ev.step (fun _ => spec_l04Distances.l1.eq_2 ..) ?_
    simp only [bfsF]
    cases hx : S.2[i]? with
    | none =>
      rw [List.getElem?_eq_none_iff] at hx
      exact Ev.ff (by rw [ints_length]; omega) (Ev.ret rfl)
    | some x =>
      have hil := (List.getElem?_eq_some_iff.1 hx).1
      refine Ev.tt (by rw [ints_length]; omega) ?_
      refine spec_dist_l2 hg hn (i := i) (x := x) _ 4 0 S rfl I hx (by omega) (fun S' hS' I' => ?_)
      rw [List.drop_zero, ← bround_eq] at hS'
      subst hS'
      have B' := B.round (net_grid hn).rng hx
      refine spec_dist_l1 hs f (i + 1) _ B' I' ?_ (by omega)
      have h1 : ∀ m T, T.2.length ≤ (relax (st w h n) x m T).2.length := by
        intro m T
        unfold relax
        split <;> simp
      have := Nat.le_trans (h1 0 S) (Nat.le_trans (h1 1 _) (Nat.le_trans (h1 2 _) (h1 3 _)))
      show i + 1 ≤ (bround (st w h n) x S).2.length
      unfold bround
      omega
omit hg hn in
theorem spec_dist_l0 {src : Nat} (hs : src < cellsN w h) (res : List Int) (next : Ev (fun k => spec_l04Distances.l1 k (dlist (cellsN w h) (upd (fun _ => -1) src 0)) (ints [src]) 0 w h n) res) :
    ∀ (d i : Nat) (X : List Int), i + d = cellsN w h → X = dlist (cellsN w h) (fun c => if c < i then -1 else 0) → Ev (fun k => spec_l04Distances.l0 k src X i w h n) res
  | 0, i, X, hd, hX => by
    subst hX
    refine Ev.step (fun _ => spec_l04Distances.l0.eq_2 ..) (Ev.ff (by rw [dlist_length]; omega) (Ev.tt (by omega) (Ev.tt (by rw [dlist_length]; omega) ?_)))
    rw [Int.toNat_natCast, dlist_set hs]
    have e : dlist (cellsN w h) (upd (fun c => if c < i then -1 else 0) src 0) = dlist (cellsN w h) (upd (fun _ => -1) src 0) := by
      unfold dlist
      refine List.map_congr_left fun c hc => ?_
      rw [List.mem_range] at hc
      simp only [upd]
      rw [if_pos (show c < i by omega)]
    rw [e]
    exact next
  | d + 1, i, X, hd, hX => by
    have h16 := cellsN_le w h
    subst hX
    refine Ev.step (fun _ => spec_l04Distances.l0.eq_2 ..) (Ev.tt (by rw [dlist_length]; omega) (Ev.tt (by omega) ?_))
    rw [Int.toNat_natCast, dlist_set (by omega), wsucc (by omega)]
    refine spec_dist_l0 hs res next d (i + 1) _ (by omega) ?_
    unfold dlist
    refine List.map_congr_left fun c hc => ?_
    simp only [upd]
    by_cases e : c = i
    · rw [if_pos e, if_pos (by omega)]
    · rw [if_neg e]
      by_cases e2 : c < i
      · rw [if_pos e2, if_pos (by omega)]
      · rw [if_neg e2, if_neg (by omega)]
theorem spec_distances_ev {src : Nat} (hs : src < cellsN w h) : Ev (fun k => spec_l04Distances.f k w h n src) (dlist (cellsN w h) (distN w h n src)) := by
  have h16 := cellsN_le w h
  have hcast := cellsN_cast w h
  unfold spec_l04Distances.f
  refine Ev.bnd0 (spec_CountCells_eq w h) (Ev.tt (by omega) (Ev.tt (by omega) ?_))
  refine spec_dist_l0 hs _ (spec_dist_l1 hg hn hs _ 0 _ (BInv.start hs) (SI.start hs) (by simp) (by omega)) (cellsN w h) 0 _ (by omega) ?_
  refine List.ext_getElem (by simp [dlist]; omega) fun i h1 h2 => ?_
  simp [dlist]
end
end Go.Proofs.Ytcajhmldbkfhiaa.P
namespace Go.Proofs.Ytcajhmldbkfhiaa.P
open Go.RowKit Go.Proofs.YtcajhmldbkfhiaaW.PrintWords Go.Proofs.Ytcajhmldbkfhiaa.Sup
set_option linter.unusedVariables false
set_option linter.unusedSimpArgs false

theorem impl_isIn_one (w h o c : Int) : impl_isIn.f w h o [c] = some (mazeOk w h o && isCellI w h c) := by
  unfold impl_isIn.f
  rw [impl_MazeOk_eq, Option.bind_some]
  cases hm : mazeOk w h o
  · simp
  · rw [if_pos rfl]
    simp [impl_isCell_eq]
end Go.Proofs.Ytcajhmldbkfhiaa.P
namespace Go.Proofs.Ytcajhmldbkfhiaa.P
open Go.RowKit Go.Proofs.YtcajhmldbkfhiaaW.PrintWords
set_option linter.unusedVariables false
set_option linter.unusedSimpArgs false

/-- i, i + 1, .. : d of them. -/
def run (i d : Nat) : List Int := (List.range d).map fun t => ((i + t : Nat) : Int)
theorem run_succ (i d : Nat) : run i (d + 1) = (i : Int) :: run (i + 1) d := by
  simp only [run, List.range_succ_eq_map, List.map_cons, List.map_map, Nat.add_zero]
  congr 1
  apply List.map_congr_left
  intro t _
  simp only [Function.comp, Nat.succ_eq_add_one]
  congr 1
  omega
theorem mem_run {i d : Nat} {x : Int} : x ∈ run i d ↔ (i : Int) ≤ x ∧ x < ((i + d : Nat) : Int) := by
  simp only [run, List.mem_map, List.mem_range]
  constructor
  · rintro ⟨t, ht, rfl⟩
    omega
  · intro ⟨h1, h2⟩
    exact ⟨(x - i).toNat, by omega, by omega⟩
theorem upTo_l0 (n : Nat) (hn : n ≤ 1000000) : ∀ (d i : Nat) (out : List Int), n - i = d → i ≤ n → out.length ≤ i → Ev (fun k => impl_upTo.l0 k n out i) (out ++ run i d)
  | 0, i, out, hd, hi, ho => by
    refine Ev.step (fun _ => impl_upTo.l0.eq_2 ..) (Ev.ff (by omega) (Ev.ret ?_))
    simp [run]
  | d + 1, i, out, hd, hi, ho => by
    refine Ev.step (fun _ => impl_upTo.l0.eq_2 ..) (Ev.tt (by omega) (Ev.tt (by omega) ?_))
    rw [wsucc (by omega), run_succ]
    have := upTo_l0 n hn d (i + 1) (out ++ [(i : Int)]) (by omega) (by omega) (by simp; omega)
    simpa using this
theorem impl_upTo_ev (n : Nat) (hn : n ≤ 1000000) : Ev (fun k => impl_upTo.f k n) (run 0 n) := by
  unfold impl_upTo.f
  have := upTo_l0 n hn n 0 [] (by omega) (by omega) (by simp)
  simpa using this
end Go.Proofs.Ytcajhmldbkfhiaa.P
namespace Go.Proofs.Ytcajhmldbkfhiaa.P
open Go.RowKit Go.Proofs.YtcajhmldbkfhiaaW.PrintWords Go.Proofs.YtcajhmldbkfhiaaW.PrintLast Go.Proofs.YtcajhmldbkfhiaaW.PrintMore
attribute [local go_sem] max2_int min2_int max_two min_two max_three min_three max_four min_four   -- for this text's walks alone
set_option linter.unusedVariables false
set_option linter.unusedSimpArgs false

/-! ### impl_DistanceOf: function 144 -/
/-! ### spec_DistanceOf: function 99 -/
end Go.Proofs.Ytcajhmldbkfhiaa.P
namespace Go.Proofs.Ytcajhmldbkfhiaa.P
open Go.RowKit Go.Proofs.YtcajhmldbkfhiaaW.PrintWords
set_option linter.unusedVariables false
set_option linter.unusedSimpArgs false

theorem run_zero (v : Nat) : run 0 v = ints (List.range v) := by
  unfold run ints
  exact List.map_congr_left fun t _ => by omega
theorem isCellI_nat {w h : Int} {c : Nat} (hc : c < cellsN w h) : isCellI w h c = true := by
  have := cellsN_cast w h
  unfold isCellI
  rw [decide_eq_true_eq]; omega
section
variable {w h : Int} {n : Nat} (hg : gridOk w h = true) (hn : n < 2 ^ gapsN w h)
include hg hn
theorem mazeOk_nat : mazeOk w h n = true := mazeOk_iff.2 ⟨hg, n, rfl, hn⟩
theorem impl_Reached_ev {s : Nat} (hs : s < cellsN w h) : Ev (fun k => impl_Reached.f k w h n s) (ints (reachN w h n s)) := by
  have h16 := cellsN_le w h
  unfold impl_Reached.f
  refine Ev.bnd0 (impl_isIn_one w h n s) (Ev.tt (by rw [mazeOk_nat hg hn, isCellI_nat hs]; rfl) ?_)
  refine Ev.bind (impl_distances_ev hg hn hs) ?_
  rw [dlist_length]
  refine Ev.bind (impl_upTo_ev _ (by omega)) (Ev.tt ?_ (Ev.ret ?_))
  · rw [List.all_eq_true]
    intro c hc
    have := mem_run.1 hc
    rw [decide_eq_true_eq]
    omega
  · rw [run_zero]
    unfold reachN ints
    rw [List.filter_map]
    congr 1
    refine List.filter_congr fun c hc => ?_
    rw [List.mem_range] at hc
    simp only [Function.comp]
    rw [rd_dlist hc]
    by_cases h1 : distN w h n s c < 0
    · rw [decide_eq_true h1, decide_eq_false (show ¬ 0 ≤ distN w h n s c by omega)]; rfl
    · rw [decide_eq_false h1, decide_eq_true (show 0 ≤ distN w h n s c by omega)]; rfl
omit hg hn in
theorem head_is {s : Nat} (hn : n < 2 ^ gapsN w h) (hs : s < cellsN w h) : 0 < ((ints (reachN w h n s)).length : Int) ∧ rd (ints (reachN w h n s)) 0 = labN w h n s := by
  obtain ⟨t, ht⟩ := reachN_head hn hs
  rw [ht]
  exact ⟨by simp [ints], rfl⟩
theorem impl_parts_l0 : ∀ (d c m : Nat), c + d = cellsN w h → m ≤ c → Ev (fun k => impl_CountParts.l0 k m c w h n) (((m + (cnt (fun i => labN w h n i == i) (cellsN w h) - cnt (fun i => labN w h n i == i) c) : Nat)) : Int)
  | 0, c, m, hd, hm => by
    have hcast := cellsN_cast w h
    refine Ev.step (fun _ => impl_CountParts.l0.eq_2 ..) (Ev.bnd0 (impl_isIn_one w h n c) (Ev.ff ?_ (Ev.ret ?_)))
    · have : isCellI w h c = false := by unfold isCellI; rw [decide_eq_false_iff_not]; omega
      rw [this]; simp
    · rw [show c = cellsN w h by omega, Nat.sub_self, Nat.add_zero]
  | d + 1, c, m, hd, hm => by
    have h16 := cellsN_le w h
    have hcv : c < cellsN w h := by omega
    obtain ⟨e1, e2⟩ := head_is hn hcv
    refine Ev.step (fun _ => impl_CountParts.l0.eq_2 ..) (Ev.bnd0 (impl_isIn_one w h n c) (Ev.tt (by rw [mazeOk_nat hg hn, isCellI_nat hcv]; rfl) ?_))
    refine Ev.bind (impl_Reached_ev hg hn hcv) (Ev.tt e1 ?_)
    rw [e2, wsucc (by omega), wsucc (by omega)]
    have hle : cnt (fun i => labN w h n i == i) (c + 1) ≤ cnt (fun i => labN w h n i == i) (cellsN w h) := by
      obtain ⟨x, hx⟩ := Nat.exists_eq_add_of_le (show c + 1 ≤ cellsN w h by omega)
      rw [hx]
      have : ∀ x, cnt (fun i => labN w h n i == i) (c + 1) ≤ cnt (fun i => labN w h n i == i) (c + 1 + x) := by
        intro x
        induction x with
        | zero => exact Nat.le_refl _
        | succ x ih => rw [← Nat.add_assoc]; simp only [cnt]; simp only [cnt] at ih; omega
      exact this x
    simp only [cnt] at hle
    refine Ev.ite (fun h1 => ?_) (fun h1 => ?_)
    · refine Ev.eq (impl_parts_l0 d (c + 1) (m + 1) (by omega) (by omega)) ?_
      have : (labN w h n c == c) = true := by rw [beq_iff_eq]; omega
      simp only [cnt, this, Bool.toNat_true] at hle ⊢
      omega
    · refine Ev.eq (impl_parts_l0 d (c + 1) m (by omega) (by omega)) ?_
      have : (labN w h n c == c) = false := by rw [beq_eq_false_iff_ne]; omega
      simp only [cnt, this, Bool.toNat_false] at hle ⊢
      omega
theorem impl_CountParts_ev : Ev (fun k => impl_CountParts.f k w h n) (partsN w h n : Int) := by
  unfold impl_CountParts.f
  refine Ev.eq (impl_parts_l0 hg hn (cellsN w h) 0 0 (by omega) (by omega)) ?_
  simp only [cnt, Nat.zero_add, Nat.sub_zero]
  rfl
end
end Go.Proofs.Ytcajhmldbkfhiaa.P
namespace Go.Proofs.Ytcajhmldbkfhiaa.P
open Go.RowKit Go.Proofs.YtcajhmldbkfhiaaW.PrintWords Go.Proofs.YtcajhmldbkfhiaaW.PrintLast Go.Proofs.YtcajhmldbkfhiaaW.PrintMore
attribute [local go_sem] max2_int min2_int max_two min_two max_three min_three max_four min_four   -- for this text's walks alone
set_option linter.unusedVariables false
set_option linter.unusedSimpArgs false

/-! ### spec_IsPerfect: function 46 -/
end Go.Proofs.Ytcajhmldbkfhiaa.P
namespace Go.Proofs.Ytcajhmldbkfhiaa.P
open Go.RowKit Go.Proofs.YtcajhmldbkfhiaaW.PrintWords
set_option linter.unusedVariables false
set_option linter.unusedSimpArgs false

theorem cnt_len (p : Nat → Bool) {a b : Nat} (h : a ≤ b) : cnt p a ≤ cnt p b := by
  obtain ⟨x, rfl⟩ := Nat.exists_eq_add_of_le h
  induction x with
  | zero => exact Nat.le_refl _
  | succ x ih => rw [← Nat.add_assoc]; simp only [cnt]; have := ih (by omega); omega
theorem pop_cnt (n k : Nat) : pop k n = cnt n.testBit k := by
  induction k with
  | zero => rfl
  | succ k ih => simp only [pop, cnt]; rw [ih]
theorem shift_count {p : Nat → Bool} {c v m : Nat} (hc : c < v) : m + (p c).toNat + (cnt p v - cnt p (c + 1)) = m + (cnt p v - cnt p c) := by
  have := cnt_len p (show c + 1 ≤ v by omega)
  simp only [cnt] at this ⊢
  omega
section
variable {w h : Int} {n : Nat} (hg : gridOk w h = true) (hn : n < 2 ^ gapsN w h)
include hg hn
theorem impl_CountPassages_eq : impl_CountPassages.f w h n = some (pop (gapsN w h) n : Int) := by
  have hs := open_small hn
  unfold impl_CountPassages.f
  rw [impl_MazeOk_eq, Option.bind_some, if_pos (mazeOk_nat hg hn), u64_small (by omega), ones_eq' (gapsN_le w h) hn, Option.bind_some]
theorem spec_passages_l0 : ∀ (d c m : Nat), c + d = gapsN w h → m ≤ c → Ev (fun k => spec_CountPassages.l0 k m c w h n) (((m + (cnt n.testBit (gapsN w h) - cnt n.testBit c) : Nat)) : Int)
  | 0, c, m, hd, hm => by
    have hcast := gapsN_cast w h
    refine Ev.step (fun _ => spec_CountPassages.l0.eq_2 ..) (Ev.bnd0 (spec_CountGaps_eq w h) (Ev.ff (by omega) ?_))
    refine Ev.step (fun _ => spec_CountPassages.j1.eq_2 ..) (Ev.ff (by decide) (Ev.ret ?_))
    rw [show c = gapsN w h by omega, Nat.sub_self, Nat.add_zero]
  | d + 1, c, m, hd, hm => by
    have hcast := gapsN_cast w h
    have h24 := gapsN_le w h
    have hs := open_small hn
    refine Ev.step (fun _ => spec_CountPassages.l0.eq_2 ..) (Ev.bnd0 (spec_CountGaps_eq w h) (Ev.tt (by omega) (Ev.bnd0 (spec_MazeOk_eq w h n) ?_)))
    rw [mazeOk_nat hg hn]
    refine Ev.step (fun _ => spec_CountPassages.j1.eq_2 ..) (Ev.tt rfl (Ev.bnd0 (spec_l03Bit_eq hs (by omega)) ?_))
    rw [openI_nat', wsucc (by omega), wsucc (by omega)]
    refine Ev.ite (fun h1 => ?_) (fun h1 => ?_)
    · refine Ev.eq (spec_passages_l0 d (c + 1) (m + 1) (by omega) (by omega)) ?_
      rw [← shift_count (p := n.testBit) (c := c) (v := gapsN w h) (m := m) (by omega), h1]
      rfl
    · refine Ev.eq (spec_passages_l0 d (c + 1) m (by omega) (by omega)) ?_
      rw [← shift_count (p := n.testBit) (c := c) (v := gapsN w h) (m := m) (by omega), Bool.eq_false_iff.2 h1]
      rfl
theorem spec_CountPassages_ev : Ev (fun k => spec_CountPassages.f k w h n) (pop (gapsN w h) n : Int) := by
  unfold spec_CountPassages.f
  refine Ev.eq (spec_passages_l0 hg hn (gapsN w h) 0 0 (by omega) (by omega)) ?_
  rw [pop_cnt]
  simp [cnt]
omit hn in
theorem perf_value : (if (decide (((partsN w h n : Nat) : Int) = 1)) = true then decide (((pop (gapsN w h) n : Nat) : Int) = wrap64 (cellsOf w h - 1)) else false) = perfN w h n := by
  have h16 := cellsN_le w h
  have hpos := cells_pos hg
  have hcast := cellsN_cast w h
  have hpop := pop_le (gapsN w h) n
  rw [wrap64_id (by omega) (by omega)]
  unfold perfN perf
  by_cases h1 : partsN w h n = 1
  · have h1' := h1
    unfold partsN at h1'
    rw [h1, h1']
    simp only [Int.natCast_one, decide_true, if_true, true_and]
    rw [decide_eq_decide]
    omega
  · have h1' := h1
    unfold partsN at h1'
    rw [if_neg (by simp; omega)]
    symm
    rw [decide_eq_false_iff_not]
    exact fun h2 => h1' h2.1
theorem impl_IsPerfect_ev : Ev (fun k => impl_IsPerfect.f k w h n) (perfN w h n) := by
  unfold impl_IsPerfect.f impl_IsConnected.f
  rw [← perf_value hg]
  refine Ev.bind (Ev.bind (impl_CountParts_ev hg hn) (Ev.ret rfl)) ?_
  refine Ev.ite (fun h1 => Ev.bnd0 (impl_CountPassages_eq hg hn) (Ev.bnd0 (impl_CountCells_eq w h) (Ev.ret ?_))) (fun h1 => Ev.ret ?_)
  · rw [if_pos (by simpa using h1)]
    rw [Bool.eq_iff_iff]
    simp
  · rw [if_neg (by simpa using h1)]
end
end Go.Proofs.Ytcajhmldbkfhiaa.P
namespace Go.Proofs.Ytcajhmldbkfhiaa.P
open Go.RowKit Go.Proofs.YtcajhmldbkfhiaaW.PrintWords
set_option linter.unusedVariables false
set_option linter.unusedSimpArgs false

/-- Tells whether the ends of a gap are in different parts. -/
def apartB (w h : Int) (n g : Nat) : Bool := decide (distN w h n (ends w h g).1 (ends w h g).2 < 0)
theorem apartB_iff {w h : Int} {n g : Nat} (hn : n < 2 ^ gapsN w h) (hgg : g < gapsN w h) : apartB w h n g = true ↔ ¬ Cn (ends w h) n (ends w h g).1 (ends w h g).2 := by
  have hf := ends_facts hgg
  unfold apartB
  rw [decide_eq_true_eq, ← distN_cn hn (by omega)]
  omega
section
variable {w h : Int} {n : Nat} (hg : gridOk w h = true) (hn : n < 2 ^ gapsN w h)
include hg hn
theorem spec_Apart_ev {g : Nat} (hgg : g < gapsN w h) : Ev (fun k => spec_l05Apart.f k w h n g) (apartB w h n g) := by
  obtain ⟨e1, e2, e3⟩ := ends_facts hgg
  unfold spec_l05Apart.f
  refine Ev.bnd0 (spec_EndsOf_eq w h g) ?_
  rw [e1]
  refine Ev.bind (spec_distances_ev hg hn (by omega)) (Ev.tt (by simp only; omega) (Ev.tt (by rw [dlist_length]; simp only; omega) (Ev.ret ?_)))
  simp only
  rw [rd_dlist e3]
  rfl
end
section
variable {w h : Int} (hg : gridOk w h = true)
include hg
end
end Go.Proofs.Ytcajhmldbkfhiaa.P
namespace Go.Proofs.Ytcajhmldbkfhiaa.P
open Go.RowKit Go.Proofs.YtcajhmldbkfhiaaW.PrintWords Go.Proofs.YtcajhmldbkfhiaaW.PrintLast Go.Proofs.YtcajhmldbkfhiaaW.PrintMore
attribute [local go_sem] max2_int min2_int max_two min_two max_three min_three max_four min_four   -- for this text's walks alone
set_option linter.unusedVariables false
set_option linter.unusedSimpArgs false

/-! ### impl_FullMaze: function 84 -/
/-! ### spec_FullMaze: function 55 -/
end Go.Proofs.Ytcajhmldbkfhiaa.P
namespace Go.Proofs.Ytcajhmldbkfhiaa.P
open Go.RowKit Go.Proofs.YtcajhmldbkfhiaaW.PrintWords
set_option linter.unusedVariables false
set_option linter.unusedSimpArgs false

def mkM (w h : Int) (n : Nat) : S34 := ⟨⟨w, h⟩, (n : Int)⟩
theorem l12_len (ap : Nat → Nat → Bool) : ∀ g need x, (l12 ap g need x).length ≤ 2 ^ g
  | 0, need, x => by unfold l12; split <;> simp
  | g + 1, need, x => by
    have h2 := Nat.two_pow_pos (g + 1)
    have h3 : 2 ^ (g + 1) = 2 ^ g + 2 ^ g := by rw [Nat.pow_succ]; omega
    unfold l12
    split
    · simp only [List.length_singleton]; omega
    · split
      · simp
      · rw [List.length_append]
        have := l12_len ap g need x
        split
        · have := l12_len ap g (need - 1) (setB x g true); omega
        · simp only [List.length_nil]; omega
section
variable {w h : Int}
theorem spec_WouldJoin_ev (hg : gridOk w h = true) {x g : Nat} (hx : x < 2 ^ gapsN w h) (hgg : g < gapsN w h) (hb : x.testBit g = false) : Ev (fun k => spec_WouldJoin.f k w h x g) (apartB w h x g) := by
  have hc := gapsN_cast w h
  have hl := gapsN_le w h
  unfold spec_WouldJoin.f
  refine Ev.bnd0 (spec_MazeOk_eq ..) (Ev.tt (mazeOk_iff.2 ⟨hg, x, rfl, hx⟩) (Ev.bnd0 (spec_CountGaps_eq ..) (Ev.bnd0 (l01In_eq ..) ?_)))
  rw [wrap64_id (by omega) (by omega)]
  refine Ev.tt (by simp; omega) (Ev.bnd0 (spec_l03Bit_eq (open_small hx) (by omega)) ?_)
  rw [openI_nat', hb]
  exact Ev.ff (by decide) (Ev.bind (spec_Apart_ev hg hx hgg) (Ev.ret rfl))
theorem ap_iff : ∀ x g, x < 2 ^ gapsN w h → g < gapsN w h → x.testBit g = false → (apartB w h x g = true ↔ ¬ Cn (ends w h) x (ends w h g).1 (ends w h g).2) := fun x g hx hgg _ => apartB_iff hx hgg
end
end Go.Proofs.Ytcajhmldbkfhiaa.P
namespace Go.Proofs.Ytcajhmldbkfhiaa.P
open Go.RowKit Go.Proofs.YtcajhmldbkfhiaaW.PrintWords
set_option linter.unusedVariables false
set_option linter.unusedSimpArgs false

/-- No bit under g that m lacks. -/
def subL (m : Nat) : Nat → Nat → Bool
  | 0, _ => true
  | g + 1, s => subL m g s && (!s.testBit g || m.testBit g)
theorem subL_iff {m : Nat} : ∀ {g s : Nat}, subL m g s = true ↔ ∀ i, i < g → s.testBit i = true → m.testBit i = true
  | 0, s => by simp [subL]
  | g + 1, s => by
    unfold subL
    rw [Bool.and_eq_true, subL_iff]
    constructor
    · rintro ⟨h1, h2⟩ i hi hb
      rcases Nat.lt_succ_iff_lt_or_eq.1 hi with h | rfl
      · exact h1 i h hb
      · rw [hb] at h2; simpa using h2
    · intro h
      refine ⟨fun i hi => h i (by omega), ?_⟩
      cases hb : s.testBit g with
      | false => rfl
      | true => rw [h g (by omega) hb]; rfl
theorem l12_high {ap : Nat → Nat → Bool} : ∀ (g need x t : Nat), t ∈ l12 ap g need x → ∀ i, g ≤ i → t.testBit i = x.testBit i
  | 0, need, x, t, ht, i, hi => by
    unfold l12 at ht
    split at ht
    · rw [List.mem_singleton.1 ht]
    · cases ht
  | g + 1, need, x, t, ht, i, hi => by
    unfold l12 at ht
    split at ht
    · rw [List.mem_singleton.1 ht]
    · split at ht
      · cases ht
      · rcases List.mem_append.1 ht with h | h
        · exact l12_high g need x t h i (by omega)
        · split at h
          · rw [l12_high g (need - 1) _ t h i (by omega), setB_ne true (by omega)]
          · cases h
theorem l12_sub {ap : Nat → Nat → Bool} {m : Nat} : ∀ (g need x : Nat), (∀ i, i < g → x.testBit i = false) → l12 (fun x g => m.testBit g && ap x g) g need x = (l12 ap g need x).filter (subL m g)
  | 0, need, x, hl => by
    unfold l12
    split <;> simp [subL]
  | g + 1, need, x, hl => by
    have hx : subL m (g + 1) x = true := subL_iff.2 fun i hi hb => by rw [hl i hi] at hb; cases hb
    unfold l12
    by_cases h0 : need = 0
    · rw [if_pos h0, if_pos h0, List.filter_cons, if_pos hx, List.filter_nil]
    rw [if_neg h0, if_neg h0]
    by_cases h1 : need > g + 1
    · rw [if_pos h1, if_pos h1, List.filter_nil]
    rw [if_neg h1, if_neg h1, List.filter_append]
    have hxg : x.testBit g = false := hl g (by omega)
    rw [l12_sub g need x (fun i hi => hl i (by omega))]
    congr 1
    · refine List.filter_congr fun t ht => ?_
      have := l12_high g need x t ht g (Nat.le_refl _)
      show _ = (subL m g t && (!t.testBit g || m.testBit g))
      rw [this, hxg]
      simp
    · have hrec := l12_sub (ap := ap) (m := m) g (need - 1) (setB x g true) (fun i hi => by rw [setB_ne true (by omega)]; exact hl i (by omega))
      have hbit : ∀ t ∈ l12 ap g (need - 1) (setB x g true), t.testBit g = true := fun t ht => by rw [l12_high g _ _ t ht g (Nat.le_refl _), testBit_setB, if_pos rfl]
      cases hm : m.testBit g with
      | true =>
        simp only [Bool.true_and]
        split
        · rw [hrec]
          refine List.filter_congr fun t ht => ?_
          show _ = (subL m g t && (!t.testBit g || m.testBit g))
          rw [hm]
          simp
        · rfl
      | false =>
        simp only [Bool.false_and, Bool.false_eq_true, if_false]
        split
        · symm
          rw [List.filter_eq_nil_iff]
          intro t ht
          rw [show subL m (g + 1) t = (subL m g t && (!t.testBit g || m.testBit g)) from rfl, hm, hbit t ht]
          simp
        · rfl
/-- The perfect masks within m, from the least to the greatest. -/
def treesS (e : Nat → Nat × Nat) (V E m : Nat) : List Nat := (List.range (m + 1)).filter fun s => subL m E s && perf e V E s
theorem sub_le {E m s : Nat} (hs : s < 2 ^ E) (h : subL m E s = true) : s ≤ m := by
  apply Nat.le_of_testBit
  intro i hi
  exact subL_iff.1 h i (lt_of_testBit hs hi) hi
theorem l12_treesS {e : Nat → Nat × Nat} {V E m : Nat} (hG : Gr e V E) (hV : 1 ≤ V) (hm : m < 2 ^ E) {ap : Nat → Nat → Bool} (hap : ∀ x g, x < 2 ^ E → g < E → x.testBit g = false → (ap x g = true ↔ ¬ Cn e x (e g).1 (e g).2)) :
    l12 (fun x g => m.testBit g && ap x g) E (V - 1) 0 = treesS e V E m := by
  rw [l12_sub E (V - 1) 0 (fun i _ => Nat.zero_testBit i), l12_trees hG hV hap]
  unfold treesL treesS
  obtain ⟨d, hd⟩ : ∃ d, 2 ^ E = (m + 1) + d := ⟨2 ^ E - (m + 1), by omega⟩
  rw [List.filter_filter, hd, List.range_add, List.filter_append]
  have : (List.map (fun x => m + 1 + x) (List.range d)).filter (fun s => subL m E s && perf e V E s) = [] := by
    rw [List.filter_eq_nil_iff]
    intro s hs h
    obtain ⟨t, ht, rfl⟩ := List.mem_map.1 hs
    have ht := List.mem_range.1 ht
    rw [Bool.and_eq_true] at h
    have := sub_le (E := E) (by omega) h.1
    omega
  rw [this, List.append_nil]
end Go.Proofs.Ytcajhmldbkfhiaa.P
namespace Go.Proofs.Ytcajhmldbkfhiaa.P
open Go.RowKit Go.Proofs.YtcajhmldbkfhiaaW.PrintWords
set_option linter.unusedVariables false
set_option linter.unusedSimpArgs false

section
variable {w h : Int}
theorem spec_l12S_ev (hg : gridOk w h = true) {m : Nat} (hm : m < 2 ^ gapsN w h) : ∀ (g need x : Nat), g ≤ gapsN w h → x < 2 ^ gapsN w h → (∀ i, i < g → x.testBit i = false) →
    Ev (fun k => spec_l12List.f k w h m w h x ((g : Int) - 1) need) ((l12 (fun x g => m.testBit g && apartB w h x g) g need x).map (mkM w h))
  | 0, need, x, hgn, hx, hl => by
    refine Ev.step (fun _ => spec_l12List.f.eq_2 ..) ?_
    unfold l12
    by_cases h0 : need = 0
    · rw [if_pos h0]
      exact Ev.tt (by omega) (Ev.ret rfl)
    · rw [if_neg h0]
      refine Ev.ff (by omega) ?_
      rw [wrap64_id (by omega) (by omega)]
      exact Ev.tt (by omega) (Ev.ret rfl)
  | g + 1, need, x, hgn, hx, hl => by
    have hle := gapsN_le w h
    refine Ev.step (fun _ => spec_l12List.f.eq_2 ..) ?_
    rw [show ((g + 1 : Nat) : Int) - 1 = (g : Int) by omega, wsucc (by omega)]
    unfold l12
    by_cases h0 : need = 0
    · rw [if_pos h0]
      exact Ev.tt (by omega) (Ev.ret rfl)
    rw [if_neg h0]
    refine Ev.ff (by omega) ?_
    by_cases h1 : need > g + 1
    · rw [if_pos h1]
      exact Ev.tt (by omega) (Ev.ret rfl)
    rw [if_neg h1]
    refine Ev.ff (by omega) ?_
    rw [wrap64_id (x := (g : Int) - 1) (by omega) (by omega)]
    have hxg := hl g (by omega)
    have ha := spec_l12S_ev hg hm g need x (by omega) hx (fun i hi => hl i (by omega))
    refine Ev.bind ha (Ev.bnd0 (spec_l03Bit_eq (open_small hm) (by omega)) ?_)
    rw [openI_nat']
    cases hmb : m.testBit g
    · refine Ev.ff (by decide) (Ev.step (fun _ => spec_l12List.j0.eq_2 ..) (Ev.ff (by decide) (Ev.ret ?_)))
      simp
    · refine Ev.tt rfl (Ev.bind (spec_WouldJoin_ev hg hx (by omega) hxg) (Ev.step (fun _ => spec_l12List.j0.eq_2 ..) ?_))
      simp only [Bool.true_and]
      refine Ev.ite (fun e1 => ?_) (fun e1 => ?_)
      · rw [if_pos e1]
        rw [wrap64_id (x := (g : Int) - 1) (by omega) (by omega), show wrap64 ((need : Int) - 1) = ((need - 1 : Nat) : Int) by rw [wrap64_id (by omega) (by omega)]; omega]
        have hb := spec_l12S_ev hg hm g (need - 1) (setB x g true) (by omega) (setB_lt true hx (by omega)) (fun i hi => by rw [setB_ne true (by omega)]; exact hl i (by omega))
        refine Ev.bind (spec_SetGap_ev hg hx (by omega) true) (Ev.bind hb (Ev.tt ?_ (Ev.ret ?_)))
        · have h2 : 2 ^ g ≤ 2 ^ 24 := Nat.pow_le_pow_right (by decide) (by omega)
          have := l12_len (fun x g => m.testBit g && apartB w h x g) g need x
          have := l12_len (fun x g => m.testBit g && apartB w h x g) g (need - 1) (setB x g true)
          rw [List.length_map, List.length_map]
          omega
        · rw [List.map_append]
      · rw [if_neg e1]
        refine Ev.ret ?_
        rw [List.append_nil]
def treesW (w h : Int) (m : Nat) : List Nat := treesS (ends w h) (cellsN w h) (gapsN w h) m
theorem treesW_len {m : Nat} (hm : m < 2 ^ gapsN w h) : (treesW w h m).length ≤ 16777216 := by
  have h1 := List.length_filter_le (fun s => subL m (gapsN w h) s && perf (ends w h) (cellsN w h) (gapsN w h) s) (List.range (m + 1))
  rw [List.length_range] at h1
  have h2 : 2 ^ gapsN w h ≤ 2 ^ 24 := Nat.pow_le_pow_right (by decide) (gapsN_le w h)
  unfold treesW treesS
  omega
theorem spec_ListTreesW_ev (hg : gridOk w h = true) {m : Nat} (hm : m < 2 ^ gapsN w h) (h12 : pop (gapsN w h) m ≤ 12) : Ev (fun k => spec_ListTrees.f k w h m) ((treesW w h m).map (mkM w h)) := by
  have hc := gapsN_cast w h
  have hcc := cellsN_cast w h
  have hcl := cellsN_le w h
  have hcp := cells_pos hg
  have h24 := gapsN_le w h
  unfold spec_ListTrees.f
  refine Ev.bnd0 (spec_MazeOk_eq ..) (Ev.tt (mazeOk_iff.2 ⟨hg, m, rfl, hm⟩) (Ev.bind (spec_CountPassages_ev hg hm) (Ev.step (fun _ => spec_ListTrees.j0.eq_2 ..) (Ev.ff (by rw [decide_eq_true_eq]; omega) ?_))))
  refine Ev.bnd0 (spec_CountGaps_eq ..) (Ev.bnd0 (spec_CountCells_eq ..) ?_)
  have := spec_l12S_ev hg hm (gapsN w h) (cellsN w h - 1) 0 (Nat.le_refl _) (Nat.two_pow_pos _) (fun i _ => Nat.zero_testBit i)
  rw [l12_treesS (gr_grid w h) hcp hm ap_iff, hc, show ((cellsN w h - 1 : Nat) : Int) = cellsOf w h - 1 by omega] at this
  rw [wrap64_id (x := gapsOf w h - 1) (by omega) (by omega), wrap64_id (x := cellsOf w h - 1) (by omega) (by omega)]
  exact Ev.bind this (Ev.ret rfl)
theorem andNot_zero {E m i : Nat} (hi : i < 2 ^ E) : andNot i m = 0 ↔ subL m E i = true := by
  rw [subL_iff]
  constructor
  · intro h0 j hj hb
    have := testBit_andNot i m j
    rw [h0, Nat.zero_testBit, hb] at this
    simpa using this
  · intro hs
    apply Nat.eq_of_testBit_eq
    intro j
    rw [testBit_andNot, Nat.zero_testBit]
    cases hb : i.testBit j
    · rfl
    · rw [hs j (lt_of_testBit hi hb) hb]; rfl
theorem impl_ListW_l0 (hg : gridOk w h = true) {m : Nat} (hm : m < 2 ^ gapsN w h) : ∀ (e i : Nat) (out : List S34), i + e = m + 1 → out.length ≤ i →
    Ev (fun k => impl_ListTrees.l0 k out i w h m) (out ++ ((List.range' i e).filter (fun s => subL m (gapsN w h) s && perf (ends w h) (cellsN w h) (gapsN w h) s)).map (mkM w h))
  | 0, i, out, he, ho => by
    refine Ev.step (fun _ => impl_ListTrees.l0.eq_2 ..) (Ev.ff (by omega) (Ev.ret ?_))
    simp
  | e + 1, i, out, he, ho => by
    have hb : 2 ^ gapsN w h ≤ 2 ^ 24 := Nat.pow_le_pow_right (by decide) (gapsN_le w h)
    have hi : i < 2 ^ gapsN w h := by omega
    have hcc := cellsN_cast w h
    have hcl := cellsN_le w h
    have hcp := cells_pos hg
    refine Ev.step (fun _ => impl_ListTrees.l0.eq_2 ..) (Ev.tt (by omega) ?_)
    rw [bits_andNot (a := i) (b := m) (by omega) (by omega), List.range'_succ, List.filter_cons]
    by_cases hs : subL m (gapsN w h) i = true
    · rw [(andNot_zero hi).2 hs, hs, Bool.true_and]
      have hu : IntKind.u64.wrap (i : Int) = (i : Int) := by unfold IntKind.wrap; simp [IntKind.bits, IntKind.signed]; omega
      refine Ev.tt rfl ?_
      rw [hu]
      refine Ev.bnd0 (ones_eq' (gapsN_le w h) hi) (Ev.bnd0 (impl_CountCells_eq ..) (Ev.step (fun _ => impl_ListTrees.j2.eq_2 ..) ?_))
      rw [wrap64_id (x := cellsOf w h - 1) (by omega) (by omega), wsucc (by omega)]
      refine Ev.ite (fun e1 => ?_) (fun e1 => ?_)
      · have hpf : perf (ends w h) (cellsN w h) (gapsN w h) i = false := by
          unfold perf
          rw [decide_eq_false_iff_not]
          intro hh
          rw [bne_iff_ne] at e1
          omega
        rw [hpf, if_neg (by decide)]
        exact impl_ListW_l0 hg hm e (i + 1) out (by omega) (by omega)
      · refine Ev.bind (impl_IsPerfect_ev hg hi) (Ev.ite (fun e2 => ?_) (fun e2 => ?_))
        · rw [if_pos (show perf (ends w h) (cellsN w h) (gapsN w h) i = true from e2)]
          refine Ev.tt (by omega) (Ev.eq (impl_ListW_l0 hg hm e (i + 1) (out ++ [mkM w h i]) (by omega) (by simp; omega)) ?_)
          simp
        · rw [if_neg (show ¬ perf (ends w h) (cellsN w h) (gapsN w h) i = true from e2)]
          exact impl_ListW_l0 hg hm e (i + 1) out (by omega) (by omega)
    · have hne : ¬ ((andNot i m : Nat) : Int) = 0 := by
        intro h0
        exact hs ((andNot_zero hi).1 (by omega))
      rw [Bool.eq_false_iff.2 hs, Bool.false_and, if_neg (by decide)]
      refine Ev.ff hne (Ev.step (fun _ => impl_ListTrees.j2.eq_2 ..) (Ev.tt rfl ?_))
      rw [wsucc (by omega)]
      exact impl_ListW_l0 hg hm e (i + 1) out (by omega) (by omega)
theorem impl_ListTreesW_ev (hg : gridOk w h = true) {m : Nat} (hm : m < 2 ^ gapsN w h) (h12 : pop (gapsN w h) m ≤ 12) : Ev (fun k => impl_ListTrees.f k w h m) ((treesW w h m).map (mkM w h)) := by
  unfold impl_ListTrees.f
  refine Ev.bnd0 (impl_MazeOk_eq ..) (Ev.tt (mazeOk_iff.2 ⟨hg, m, rfl, hm⟩) (Ev.bnd0 (impl_CountPassages_eq hg hm) (Ev.step (fun _ => impl_ListTrees.j0.eq_2 ..) (Ev.ff (by rw [decide_eq_true_eq]; omega) ?_))))
  have := impl_ListW_l0 hg hm (m + 1) 0 [] (by omega) (by simp)
  rw [List.nil_append, ← List.range_eq_range'] at this
  exact this
end
theorem ListTrees_both (w h o : Int) : ∃ r : List S34, r.length ≤ 16777216 ∧ Ev (fun k => impl_ListTrees.f k w h o) r ∧ Ev (fun k => spec_ListTrees.f k w h o) r := by
  have hji : Ev (fun k => impl_ListTrees.j0 k true w h o) [] := Ev.step (fun _ => impl_ListTrees.j0.eq_2 ..) (Ev.tt rfl (Ev.ret rfl))
  have hjs : Ev (fun k => spec_ListTrees.j0 k true w h o) [] := Ev.step (fun _ => spec_ListTrees.j0.eq_2 ..) (Ev.tt rfl (Ev.ret rfl))
  by_cases hmz : mazeOk w h o = true
  · obtain ⟨hg, m, rfl, hm⟩ := mazeOk_iff.1 hmz
    by_cases h12 : pop (gapsN w h) m ≤ 12
    · exact ⟨_, by rw [List.length_map]; exact treesW_len hm, impl_ListTreesW_ev hg hm h12, spec_ListTreesW_ev hg hm h12⟩
    · refine ⟨[], by simp, ?_, ?_⟩
      · unfold impl_ListTrees.f
        refine Ev.bnd0 (impl_MazeOk_eq ..) (Ev.tt hmz (Ev.bnd0 (impl_CountPassages_eq hg hm) ?_))
        rw [decide_eq_true (by omega)]
        exact hji
      · unfold spec_ListTrees.f
        refine Ev.bnd0 (spec_MazeOk_eq ..) (Ev.tt hmz (Ev.bind (spec_CountPassages_ev hg hm) ?_))
        rw [decide_eq_true (by omega)]
        exact hjs
  · refine ⟨[], by simp, ?_, ?_⟩
    · unfold impl_ListTrees.f
      exact Ev.bnd0 (impl_MazeOk_eq ..) (Ev.ff hmz hji)
    · unfold spec_ListTrees.f
      exact Ev.bnd0 (spec_MazeOk_eq ..) (Ev.ff hmz hjs)
end Go.Proofs.Ytcajhmldbkfhiaa.P
namespace Go.Proofs.Ytcajhmldbkfhiaa.P
open Go.RowKit Go.Proofs.YtcajhmldbkfhiaaW.PrintWords Go.Proofs.YtcajhmldbkfhiaaW.PrintLast Go.Proofs.YtcajhmldbkfhiaaW.PrintMore
attribute [local go_sem] max2_int min2_int max_two min_two max_three min_three max_four min_four   -- for this text's walks alone
set_option linter.unusedVariables false
set_option linter.unusedSimpArgs false

/-! ### laws_toIntS: function 14 -/
/-! ### laws_eqIntS: function 16 -/
/-! ### laws_markIntS: function 37 -/
/-! ### laws_heldIntS: function 38 -/
end Go.Proofs.Ytcajhmldbkfhiaa.P
namespace Go.Proofs.Ytcajhmldbkfhiaa.P
open Go.RowKit Go.Proofs.YtcajhmldbkfhiaaW.PrintWords Go.Proofs.Ytcajhmldbkfhiaa.Sup
set_option linter.unusedVariables false
set_option linter.unusedSimpArgs false

theorem rdMZ {l : List S34} {i : Nat} (h : i < l.length) : rd_T34 l (i : Int) = l[i] := by simp [rd_T34, List.getD_eq_getElem?_getD, List.getElem?_eq_getElem h]
theorem eqMazeSelf (a b c : Int) : laws_eqMaze.f a b c a b c = some true := by
  unfold laws_eqMaze.f laws_eqGrid.f
  simp
theorem eqMazeS_l0 (l : List S34) (hl : l.length ≤ 16777216) : ∀ (d i : Nat), i + d = l.length → Ev (fun k => laws_eqMazeS.l0 k l l i) true
  | 0, i, hd => Ev.step (fun _ => laws_eqMazeS.l0.eq_2 ..) (Ev.ff (by omega) (Ev.ret rfl))
  | d + 1, i, hd => by
    refine Ev.step (fun _ => laws_eqMazeS.l0.eq_2 ..) (Ev.tt (by omega) (Ev.tt (by omega) (Ev.tt (by omega) (Ev.bnd0 (eqMazeSelf _ _ _) (Ev.tt rfl ?_)))))
    rw [wsucc (by omega)]
    exact eqMazeS_l0 l hl d (i + 1) (by omega)
theorem eqMazeS_ev (l : List S34) (hl : l.length ≤ 16777216) : Ev (fun k => laws_eqMazeS.f k l l) true := by
  unfold laws_eqMazeS.f
  exact Ev.tt rfl (eqMazeS_l0 l hl l.length 0 (by omega))
/-- Mazes with the numbers m, m + 1, .. -/
def marksZ : Nat → Nat → List S34
  | _, 0 => []
  | m, d + 1 => ⟨⟨(m : Int), ((m + 1 : Nat) : Int)⟩, ((m + 2 : Nat) : Int)⟩ :: marksZ (m + 3) d
theorem marksZ_len : ∀ d m, (marksZ m d).length = d
  | 0, _ => rfl
  | d + 1, m => by simp [marksZ, marksZ_len d]
theorem markMazeS_l0 : ∀ (d i m : Nat) (l : List S34), i + d = l.length → l.length ≤ 16777216 → m + 3 * d ≤ 1000000000 → Ev (fun k => laws_markMazeS.l0 k l m i) (((m + 3 * d : Nat) : Int), l.take i ++ marksZ m d)
  | 0, i, m, l, hd, hl, hm => by
    refine Ev.step (fun _ => laws_markMazeS.l0.eq_2 ..) (Ev.ff (by omega) (Ev.ret ?_))
    rw [List.take_of_length_le (by omega)]
    simp [marksZ]
  | d + 1, i, m, l, hd, hl, hm => by
    have h1 : i < l.length := by omega
    refine Ev.step (fun _ => laws_markMazeS.l0.eq_2 ..) (Ev.tt (by omega) (Ev.tt (by omega) (Ev.bnd0 rfl (Ev.bnd0 rfl ?_))))
    rw [wsucc (show m < 4611686018427387904 by omega), wsucc (show m + 1 < 4611686018427387904 by omega), wsucc (show m + 1 + 1 < 4611686018427387904 by omega), wsucc (show i < 4611686018427387904 by omega), Int.toNat_natCast]
    rw [rdMZ (show i < (l.set i _).length by rw [List.length_set]; exact h1), rdMZ (show i < ((l.set i _).set i _).length by rw [List.length_set, List.length_set]; exact h1)]
    simp only [List.getElem_set_self, List.set_set]
    refine Ev.eq (markMazeS_l0 d (i + 1) (m + 3) (l.set i ⟨⟨(m : Int), ((m + 1 : Nat) : Int)⟩, ((m + 2 : Nat) : Int)⟩) (by rw [List.length_set]; omega) (by rw [List.length_set]; omega) (by omega)) ?_
    rw [List.take_succ_eq_append_getElem (by rw [List.length_set]; omega), List.take_set_of_le (Nat.le_refl _)]
    simp [marksZ]
    omega
theorem markMazeS_ev (l : List S34) (hl : l.length ≤ 16777216) : Ev (fun k => laws_markMazeS.f k l 1) (((1 + 3 * l.length : Nat) : Int), marksZ 1 l.length) := by
  unfold laws_markMazeS.f
  have := markMazeS_l0 l.length 0 1 l (by omega) hl (by omega)
  simpa using this
theorem heldMazeS_l0 : ∀ (d i m : Nat) (l : List S34), i + d = l.length → l.length ≤ 16777216 → m + 3 * d ≤ 1000000000 → l.drop i = marksZ m d → Ev (fun k => laws_heldMazeS.l0 k l m i) ((m + 3 * d : Nat) : Int)
  | 0, i, m, l, hd, hl, hm, he => Ev.step (fun _ => laws_heldMazeS.l0.eq_2 ..) (Ev.ff (by omega) (Ev.ret rfl))
  | d + 1, i, m, l, hd, hl, hm, he => by
    have h1 : i < l.length := by omega
    rw [List.drop_eq_getElem_cons h1, marksZ] at he
    injection he with e1 e2
    refine Ev.step (fun _ => laws_heldMazeS.l0.eq_2 ..) (Ev.tt (by omega) (Ev.tt (by omega) ?_))
    rw [rdMZ h1, e1, wsucc (show m < 4611686018427387904 by omega), wsucc (show m + 1 < 4611686018427387904 by omega), wsucc (show m + 1 + 1 < 4611686018427387904 by omega), wsucc (show i < 4611686018427387904 by omega)]
    refine Ev.tt rfl (Ev.tt rfl (Ev.tt rfl ?_))
    refine Ev.eq (heldMazeS_l0 d (i + 1) (m + 3) l (by omega) hl (by omega) e2) ?_
    omega
theorem heldMazeS_ev (n : Nat) (hn : n ≤ 16777216) : Ev (fun k => laws_heldMazeS.f k (marksZ 1 n) 1) ((1 + 3 * n : Nat) : Int) := by
  unfold laws_heldMazeS.f
  have := heldMazeS_l0 n 0 1 (marksZ 1 n) (by rw [marksZ_len]; omega) (by rw [marksZ_len]; exact hn) (by omega) (by simp)
  simpa using this
theorem FnExactListTrees_pure (a0_0 a0_1 a0_2 : Int) (w0_0 : InR a0_0) (w0_1 : InR a0_1) (w0_2 : InR a0_2) : ∃ k, laws_FnExactListTrees.f k a0_0 a0_1 a0_2 = some true := by
  refine Ev.rounds ?_
  obtain ⟨r, hl, hi, hs⟩ := ListTrees_both a0_0 a0_1 a0_2
  have ht : laws_toMaze.f a0_0 a0_1 a0_2 = some (a0_0, a0_1, a0_2) := rfl
  have he := eqMazeS_ev r hl
  have hm := markMazeS_ev r hl
  have hh := heldMazeS_ev r.length hl
  unfold laws_FnExactListTrees.f
  refine Ev.bnd0 ht (Ev.bind hs (Ev.bnd0 ht (Ev.bind hi (Ev.bind he (Ev.tt rfl (Ev.bind hm (Ev.bind hh (Ev.ff (by omega) (Ev.tt rfl ?_)))))))))
  exact Ev.bnd0 ht (Ev.bind hi (Ev.bind he (Ev.tt rfl (Ev.bind hh (Ev.ff (by omega) (Ev.tt rfl (Ev.ret rfl)))))))
end Go.Proofs.Ytcajhmldbkfhiaa.P
namespace Go.Proofs.Ytcajhmldbkfhiaa.fnExactListTrees
open Go.ChangeShapes Go.WideShapes Go.ChangeAt Go.RowKit Go.Proofs.YtcajhmldbkfhiaaW.PrintWords Go.Proofs.Ytcajhmldbkfhiaa.Sup
open Go.ChangeMaps (open_string shut_string)
set_option linter.unusedVariables false
theorem own : ownKnob Try.prog.godebug = none := by kernel_rfl
theorem laidOut : laidOutB Try.prog = true := by kernel_rfl
set_option maxRecDepth 100000 in
theorem lifted (os : Os) (started : os.Started) (H : Type) (enc : TypeId × Value → H) :
    ReturnsInHanded {} Try.checked os 4 .any (Rows.fnExactListTreesSpec.pre6 enc Try.prog Try.f4 Rows.fnExactListTreesRow.domain false) (Rows.fnExactListTreesSpec.post enc Try.prog Try.f4 false true false false) := by
  refine returnsInHanded_of_change_sized (C := Try.checked) own started (by kernel_rfl) Try.func4
    (ChangeSpec.witness6 (enc := enc) (C := Try.checked) false ⟨#[], #[.agg #[.int .i64 0, .int .i64 0, .int .i64 0]], []⟩ 8 (by kernel_rfl) (by kernel_rfl) (by kernel_rfl) (by kernel_rfl)) ?_
  intro W base args ds gs before hval0 hW hcnd hsz0 _
  have hsz : (DataW.weightsEach Try.prog (Try.f4.params.toList ++ Rows.fnExactListTreesSpec.plain.varTypes Try.prog) (ds ++ gs)).all (· ≤ reachBytes) = true := hsz0
  have hval : ∀ (j : Nat) t v, Try.f4.params[j]? = some t → args[j]? = some v → Value.okWide Try.prog W .any base t v := hval0
  have hW' := hW
  obtain ⟨p, q, hA0, hV, rfl, hfz, hnd⟩ := hW
  have hA : DataW.TrodAll enc Try.prog W 0 (fun _ => true) true Try.f4.params.toList args.toList ds p := hA0
  rw [Try.params4] at hA hval hsz
  obtain ⟨v0, vs0, d0, ds0, p0, q0, hargs, rfl, rfl, h0, r0⟩ := trodAll_cons hA
  obtain ⟨rfl, rfl, rfl⟩ := trodAll_nil r0
  obtain rfl : args = #[v0] := by cases args; simp_all
  obtain ⟨rfl, rfl⟩ := trodVars_none hV
  have k0 := h0
  have lt0 : ∀ x ∈ p0, x.block < W.heap.size := by obtain ⟨m, hm⟩ := k0; exact DataW.trod_lt m _ _ _ hm
  obtain ⟨a0_0, a0_1, a0_2, rfl, w0_0, w0_1, w0_2⟩ := open3 Try.underlying29 Try.underlying27 (by kernel_rfl) (by kernel_rfl) (by kernel_rfl) rfl rfl rfl rfl (by kernel_rfl) (by kernel_rfl) (by kernel_rfl) (by kernel_rfl) (by kernel_rfl) (hval 0 29 v0 rfl rfl) h0
  clear hA0 hval0 hsz0 hsz
  obtain ⟨k, hf⟩ := P.FnExactListTrees_pure a0_0 a0_1 a0_2 w0_0 w0_1 w0_2
  refine (P.laws_FnExactListTrees.calls k a0_0 a0_1 a0_2 true W  hf).mono fun e W' ⟨he, bel0⟩ => ?_
  have bel : Below W.heap.size W W' := bel0
  subst he
  exact ⟨_, rfl, _, _, _, [], _, [], hW', trodAll_mk1 (shut_bool Try.underlying4 _), (trodAll_cons_mk (Below.trod laidOut (by kernel_rfl) (of_decide_eq_true (by kernel_rfl)) k0 bel lt0) trodAll_mk0), rfl, bel.frame _, fun h => by cases h⟩
theorem over : Rows.fnExactListTreesRow.holds Try.pinned (OpenSpec.ofChange Rows.fnExactListTreesSpec) :=
  OpenClaim.holds_of_wide 4 Try.f4 rfl rfl rfl rfl rfl rfl rfl ⟨rfl, rfl, rfl, rfl, rfl⟩ rfl rfl rfl rfl rfl (by kernel_rfl) Try.func4 (by kernel_rfl)
    (of_decide_eq_true (by kernel_rfl)) (by unfold Func.isWrapper; first | (rw [if_pos (by decide +kernel)]; kernel_rfl) | (rw [if_neg (by decide +kernel)]; exact ⟨rfl, rfl⟩))
    (fun os started H enc _ => lifted os started H enc)
theorem proved : Rows.FnExactListTreesSaid := over
end Go.Proofs.Ytcajhmldbkfhiaa.fnExactListTrees
namespace Go.Proofs.Ytcajhmldbkfhiaa
/-- The row, under a short name, for the claim. -/
theorem fnExactListTrees_holds : Rows.FnExactListTreesSaid := fnExactListTrees.proved
#print axioms fnExactListTrees_holds
end Go.Proofs.Ytcajhmldbkfhiaa
