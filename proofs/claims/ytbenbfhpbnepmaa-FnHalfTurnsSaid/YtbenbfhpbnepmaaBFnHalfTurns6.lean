/- The statement FnHalfTurns of the seat, out of its plain form (FnHalfTurns_pure) and the walk of its Go function. Part 6 of 6: each Go function's walk, then the plain lemmas, then the row. No condition: it holds for every input. -/
import Derived.Test.YtbenbfhpbnepmaaBFnHalfTurns5
import Derived.Test.YtbenbfhpbnepmaaRows
import Derived.Below
import Derived.ChangeOld
import Derived.Deep.Matrix
import Derived.Lib.SmallJoins
import Derived.OpenShut
import Derived.ProofKit
import Derived.ShutString
import Derived.SizedLaws
import Derived.WalkKit
namespace Go.Proofs.Ytbenbfhpbnepmaa.Sup
open Go.ChangeShapes Go.WideShapes Go.ChangeAt Go.RowKit Go.Joins Go.Proofs.YtbenbfhpbnepmaaW.PrintWords
set_option linter.unusedVariables false
set_option linter.unusedSimpArgs false

theorem u8_of_wf {a : Int} (h : (Lit.int .u8 a).wf = true) : 0 ≤ a ∧ a ≤ 255 := by
  simp only [Lit.wf, IntKind.min, IntKind.max, IntKind.signed, IntKind.bits, Bool.and_eq_true, decide_eq_true_eq] at h
  simp at h
  omega

section
variable {H : Type} {enc : TypeId × Value → H} {P : Program} {w : World} {base : Nat} {spare : Nat → Bool} {held : Bool}

end

def IsRow (k : IntKind) (w : World) (a : Option Addr) (len cap : Nat) (zs : List Int) : Prop :=
  (a = none ∧ len = 0 ∧ cap = 0 ∧ zs = []) ∨
  ∃ x, a = some x ∧ len ≤ cap ∧ cap ≤ maxLen ∧ zs.length = cap ∧ (∀ i, i < zs.length → w.cell? (x.add i) = some (.int k (zs.getD i 0))) ∧ ∀ n ∈ zs, (Lit.int k n).wf = true

end Go.Proofs.Ytbenbfhpbnepmaa.Sup
namespace Go.Proofs.Ytbenbfhpbnepmaa.P
open Go.RowKit Go.Proofs.YtbenbfhpbnepmaaW.PrintWords
set_option linter.unusedVariables false
set_option linter.unusedSimpArgs false

theorem l01In_eq (a b c : Int) : spec_l01In.f a b c = some (decide (b ≤ a ∧ a ≤ c)) := by
  unfold spec_l01In.f
  by_cases h : a ≥ b
  · rw [if_pos h]; congr 1; simp; omega
  · rw [if_neg h]; congr 1; simp; omega

end Go.Proofs.Ytbenbfhpbnepmaa.P
namespace Go.Proofs.Ytbenbfhpbnepmaa.P
open Go.RowKit Go.Proofs.YtbenbfhpbnepmaaW.PrintWords Go.Proofs.Ytbenbfhpbnepmaa.Sup
set_option linter.unusedVariables false
set_option linter.unusedSimpArgs false

theorem spec_GridOk_eq (w h : Int) : spec_GridOk.f w h = some (gridOk w h) := by
  unfold spec_GridOk.f
  simp only [l01In_eq, Option.bind_some]
  unfold gridOk
  by_cases h1 : 1 ≤ w ∧ w ≤ 4
  · simp only [h1, and_self, decide_true, if_true, true_and]
  · have : ¬ (1 ≤ w ∧ w ≤ 4 ∧ 1 ≤ h ∧ h ≤ 4) := by omega
    rw [decide_eq_false h1, decide_eq_false this]; simp
theorem impl_GridOk_eq (w h : Int) : impl_GridOk.f w h = some (gridOk w h) := by
  unfold impl_GridOk.f gridOk
  repeat' split
  all_goals congr 1
  all_goals first | (rw [decide_eq_decide]; omega) | (symm; rw [decide_eq_false_iff_not]; omega)

theorem impl_CountCells_eq (w h : Int) : impl_CountCells.f w h = some (cellsOf w h) := by
  unfold impl_CountCells.f
  rw [impl_GridOk_eq, Option.bind_some]
  have := cellsOf_range w h
  unfold cellsOf at *
  by_cases hg : gridOk w h = true
  · rw [if_pos hg] at *
    rw [if_pos hg, wrap64_id (by omega) (by omega)]
  · rw [if_neg hg, if_neg hg]
theorem spec_CountCells_eq (w h : Int) : spec_CountCells.f w h = some (cellsOf w h) := by
  unfold spec_CountCells.f
  rw [spec_GridOk_eq, Option.bind_some]
  have := cellsOf_range w h
  unfold cellsOf at *
  by_cases hg : gridOk w h = true
  · rw [if_pos hg] at *
    rw [if_pos hg, wrap64_id (by omega) (by omega)]
  · rw [if_neg hg, if_neg hg]
theorem impl_CountGaps_eq (w h : Int) : impl_CountGaps.f w h = some (gapsOf w h) := by
  unfold impl_CountGaps.f
  rw [impl_GridOk_eq, Option.bind_some]
  unfold gapsOf
  by_cases hg : gridOk w h = true
  · rw [if_pos hg, if_pos hg]
    obtain ⟨h1 | h1 | h1 | h1, h2 | h2 | h2 | h2⟩ := grid_cases hg <;> subst h1 <;> subst h2 <;> simp [wrap64, eastOf]
  · rw [if_neg hg, if_neg hg]
theorem spec_l02East_eq {w h : Int} (hg : gridOk w h = true) : spec_l02East.f w h = some (eastOf w h) := by
  unfold spec_l02East.f eastOf
  obtain ⟨h1 | h1 | h1 | h1, h2 | h2 | h2 | h2⟩ := grid_cases hg <;> subst h1 <;> subst h2 <;> simp [wrap64, eastOf]
theorem spec_CountGaps_eq (w h : Int) : spec_CountGaps.f w h = some (gapsOf w h) := by
  unfold spec_CountGaps.f
  rw [spec_GridOk_eq, Option.bind_some]
  unfold gapsOf
  by_cases hg : gridOk w h = true
  · rw [if_pos hg, if_pos hg, spec_l02East_eq hg, Option.bind_some]
    obtain ⟨h1 | h1 | h1 | h1, h2 | h2 | h2 | h2⟩ := grid_cases hg <;> subst h1 <;> subst h2 <;> simp [wrap64, eastOf]
  · rw [if_neg hg, if_neg hg]

/-- 2 to the power of a small number. -/
theorem shl_one {n : Int} (h0 : 0 ≤ n) (h1 : n ≤ 24) : shl .i64 1 n = 2 ^ n.toNat := by
  obtain ⟨m, rfl⟩ := Int.eq_ofNat_of_zero_le h0
  have : m ≤ 24 := by omega
  clear h0 h1
  revert m
  decide +kernel
end Go.Proofs.Ytbenbfhpbnepmaa.P
namespace Go.Proofs.Ytbenbfhpbnepmaa.P
open Go.RowKit Go.Proofs.YtbenbfhpbnepmaaW.PrintWords
set_option linter.unusedVariables false
set_option linter.unusedSimpArgs false

theorem impl_isCell_eq (w h c : Int) : impl_isCell.f w h c = some (isCellI w h c) := by
  unfold impl_isCell.f isCellI
  rw [impl_CountCells_eq]
  by_cases hc : c ≥ 0
  · rw [if_pos hc, Option.bind_some]; congr 1; rw [decide_eq_decide]; omega
  · rw [if_neg hc]; congr 1; symm; rw [decide_eq_false_iff_not]; omega
theorem impl_Neighbor_ev (w h c d : Int) : Ev (fun k => impl_Neighbor.f k w h c d) (nbI w h c d) := by
  unfold impl_Neighbor.f nbI
  refine Ev.bnd0 (impl_isCell_eq w h c) ?_
  unfold isCellI
  by_cases hc : 0 ≤ c ∧ c < cellsOf w h
  · rw [if_pos hc]
    obtain ⟨hg, hcw⟩ := cellsOf_valid hc.1 hc.2
    have hcr := cellsOf_range w h
    have hgr := gridOk_iff.1 hg
    refine Ev.tt (by simpa using hc) (Ev.ff (by omega) ?_)
    have hx0 : 0 ≤ c % w := Int.emod_nonneg _ (by omega)
    have hx1 : c % w < w := Int.emod_lt_of_pos _ (by omega)
    have hy0 : 0 ≤ c / w := Int.ediv_nonneg hc.1 (by omega)
    have hy1 : c / w ≤ c := Int.ediv_le_self _ hc.1
    rw [Int.tmod_eq_emod_of_nonneg hc.1, Int.tdiv_eq_ediv_of_nonneg hc.1, wrap64_id (x := c / w) (by omega) (by omega)]
    generalize c % w = x at *
    generalize c / w = y at *
    have j2 : ∀ b : Bool, (d ≠ 0 ∨ ¬ 0 < y) → (d ≠ 1 ∨ ¬ x < w - 1) → (b = true ↔ d = 2 ∧ y < h - 1) → Ev (fun k => impl_Neighbor.j2 k c d x b w h) (if d = 2 ∧ y < h - 1 then c + w else if d = 3 ∧ 0 < x then c - 1 else -1) := by
      intro b _ _ hb
      refine Ev.step (fun _ => impl_Neighbor.j2.eq_2 ..) ?_
      refine Ev.ite (fun e => ?_) (fun e => ?_)
      · rw [if_pos (hb.1 e), wrap64_id (by omega) (by omega)]; exact Ev.ret rfl
      · rw [if_neg (fun h => e (hb.2 h))]
        refine Ev.ite (fun e3 => Ev.ite (fun e4 => ?_) (fun e4 => ?_)) (fun e3 => ?_)
        · rw [if_pos ⟨e3, e4⟩, wrap64_id (by omega) (by omega)]; exact Ev.ret rfl
        · rw [if_neg (fun h => e4 h.2)]; exact Ev.ret rfl
        · rw [if_neg (fun h => e3 h.1)]; exact Ev.ret rfl
    have j1 : ∀ b : Bool, (d ≠ 0 ∨ ¬ 0 < y) → (b = true ↔ d = 1 ∧ x < w - 1) → Ev (fun k => impl_Neighbor.j1 k c d x y b w h) (if d = 1 ∧ x < w - 1 then c + 1 else if d = 2 ∧ y < h - 1 then c + w else if d = 3 ∧ 0 < x then c - 1 else -1) := by
      intro b h0 hb
      refine Ev.step (fun _ => impl_Neighbor.j1.eq_2 ..) ?_
      refine Ev.ite (fun e => ?_) (fun e => ?_)
      · rw [if_pos (hb.1 e), wrap64_id (by omega) (by omega)]; exact Ev.ret rfl
      · have hn : ¬ (d = 1 ∧ x < w - 1) := fun h => e (hb.2 h)
        rw [if_neg hn]
        refine Ev.ite (fun e2 => ?_) (fun e2 => ?_)
        · refine j2 _ h0 (by omega) ?_
          rw [wrap64_id (by omega) (by omega)]
          simp [e2]
        · exact j2 _ h0 (by omega) (by simp [e2])
    have j0 : ∀ b : Bool, (b = true ↔ d = 0 ∧ 0 < y) → Ev (fun k => impl_Neighbor.j0 k c d x y b w h) (if d = 0 ∧ 0 < y then c - w else if d = 1 ∧ x < w - 1 then c + 1 else if d = 2 ∧ y < h - 1 then c + w else if d = 3 ∧ 0 < x then c - 1 else -1) := by
      intro b hb
      refine Ev.step (fun _ => impl_Neighbor.j0.eq_2 ..) ?_
      refine Ev.ite (fun e => ?_) (fun e => ?_)
      · rw [if_pos (hb.1 e), wrap64_id (by omega) (by omega)]; exact Ev.ret rfl
      · have hn : ¬ (d = 0 ∧ 0 < y) := fun h => e (hb.2 h)
        rw [if_neg hn]
        refine Ev.ite (fun e2 => ?_) (fun e2 => ?_)
        · refine j1 _ (by omega) ?_
          rw [wrap64_id (by omega) (by omega)]
          simp [e2]
        · exact j1 _ (by omega) (by simp [e2])
    refine Ev.ite (fun e => ?_) (fun e => ?_)
    · exact j0 _ (by simp [e])
    · exact j0 _ (by simp [e])
  · rw [if_neg hc]
    exact Ev.ff (by simpa using hc) (Ev.ret rfl)
theorem impl_MazeOk_eq (w h o : Int) : impl_MazeOk.f w h o = some (mazeOk w h o) := by
  have hc := gapsOf_range w h
  unfold impl_MazeOk.f mazeOk gapsN
  rw [impl_GridOk_eq, Option.bind_some]
  cases hg : gridOk w h
  · simp
  · rw [if_pos rfl, impl_CountGaps_eq, Option.bind_some, if_pos hc.1, shl_one hc.1 hc.2]
    simp only [Bool.true_and]
    split
    · congr 1; rw [decide_eq_decide]; omega
    · congr 1; symm; rw [decide_eq_false_iff_not]; omega
theorem impl_isOpen_eq (w h : Int) {n : Nat} (hn : n < 16777216) (g : Int) : impl_isOpen.f w h n g = some (openI n g) := by
  unfold impl_isOpen.f openI
  by_cases hg : g ≥ 0
  · rw [if_pos hg, if_pos hg]
    obtain ⟨m, rfl⟩ := Int.eq_ofNat_of_zero_le hg
    rw [bit_one (by omega)]
    simp
  · rw [if_neg hg]
    simp; omega
theorem impl_isGap_eq (w h g : Int) : impl_isGap.f w h g = some (isGapI w h g) := by
  unfold impl_isGap.f isGapI
  rw [impl_CountGaps_eq]
  by_cases hc : g ≥ 0
  · rw [if_pos hc, Option.bind_some]; congr 1; rw [decide_eq_decide]; omega
  · rw [if_neg hc]; congr 1; symm; rw [decide_eq_false_iff_not]; omega
/-! Sixteen small graphs: facts that are looked through -/
theorem impl_GapAt_ev (w h c d : Int) : Ev (fun k => impl_GapAt.f k w h c d) (gapI w h c d) := by
  unfold impl_GapAt.f gapI
  refine Ev.bind (impl_Neighbor_ev w h c d) ?_
  by_cases hn : nbI w h c d < 0
  · rw [if_pos hn, if_pos hn]
    exact Ev.ret rfl
  · rw [if_neg hn, if_neg hn]
    obtain ⟨hd, h0, h1⟩ := nb_dir (by omega : 0 ≤ nbI w h c d)
    obtain ⟨hg, hcw⟩ := cellsOf_valid h0 h1
    have hcr := cellsOf_range w h
    have hgr := gridOk_iff.1 hg
    have hlt := nb_lt (w := w) (h := h) (c := c) (d := d)
    have hmn : mn c (nbI w h c d) = min c (nbI w h c d) := by unfold mn; omega
    rw [hmn]
    have hm0 : 0 ≤ min c (nbI w h c d) := by omega
    have hm1 : min c (nbI w h c d) ≤ 15 := by omega
    generalize min c (nbI w h c d) = m at *
    have ha0 : 0 ≤ m / w := Int.ediv_nonneg hm0 (by omega)
    have ha1 : m / w ≤ m := Int.ediv_le_self _ hm0
    have hb0 : 0 ≤ m % w := Int.emod_nonneg _ (by omega)
    have hb1 : m % w < w := Int.emod_lt_of_pos _ (by omega)
    have hp0 : 0 ≤ m / w * (w - 1) := Int.mul_nonneg ha0 (by omega)
    have hp1 : m / w * (w - 1) ≤ 15 * 3 := Int.mul_le_mul (by omega) (by omega) (by omega) (by omega)
    have hq0 : 0 ≤ (w - 1) * h := Int.mul_nonneg (by omega) (by omega)
    have hq1 : (w - 1) * h ≤ 3 * 4 := Int.mul_le_mul (by omega) (by omega) (by omega) (by omega)
    rw [Int.tmod_eq_emod_of_nonneg hm0, Int.tdiv_eq_ediv_of_nonneg hm0, wrap64_id (x := m / w) (by omega) (by omega), wrap64_id (x := w - 1) (by omega) (by omega), wrap64_id (x := m / w * (w - 1)) (by omega) (by omega), wrap64_id (x := m / w * (w - 1) + m % w) (by omega) (by omega)]
    refine Ev.ite (fun e => Ev.ff (by omega) ?_) (fun e => Ev.ite (fun e3 => Ev.ff (by omega) ?_) (fun e3 => ?_))
    · rw [if_pos (.inl e)]; exact Ev.ret rfl
    · rw [if_pos (.inr e3)]; exact Ev.ret rfl
    · rw [if_neg (by omega)]
      rw [wrap64_id (x := (w - 1) * h) (by omega) (by omega), wrap64_id (by omega) (by omega)]
      exact Ev.ret rfl
theorem impl_EndsOf_eq (w h g : Int) : impl_EndsOf.f w h g = some (endsI w h g) := by
  unfold impl_EndsOf.f endsI
  rw [impl_isGap_eq, Option.bind_some]
  unfold isGapI
  by_cases hc : 0 ≤ g ∧ g < gapsOf w h
  · rw [if_pos hc, if_pos (by simpa using hc)]
    obtain ⟨hg, hgw⟩ := gapsOf_valid hc.1 hc.2
    have hgr := gridOk_iff.1 hg
    have hrr := gapsOf_range w h
    have hq0 : 0 ≤ (w - 1) * h := Int.mul_nonneg (by omega) (by omega)
    have hq1 : (w - 1) * h ≤ 3 * 4 := Int.mul_le_mul (by omega) (by omega) (by omega) (by omega)
    have hw1 : w - 1 = 0 → (w - 1) * h = 0 := fun e => by rw [e, Int.zero_mul]
    rw [wrap64_id (x := w - 1) (by omega) (by omega), wrap64_id (x := (w - 1) * h) (by omega) (by omega)]
    by_cases hlt : g < (w - 1) * h
    · rw [if_pos hlt, if_neg (by omega)]
      have hne : w - 1 ≠ 0 := fun e => by have := hw1 e; omega
      have ha0 : 0 ≤ g / (w - 1) := Int.ediv_nonneg hc.1 (by omega)
      have ha1 : g / (w - 1) ≤ g := Int.ediv_le_self _ hc.1
      have hb0 : 0 ≤ g % (w - 1) := Int.emod_nonneg _ (by omega)
      have hb1 : g % (w - 1) < w - 1 := Int.emod_lt_of_pos _ (by omega)
      have hp0 : 0 ≤ g / (w - 1) * w := Int.mul_nonneg ha0 (by omega)
      have hp1 : g / (w - 1) * w ≤ 23 * 4 := Int.mul_le_mul (by omega) (by omega) (by omega) (by omega)
      rw [if_neg hne, Int.tmod_eq_emod_of_nonneg hc.1, Int.tdiv_eq_ediv_of_nonneg hc.1, wrap64_id (x := g / (w - 1)) (by omega) (by omega), wrap64_id (x := g / (w - 1) * w) (by omega) (by omega), wrap64_id (x := g / (w - 1) * w + g % (w - 1)) (by omega) (by omega), wrap64_id (by omega) (by omega)]
    · rw [if_neg hlt, if_pos (by omega)]
      rw [wrap64_id (x := g - (w - 1) * h) (by omega) (by omega), wrap64_id (by omega) (by omega)]
  · rw [if_neg hc, if_neg (by simpa using hc)]
theorem spec_EndsOf_eq (w h g : Int) : spec_EndsOf.f w h g = some (endsI w h g) := by
  unfold spec_EndsOf.f endsI
  have hr0 := gapsOf_range w h
  rw [spec_CountGaps_eq, Option.bind_some, wrap64_id (x := gapsOf w h - 1) (by omega) (by omega), l01In_eq, Option.bind_some]
  by_cases hc : 0 ≤ g ∧ g < gapsOf w h
  · rw [if_pos hc, if_pos (by simp; omega)]
    obtain ⟨hg, hgw⟩ := gapsOf_valid hc.1 hc.2
    have hgr := gridOk_iff.1 hg
    have hrr := gapsOf_range w h
    have hq0 : 0 ≤ (w - 1) * h := Int.mul_nonneg (by omega) (by omega)
    have hq1 : (w - 1) * h ≤ 3 * 4 := Int.mul_le_mul (by omega) (by omega) (by omega) (by omega)
    have hw1 : w - 1 = 0 → (w - 1) * h = 0 := fun e => by rw [e, Int.zero_mul]
    rw [spec_l02East_eq hg]
    unfold eastOf
    simp only [Option.bind_some]
    rw [wrap64_id (x := w - 1) (by omega) (by omega)]
    by_cases hlt : g < (w - 1) * h
    · rw [if_pos hlt, if_pos hlt]
      have hne : w - 1 ≠ 0 := fun e => by have := hw1 e; omega
      have ha0 : 0 ≤ g / (w - 1) := Int.ediv_nonneg hc.1 (by omega)
      have ha1 : g / (w - 1) ≤ g := Int.ediv_le_self _ hc.1
      have hb0 : 0 ≤ g % (w - 1) := Int.emod_nonneg _ (by omega)
      have hb1 : g % (w - 1) < w - 1 := Int.emod_lt_of_pos _ (by omega)
      have hp0 : 0 ≤ g / (w - 1) * w := Int.mul_nonneg ha0 (by omega)
      have hp1 : g / (w - 1) * w ≤ 23 * 4 := Int.mul_le_mul (by omega) (by omega) (by omega) (by omega)
      rw [if_neg hne, Int.tmod_eq_emod_of_nonneg hc.1, Int.tdiv_eq_ediv_of_nonneg hc.1, wrap64_id (x := g / (w - 1)) (by omega) (by omega), wrap64_id (x := g / (w - 1) * w) (by omega) (by omega), wrap64_id (x := g / (w - 1) * w + g % (w - 1)) (by omega) (by omega), wrap64_id (by omega) (by omega)]
    · rw [if_neg hlt, if_neg hlt]
      rw [wrap64_id (x := g - (w - 1) * h) (by omega) (by omega), wrap64_id (by omega) (by omega)]
  · rw [if_neg hc, if_neg (by simp; omega)]
theorem impl_with_eq (w h : Int) {n : Nat} (hn : n < 16777216) {g : Nat} (hg : g < 24) (b : Bool) : impl_with.f w h n g b = some (w, h, ((setB n g b : Nat) : Int)) := by
  have hp : 2 ^ g ≤ 2 ^ 24 := Nat.pow_le_pow_right (by decide) (by omega)
  unfold impl_with.f
  rw [if_pos (by omega), shl_pow (by omega), bits_andNot (by omega) (by omega)]
  cases b
  · rw [if_neg (by decide)]
    rfl
  · rw [if_pos rfl, bits_or (by have := andNot_le n (2 ^ g); omega) (by omega)]
    have e : andNot n (2 ^ g) ||| 2 ^ g = setB n g true := by
      apply Nat.eq_of_testBit_eq
      intro i
      rw [testBit_setB, Nat.testBit_or, testBit_andNot, Nat.testBit_two_pow]
      by_cases h : i = g
      · simp [h]
      · simp [h, show ¬ g = i from fun e => h e.symm]
    rw [e]
end Go.Proofs.Ytbenbfhpbnepmaa.P
namespace Go.Proofs.Ytbenbfhpbnepmaa.P
open Go.RowKit Go.Proofs.YtbenbfhpbnepmaaW.PrintWords
set_option linter.unusedVariables false
set_option linter.unusedSimpArgs false

section
variable {Fo : Int → Option Int} {F : Int → Int} {w h w2 h2 : Int} {n : Nat}
theorem moved_l1 {g o : Nat} {r : Int × Int × Int} (hg : g < gapsN w h) (hm : moves F w h w2 h2) (ho : o < 2 ^ gapsN w2 h2)
    (ha : Fo (endsI w h g).1 = some (F (endsI w h g).1)) (hb : Fo (endsI w h g).2 = some (F (endsI w h g).2))
    (hc : Ev (fun k => impl_moved.l0 Fo k ((g + 1 : Nat) : Int) w h n w2 h2 w2 h2 ((setB o (gapMv F w h w2 h2 g) true : Nat) : Int)) r) : ∀ e d : Nat, 4 - d = e → d ≤ 4 →
    Ev (fun k => impl_moved.l1 Fo k g (endsI w h g).1 (endsI w h g).2 d w h n w2 h2 w2 h2 ((if d ≤ dirOf w2 h2 (F (endsI w h g).1) (F (endsI w h g).2) then o else setB o (gapMv F w h w2 h2 g) true : Nat) : Int)) r
  | 0, d, he, hd => by
    have hl := gapsN_le w h
    have hD := dirOf_lt w2 h2 (F (endsI w h g).1) (F (endsI w h g).2)
    refine Ev.step (fun _ => impl_moved.l1.eq_2 ..) (Ev.ff (by omega) ?_)
    rw [wsucc (by omega), if_neg (by omega)]
    exact hc
  | e + 1, d, he, hd => by
    have hl := gapsN_le w h
    have hl2 := gapsN_le w2 h2
    obtain ⟨h1, h2'⟩ := gapMv_lt hm hg
    obtain ⟨_, _, f3, f4, _, _⟩ := fits_iff (hm g (by have := gapsN_cast w h; omega))
    have ih := moved_l1 hg hm ho ha hb hc e (d + 1) (by omega) (by omega)
    refine Ev.step (fun _ => impl_moved.l1.eq_2 ..) (Ev.tt (by omega) (Ev.bnd0 ha (Ev.bind (impl_Neighbor_ev ..) (Ev.bnd0 hb ?_))))
    rw [wsucc (by omega)]
    refine Ev.ite (fun e1 => ?_) (fun e1 => ?_)
    · obtain rfl := f4 d (by omega) e1
      rw [if_neg (by omega)] at ih
      rw [if_pos (Nat.le_refl _)]
      refine Ev.bnd0 ha (Ev.bind (impl_GapAt_ev ..) ?_)
      rw [← h2']
      exact Ev.bnd0 (impl_with_eq w2 h2 (open_small ho) (by omega) true) ih
    · have hne : d ≠ dirOf w2 h2 (F (endsI w h g).1) (F (endsI w h g).2) := fun e2 => e1 (by rw [e2]; exact f3)
      by_cases hle : d ≤ dirOf w2 h2 (F (endsI w h g).1) (F (endsI w h g).2)
      · rw [if_pos (by omega)] at ih
        rw [if_pos hle]
        exact ih
      · rw [if_neg (by omega)] at ih
        rw [if_neg hle]
        exact ih
theorem impl_moved_l0 (hn : n < 2 ^ gapsN w h) (hm : moves F w h w2 h2) (hF : ∀ c, 0 ≤ c → c < cellsOf w h → Fo c = some (F c)) : ∀ (d g o : Nat), g + d = gapsN w h → o < 2 ^ gapsN w2 h2 →
    Ev (fun k => impl_moved.l0 Fo k g w h n w2 h2 w2 h2 o) (w2, h2, ((mvFrom F w h w2 h2 n d g o : Nat) : Int))
  | 0, g, o, hd, ho => by
    have hc := gapsN_cast w h
    refine Ev.step (fun _ => impl_moved.l0.eq_2 ..) (Ev.bnd0 (impl_CountGaps_eq w h) ?_)
    exact Ev.ff (by omega) (Ev.ret rfl)
  | d + 1, g, o, hd, ho => by
    have hc := gapsN_cast w h
    have hl := gapsN_le w h
    obtain ⟨e0, e1, e2, _⟩ := end_facts (w := w) (h := h) (g := g) (by omega) (by omega)
    have ih := impl_moved_l0 hn hm hF d (g + 1) (mvStep F w h w2 h2 n o g) (by omega) (mvStep_lt hm (by omega) ho)
    refine Ev.step (fun _ => impl_moved.l0.eq_2 ..) (Ev.bnd0 (impl_CountGaps_eq w h) ?_)
    refine Ev.tt (by omega) (Ev.bnd0 (impl_isOpen_eq w h (open_small hn) g) ?_)
    rw [openI_nat']
    show Ev _ (w2, h2, ((mvFrom F w h w2 h2 n d (g + 1) (mvStep F w h w2 h2 n o g) : Nat) : Int))
    unfold mvStep at ih ⊢
    cases ht : n.testBit g
    · rw [ht] at ih
      refine Ev.ff (by simp) ?_
      rw [wsucc (by omega)]
      exact ih
    · rw [ht, if_pos rfl] at ih
      refine Ev.tt rfl (Ev.bnd0 (impl_EndsOf_eq w h g) ?_)
      rw [if_pos rfl]
      have := moved_l1 (n := n) (g := g) (by omega) hm ho (hF _ e0 (by omega)) (hF _ (by omega) e2) ih 4 0 rfl (by omega)
      rw [if_pos (Nat.zero_le _)] at this
      exact this
theorem impl_moved_ev (hn : n < 2 ^ gapsN w h) (hm : moves F w h w2 h2) (hF : ∀ c, 0 ≤ c → c < cellsOf w h → Fo c = some (F c)) (a2 : Int) :
    Ev (fun k => impl_moved.f Fo k w h n w2 h2 a2) (w2, h2, ((moved F w h w2 h2 n : Nat) : Int)) := impl_moved_l0 hn hm hF _ 0 0 (by omega) (Nat.two_pow_pos _)
end
end Go.Proofs.Ytbenbfhpbnepmaa.P
namespace Go.Proofs.Ytbenbfhpbnepmaa.P
open Go.RowKit Go.Proofs.YtbenbfhpbnepmaaW.PrintWords
set_option linter.unusedVariables false
set_option linter.unusedSimpArgs false

def upd (D : Nat → Int) (y : Nat) (v : Int) : Nat → Int := fun c => if c = y then v else D c
/-- One direction of one cell. -/
def relax (s : Nat → Nat → Int) (x d : Nat) (S : (Nat → Int) × List Nat) : (Nat → Int) × List Nat :=
  if 0 ≤ s x d ∧ S.1 (s x d).toNat < 0 then (upd S.1 (s x d).toNat (S.1 x + 1), S.2 ++ [(s x d).toNat]) else S
def bround (s : Nat → Nat → Int) (x : Nat) (S : (Nat → Int) × List Nat) : (Nat → Int) × List Nat := relax s x 3 (relax s x 2 (relax s x 1 (relax s x 0 S)))
def bfsF (s : Nat → Nat → Int) : Nat → (Nat → Int) × List Nat → Nat → (Nat → Int)
  | 0, S, _ => S.1
  | f + 1, S, i => match S.2[i]? with
    | none => S.1
    | some x => bfsF s f (bround s x S) (i + 1)
/-- The distances from a cell, or -1. -/
def bfsD (s : Nat → Nat → Int) (v src : Nat) : Nat → Int := bfsF s (v + 1) (upd (fun _ => -1) src 0, [src]) 0
/-- Steps stay among v cells. -/
def Rng (s : Nat → Nat → Int) (v : Nat) : Prop := ∀ x d, x < v → d < 4 → s x d = -1 ∨ (0 ≤ s x d ∧ s x d < (v : Int))

structure BInv (s : Nat → Nat → Int) (v src : Nat) (S : (Nat → Int) × List Nat) (i : Nat) (m : Nat) : Prop where
  src0 : S.1 src = 0
  zero : ∀ c, S.1 c = 0 → c = src
  srcq : src ∈ S.2
  inr : ∀ c ∈ S.2, c < v
  nodup : S.2.Nodup
  neg : ∀ c, S.1 c = -1 ∨ 0 ≤ S.1 c
  mem : ∀ c, 0 ≤ S.1 c ↔ c ∈ S.2
  sorted : S.2.Pairwise (fun a b => S.1 a ≤ S.1 b)
  top : ∀ x, S.2[i]? = some x → ∀ c ∈ S.2, S.1 c ≤ S.1 x + 1
  done : ∀ j x, S.2[j]? = some x → ∀ d, d < 4 → (j < i ∨ (j = i ∧ d < m)) → 0 ≤ s x d → 0 ≤ S.1 (s x d).toNat ∧ S.1 (s x d).toNat ≤ S.1 x + 1
  pred : ∀ c ∈ S.2, c = src ∨ ∃ c' d, c' ∈ S.2 ∧ d < 4 ∧ s c' d = (c : Int) ∧ S.1 c = S.1 c' + 1
theorem BInv.start {s : Nat → Nat → Int} {v src : Nat} (h : src < v) : BInv s v src (upd (fun _ => -1) src 0, [src]) 0 0 where
  src0 := by simp [upd]
  zero := fun c => by simp only [upd]; split <;> simp_all
  srcq := by simp
  inr := by simpa using h
  nodup := by simp
  neg := fun c => by simp only [upd]; split <;> simp
  mem := fun c => by
    simp only [upd, List.mem_singleton]
    split
    · rename_i e; simp [e]
    · rename_i e; simp [e]
  sorted := by simp
  top := fun x hx c hc => by
    simp at hx hc
    subst hx hc
    omega
  done := fun j x hx d hd hj => by omega
  pred := fun c hc => .inl (by simpa using hc)
theorem BInv.relax {s : Nat → Nat → Int} {v src : Nat} (hs : Rng s v) {S : (Nat → Int) × List Nat} {i m x : Nat} (hm : m < 4) (hx : S.2[i]? = some x) (I : BInv s v src S i m) :
    BInv s v src (relax s x m S) i (m + 1) ∧ (relax s x m S).2[i]? = some x := by
  have hxq : x ∈ S.2 := List.mem_of_getElem? hx
  have hi : i < S.2.length := by
    rcases Nat.lt_or_ge i S.2.length with h | h
    · exact h
    · rw [List.getElem?_eq_none h] at hx; cases hx
  have hxv := I.inr x hxq
  have hx0 := (I.mem x).2 hxq
  unfold Go.Proofs.Ytbenbfhpbnepmaa.P.relax
  by_cases hc : 0 ≤ s x m ∧ S.1 (s x m).toNat < 0
  · rw [if_pos hc]
    obtain ⟨y, hy⟩ : ∃ y : Nat, s x m = y := ⟨(s x m).toNat, by omega⟩
    have hyv : y < v := by have := hs x m hxv hm; omega
    rw [hy] at hc ⊢
    simp only [Int.toNat_natCast] at hc ⊢
    have hyq : y ∉ S.2 := fun h => by have := (I.mem y).2 h; omega
    have keep : ∀ c, c ∈ S.2 → upd S.1 y (S.1 x + 1) c = S.1 c := by
      intro c h
      unfold upd
      rw [if_neg]
      rintro rfl
      exact hyq h
    have uy : upd S.1 y (S.1 x + 1) y = S.1 x + 1 := by unfold upd; rw [if_pos rfl]
    have idx : ∀ j z, (S.2 ++ [y])[j]? = some z → S.2[j]? = some z ∨ (j = S.2.length ∧ z = y) := by
      intro j z h
      rcases Nat.lt_or_ge j S.2.length with h1 | h1
      · rw [List.getElem?_append_left h1] at h; exact .inl h
      · rw [List.getElem?_append_right h1] at h
        have : j - S.2.length = 0 := by
          rcases Nat.eq_zero_or_pos (j - S.2.length) with h2 | h2
          · exact h2
          · rw [List.getElem?_eq_none (by simp only [List.length_singleton]; omega)] at h; cases h
        rw [this] at h
        simp at h
        exact .inr ⟨by omega, h.symm⟩
    have I0 : ∀ c, (upd S.1 y (S.1 x + 1), S.2 ++ [y]).1 c = 0 → c = src := by
      intro c
      show upd _ _ _ c = 0 → _
      unfold upd
      split
      · intro h; omega
      · exact I.zero c
    refine ⟨{ src0 := ?_, zero := I0, srcq := ?_, inr := ?_, nodup := ?_, neg := ?_, mem := ?_, sorted := ?_, top := ?_, done := ?_, pred := ?_ }, by rw [List.getElem?_append_left hi]; exact hx⟩
    · show upd _ _ _ src = 0
      rw [keep _ I.srcq]; exact I.src0
    · exact List.mem_append_left _ I.srcq
    · intro c hcq
      rcases List.mem_append.1 hcq with h | h
      · exact I.inr c h
      · simp at h; omega
    · rw [List.nodup_append]
      refine ⟨I.nodup, by simp, ?_⟩
      intro a ha b hb hab
      simp at hb
      subst hab hb
      exact hyq ha
    · intro c
      show upd _ _ _ c = -1 ∨ 0 ≤ upd _ _ _ c
      by_cases e : c = y
      · subst e; rw [uy]; omega
      · rw [show upd S.1 y (S.1 x + 1) c = S.1 c from if_neg e]; exact I.neg c
    · intro c
      rw [List.mem_append, List.mem_singleton]
      show 0 ≤ upd _ _ _ c ↔ _
      unfold upd
      by_cases e : c = y
      · rw [if_pos e]; exact ⟨fun _ => .inr e, fun _ => by omega⟩
      · rw [if_neg e, I.mem]; simp [e]
    · rw [List.pairwise_append]
      refine ⟨I.sorted.imp_of_mem fun {a b} ha hb h => ?_, by simp, ?_⟩
      · show upd _ _ _ a ≤ upd _ _ _ b
        rw [keep a ha, keep b hb]; exact h
      · intro a ha b hb
        simp at hb
        subst hb
        show upd _ _ _ a ≤ upd _ _ _ b
        rw [keep a ha, uy]
        exact I.top x hx a ha
    · intro z hz c hcq
      rw [List.getElem?_append_left hi, hx] at hz
      obtain rfl := Option.some.inj hz
      show upd _ _ _ c ≤ upd _ _ _ x + 1
      rw [keep x hxq]
      rcases List.mem_append.1 hcq with h | h
      · rw [keep c h]; exact I.top x hx c h
      · simp at h; subst h; rw [uy]; omega
    · intro j z hz d hd hj h0
      rcases idx j z hz with h | ⟨h, _⟩
      · have hzq : z ∈ S.2 := List.mem_of_getElem? h
        show 0 ≤ upd _ _ _ _ ∧ upd _ _ _ _ ≤ upd _ _ _ z + 1
        rw [keep z hzq]
        by_cases e : j = i ∧ d = m
        · obtain ⟨rfl, rfl⟩ := e
          rw [hx] at h
          obtain rfl := Option.some.inj h
          rw [hy, Int.toNat_natCast, uy]
          omega
        · have := I.done j z h d hd (by omega) h0
          have h1 := (I.mem _).1 this.1
          rw [keep _ h1]
          exact this
      · omega
    · intro c hcq
      rcases List.mem_append.1 hcq with h | h
      · rcases I.pred c h with h1 | ⟨c', d, h1, h2, h3, h4⟩
        · exact .inl h1
        · refine .inr ⟨c', d, List.mem_append_left _ h1, h2, h3, ?_⟩
          show upd _ _ _ c = upd _ _ _ c' + 1
          rw [keep c h, keep c' h1]; exact h4
      · simp at h
        subst h
        refine .inr ⟨x, m, List.mem_append_left _ hxq, hm, hy, ?_⟩
        show upd _ _ _ c = upd _ _ _ x + 1
        rw [uy, keep x hxq]
  · rw [if_neg hc]
    refine ⟨{ I with done := ?_ }, hx⟩
    intro j z hz d hd hj h0
    by_cases e : j = i ∧ d = m
    · obtain ⟨rfl, rfl⟩ := e
      rw [hx] at hz
      obtain rfl := Option.some.inj hz
      have h1 : 0 ≤ S.1 (s x d).toNat := by
        have := I.neg (s x d).toNat
        omega
      exact ⟨h1, I.top x hx _ ((I.mem _).1 h1)⟩
    · exact I.done j z hz d hd (by omega) h0
theorem BInv.next {s : Nat → Nat → Int} {v src : Nat} {S : (Nat → Int) × List Nat} {i x : Nat} (hx : S.2[i]? = some x) (I : BInv s v src S i 4) : BInv s v src S (i + 1) 0 :=
  { I with
    top := fun z hz c hc => by
      have h1 := I.top x hx c hc
      have h2 := List.pairwise_iff_getElem.1 I.sorted i (i + 1)
      obtain ⟨a, rfl⟩ := List.getElem?_eq_some_iff.1 hx
      obtain ⟨b, rfl⟩ := List.getElem?_eq_some_iff.1 hz
      have := h2 a b (by omega)
      omega
    done := fun j z hz d hd hj h0 => I.done j z hz d hd (by omega) h0 }
theorem BInv.round {s : Nat → Nat → Int} {v src : Nat} (hs : Rng s v) {S : (Nat → Int) × List Nat} {i x : Nat} (hx : S.2[i]? = some x) (I : BInv s v src S i 0) : BInv s v src (bround s x S) (i + 1) 0 := by
  obtain ⟨I1, h1⟩ := I.relax hs (by omega) hx
  obtain ⟨I2, h2⟩ := I1.relax hs (by omega) h1
  obtain ⟨I3, h3⟩ := I2.relax hs (by omega) h2
  obtain ⟨I4, h4⟩ := I3.relax hs (by omega) h3
  exact I4.next h4
theorem nodup_len {v : Nat} : ∀ {q : List Nat}, q.Nodup → (∀ c ∈ q, c < v) → q.length ≤ v := by
  induction v with
  | zero =>
    intro q _ h
    cases q with
    | nil => simp
    | cons a l => have := h a (by simp); omega
  | succ v ih =>
    intro q hn h
    have h1 := ih (q := q.erase v) (hn.erase v) (fun c hc => by
      have h1 := h c (List.mem_of_mem_erase hc)
      have : c ≠ v := by rintro rfl; exact absurd hc (List.Nodup.not_mem_erase hn)
      omega)
    have h2 := List.length_erase (a := v) (l := q)
    split at h2 <;> omega
theorem BInv.len {s : Nat → Nat → Int} {v src : Nat} {S : (Nat → Int) × List Nat} {i m : Nat} (I : BInv s v src S i m) : S.2.length ≤ v := nodup_len I.nodup I.inr
/-- What distances are. -/
structure Dist (s : Nat → Nat → Int) (v src : Nat) (D : Nat → Int) : Prop where
  src0 : D src = 0
  zero : ∀ c, D c = 0 → c = src
  neg : ∀ c, D c = -1 ∨ 0 ≤ D c
  inr : ∀ c, 0 ≤ D c → c < v
  lip : ∀ x d, d < 4 → 0 ≤ D x → 0 ≤ s x d → 0 ≤ D (s x d).toNat ∧ D (s x d).toNat ≤ D x + 1
  pred : ∀ c, 0 < D c → ∃ c' d, d < 4 ∧ s c' d = (c : Int) ∧ 0 ≤ D c' ∧ D c = D c' + 1
theorem BInv.dist {s : Nat → Nat → Int} {v src : Nat} {S : (Nat → Int) × List Nat} {i : Nat} (hi : S.2[i]? = none) (I : BInv s v src S i 0) : Dist s v src S.1 where
  src0 := I.src0
  zero := I.zero
  neg := I.neg
  inr := fun c h => I.inr c ((I.mem c).1 h)
  lip := fun x d hd hx h0 => by
    obtain ⟨j, hj⟩ := List.mem_iff_getElem?.1 ((I.mem x).1 hx)
    refine I.done j x hj d hd (.inl ?_) h0
    rcases Nat.lt_or_ge j i with h | h
    · exact h
    · rw [List.getElem?_eq_none_iff] at hi
      rw [List.getElem?_eq_none (by omega)] at hj
      cases hj
  pred := fun c h => by
    rcases I.pred c ((I.mem c).1 (by omega)) with h1 | ⟨c', d, h1, h2, h3, h4⟩
    · rw [h1, I.src0] at h; omega
    · exact ⟨c', d, h2, h3, (I.mem c').2 h1, h4⟩
theorem bfsF_dist {s : Nat → Nat → Int} {v src : Nat} (hs : Rng s v) : ∀ (f : Nat) (S : (Nat → Int) × List Nat) (i : Nat), BInv s v src S i 0 → i ≤ S.2.length → v + 1 - i ≤ f → Dist s v src (bfsF s f S i)
  | 0, S, i, I, hi, hf => by have := I.len; omega
  | f + 1, S, i, I, hi, hf => by
    simp only [bfsF]
    cases h : S.2[i]? with
    | none => exact I.dist h
    | some x =>
      have I2 := I.round hs h
      have hl : S.2.length ≤ (bround s x S).2.length := by
        have h1 : ∀ m T, T.2.length ≤ (Go.Proofs.Ytbenbfhpbnepmaa.P.relax s x m T).2.length := by
          intro m T
          unfold Go.Proofs.Ytbenbfhpbnepmaa.P.relax
          split <;> simp
        exact Nat.le_trans (h1 0 S) (Nat.le_trans (h1 1 _) (Nat.le_trans (h1 2 _) (h1 3 _)))
      have h2 := (List.getElem?_eq_some_iff.1 h).1
      exact bfsF_dist hs f _ (i + 1) I2 (by omega) (by omega)
theorem bfsD_dist {s : Nat → Nat → Int} {v src : Nat} (hs : Rng s v) (h : src < v) : Dist s v src (bfsD s v src) := bfsF_dist hs _ _ 0 (BInv.start h) (by simp) (by omega)
/-- Steps are the edges of n. -/
structure Net (s : Nat → Nat → Int) (e : Nat → Nat × Nat) (v n : Nat) : Prop where
  rng : Rng s v
  edge : ∀ x d, x < v → d < 4 → 0 ≤ s x d → ∃ k, n.testBit k = true ∧ (e k = (x, (s x d).toNat) ∨ e k = ((s x d).toNat, x))
  lt : ∀ k, n.testBit k = true → (e k).1 < v ∧ (e k).2 < v
  fwd : ∀ k, n.testBit k = true → ∃ d, d < 4 ∧ s (e k).1 d = ((e k).2 : Int)
  bwd : ∀ k, n.testBit k = true → ∃ d, d < 4 ∧ s (e k).2 d = ((e k).1 : Int)
theorem Dist.cn {s : Nat → Nat → Int} {e : Nat → Nat × Nat} {v n src : Nat} {D : Nat → Int} (N : Net s e v n) (I : Dist s v src D) (c : Nat) : 0 ≤ D c ↔ Cn e n src c := by
  constructor
  · intro h
    obtain ⟨m, hm⟩ : ∃ m : Nat, D c = m := ⟨(D c).toNat, by omega⟩
    clear h
    induction m using Nat.strongRecOn generalizing c with
    | _ m ih =>
      by_cases h0 : 0 < D c
      · obtain ⟨c', d, hd, h1, h2, h3⟩ := I.pred c h0
        have := ih (D c').toNat (by omega) c' (by omega)
        obtain ⟨k, hk, hk2⟩ := N.edge c' d (I.inr _ h2) hd (by omega)
        rw [h1] at hk2
        simp only [Int.toNat_natCast] at hk2
        rcases hk2 with h | h
        · have e1 := Cn.edge (e := e) hk
          rw [h] at e1
          exact this.trans e1
        · have e1 := Cn.edge' (e := e) hk
          rw [h] at e1
          exact this.trans e1
      · rw [I.zero c (by omega)]
        exact .refl _
  · intro h
    induction h with
    | refl => rw [I.src0]; omega
    | fwd k hk _ ih =>
      obtain ⟨d, hd, h1⟩ := N.fwd k hk
      have := I.lip _ d hd ih (by omega)
      rw [h1] at this
      simpa using this.1
    | bwd k hk _ ih =>
      obtain ⟨d, hd, h1⟩ := N.bwd k hk
      have := I.lip _ d hd ih (by omega)
      rw [h1] at this
      simpa using this.1
def cellsN (w h : Int) : Nat := (cellsOf w h).toNat
theorem cellsN_cast (w h : Int) : ((cellsN w h : Nat) : Int) = cellsOf w h := by have := cellsOf_range w h; unfold cellsN; omega
theorem cellsN_le (w h : Int) : cellsN w h ≤ 16 := by have := cellsOf_range w h; unfold cellsN; omega
def ends (w h : Int) (g : Nat) : Nat × Nat := ((endsI w h g).1.toNat, (endsI w h g).2.toNat)
def st (w h : Int) (n : Nat) (c d : Nat) : Int := stepI w h n c d
theorem ends_facts {w h : Int} {g : Nat} (hg : g < gapsN w h) : endsI w h g = (((ends w h g).1 : Int), ((ends w h g).2 : Int)) ∧ (ends w h g).1 < (ends w h g).2 ∧ (ends w h g).2 < cellsN w h := by
  have hc := gapsN_cast w h
  have hc2 := cellsN_cast w h
  obtain ⟨h1, h2, h3, _⟩ := end_facts (w := w) (h := h) (g := g) (by omega) (by omega)
  unfold ends
  refine ⟨?_, by simp only; omega, by simp only; omega⟩
  apply Prod.ext
  · simp only; omega
  · simp only; omega
theorem gr_grid (w h : Int) : Gr (ends w h) (cellsN w h) (gapsN w h) := fun g hg => by
  have := ends_facts hg
  omega
theorem step_open {w h : Int} {n : Nat} {c d : Int} (hn : n < 2 ^ gapsN w h) (h0 : 0 ≤ stepI w h n c d) : ∃ g : Nat, g < gapsN w h ∧ gapI w h c d = g ∧ n.testBit g = true ∧ stepI w h n c d = nbI w h c d ∧ endsI w h g = (min c (nbI w h c d), max c (nbI w h c d)) := by
  have hc := gapsN_cast w h
  unfold stepI at *
  by_cases ho : openI n (gapI w h c d) = true
  · rw [if_pos ho] at *
    rcases step_facts w h c d with ⟨h1, _⟩ | ⟨h1, h2, h3, h4, h5, h6, _⟩
    · omega
    · refine ⟨(gapI w h c d).toNat, by omega, by omega, ?_, rfl, ?_⟩
      · unfold openI at ho
        simp only [Bool.and_eq_true] at ho
        exact ho.2
      · rw [show (((gapI w h c d).toNat : Nat) : Int) = gapI w h c d by omega]; exact h6
  · rw [if_neg ho] at h0; omega
theorem net_grid {w h : Int} {n : Nat} (hn : n < 2 ^ gapsN w h) : Net (st w h n) (ends w h) (cellsN w h) n where
  rng := fun x d _ _ => by
    have := cellsN_cast w h
    unfold st
    rcases step_lt (w := w) (h := h) (c := x) (d := d) (n := n) with h1 | h1
    · exact .inl h1
    · exact .inr (by omega)
  edge := fun x d hx hd h0 => by
    unfold st at *
    obtain ⟨g, h1, h2, h3, h4, h5⟩ := step_open hn h0
    refine ⟨g, h3, ?_⟩
    unfold ends
    rw [h5, h4]
    rw [h4] at h0
    rcases Int.le_total x (nbI w h x d) with hl | hl
    · left
      rw [Int.min_eq_left hl, Int.max_eq_right hl]; rfl
    · right
      rw [Int.min_eq_right hl, Int.max_eq_left hl]; rfl
  lt := fun k hk => by
    have := ends_facts (lt_of_testBit hn hk)
    omega
  fwd := fun k hk => by
    have hkg := lt_of_testBit hn hk
    have hc := gapsN_cast w h
    obtain ⟨e1, e2, e3⟩ := ends_facts hkg
    obtain ⟨_, _, _, h4⟩ := end_facts (w := w) (h := h) (g := k) (by omega) (by omega)
    rw [e1] at h4
    simp only at h4
    have ho : openI n (k : Int) = true := by unfold openI; simp [hk]
    rcases h4 with ⟨a, b⟩ | ⟨a, b⟩
    · exact ⟨1, by omega, by unfold st stepI; rw [show ((1 : Nat) : Int) = 1 from rfl, b, if_pos ho, a]⟩
    · exact ⟨2, by omega, by unfold st stepI; rw [show ((2 : Nat) : Int) = 2 from rfl, b, if_pos ho, a]⟩
  bwd := fun k hk => by
    have hkg := lt_of_testBit hn hk
    have hc := gapsN_cast w h
    obtain ⟨e1, e2, e3⟩ := ends_facts hkg
    obtain ⟨_, _, _, h4⟩ := end_facts (w := w) (h := h) (g := k) (by omega) (by omega)
    rw [e1] at h4
    simp only at h4
    have ho : openI n (k : Int) = true := by unfold openI; simp [hk]
    rcases h4 with ⟨a, b⟩ | ⟨a, b⟩
    · rcases step_facts w h (ends w h k).1 1 with ⟨q, _⟩ | ⟨q1, q2, q3, q4, q5, q6, q7, q8⟩
      · omega
      · rw [a] at q7 q8
        exact ⟨3, by omega, by unfold st stepI; rw [show ((3 : Nat) : Int) = (1 + 2) % 4 from rfl, q8, b, if_pos ho, q7]⟩
    · rcases step_facts w h (ends w h k).1 2 with ⟨q, _⟩ | ⟨q1, q2, q3, q4, q5, q6, q7, q8⟩
      · omega
      · rw [a] at q7 q8
        exact ⟨0, by omega, by unfold st stepI; rw [show ((0 : Nat) : Int) = (2 + 2) % 4 from rfl, q8, b, if_pos ho, q7]⟩
/-- The distance from a cell, or -1. -/
def distN (w h : Int) (n s : Nat) : Nat → Int := bfsD (st w h n) (cellsN w h) s
theorem distN_dist {w h : Int} {n s : Nat} (hn : n < 2 ^ gapsN w h) (hs : s < cellsN w h) : Dist (st w h n) (cellsN w h) s (distN w h n s) := bfsD_dist (net_grid hn).rng hs
theorem distN_cn {w h : Int} {n s : Nat} (hn : n < 2 ^ gapsN w h) (hs : s < cellsN w h) (c : Nat) : 0 ≤ distN w h n s c ↔ Cn (ends w h) n s c := (distN_dist hn hs).cn (net_grid hn) c
end Go.Proofs.Ytbenbfhpbnepmaa.P
namespace Go.Proofs.Ytbenbfhpbnepmaa.P
open Go.RowKit Go.Proofs.YtbenbfhpbnepmaaW.PrintWords Go.Proofs.YtbenbfhpbnepmaaW.PrintLast Go.Proofs.YtbenbfhpbnepmaaW.PrintMore
attribute [local go_sem] max2_int min2_int max_two min_two max_three min_three max_four min_four   -- for this text's walks alone
set_option linter.unusedVariables false
set_option linter.unusedSimpArgs false

/-! ### impl_FlipMaze: function 50 -/
/-! ### spec_FlipMaze: function 49 -/
end Go.Proofs.Ytbenbfhpbnepmaa.P
namespace Go.Proofs.Ytbenbfhpbnepmaa.P
open Go.RowKit Go.Proofs.YtbenbfhpbnepmaaW.PrintWords
set_option linter.unusedVariables false
set_option linter.unusedSimpArgs false

theorem cells_div {w h c : Int} (hg : gridOk w h = true) (h0 : 0 ≤ c) (h1 : c < cellsOf w h) : cellsOf w h = w * h ∧ 1 ≤ w ∧ w ≤ 4 ∧ 1 ≤ h ∧ h ≤ 4 ∧ c < 16 ∧ 0 ≤ c / w ∧ c / w ≤ c ∧ 0 ≤ c % w ∧ c % w < w ∧ 0 ≤ c % w * h ∧ c % w * h ≤ 16 ∧ 0 ≤ c / w * w ∧ c / w * w ≤ c := by
  obtain ⟨_, e⟩ := cellsOf_valid h0 h1
  have hr := cellsOf_range w h
  obtain ⟨w1, w4, h1', h4⟩ := gridOk_iff.1 hg
  have a1 : 0 ≤ c / w := Int.ediv_nonneg h0 (by omega)
  have a2 : c / w ≤ c := Int.ediv_le_self _ h0
  have a3 : 0 ≤ c % w := Int.emod_nonneg _ (by omega)
  have a4 : c % w < w := Int.emod_lt_of_pos _ (by omega)
  have a5 : c / w * w ≤ c := Int.ediv_mul_le _ (by omega)
  have a6 : 0 ≤ c % w * h := Int.mul_nonneg a3 (by omega)
  have a7 : c % w * h ≤ 4 * 4 := Int.mul_le_mul (by omega) (by omega) (by omega) (by omega)
  have a8 : 0 ≤ c / w * w := Int.mul_nonneg a1 (by omega)
  exact ⟨e, w1, w4, h1', h4, by omega, a1, a2, a3, a4, a6, by omega, a8, a5⟩
section
variable {w h : Int} {n : Nat}
theorem turn_fo (hg : gridOk w h = true) (c : Int) (h0 : 0 ≤ c) (h1 : c < cellsOf w h) : impl_TurnMaze_1.g w h c = some (turnF w h c) := by
  obtain ⟨e, _⟩ := cells_div hg h0 h1
  have hr := cellsOf_range w h
  unfold impl_TurnMaze_1.g turnF
  rw [impl_CountCells_eq, Option.bind_some, wrap64_id (x := cellsOf w h - 1) (by omega) (by omega), wrap64_id (by omega) (by omega), e]
theorem impl_TurnMaze_ev (hg : gridOk w h = true) (hn : n < 2 ^ gapsN w h) : Ev (fun k => impl_TurnMaze.f k w h n) (w, h, ((moved (turnF w h) w h w h n : Nat) : Int)) := by
  unfold impl_TurnMaze.f
  refine Ev.bnd0 (impl_MazeOk_eq ..) (Ev.tt (mazeOk_iff.2 ⟨hg, n, rfl, hn⟩) ?_)
  exact Ev.bind (impl_moved_ev hn (turn_moves hg) (turn_fo hg) 0) (Ev.ret rfl)
end
end Go.Proofs.Ytbenbfhpbnepmaa.P
namespace Go.Proofs.Ytbenbfhpbnepmaa.P
open Go.RowKit Go.Proofs.YtbenbfhpbnepmaaW.PrintWords
set_option linter.unusedVariables false
set_option linter.unusedSimpArgs false

def p1 (x : Nat) : Nat := ((x / 2) &&& 6148914691236517205) + (x &&& 6148914691236517205)
def p2 (x : Nat) : Nat := ((x / 4) &&& 3689348814741910323) + (x &&& 3689348814741910323)
def p3 (x : Nat) : Nat := (x / 16 + x) &&& 1085102592571150095
theorem and_split {a m : Nat} (b M : Nat) (ha : a < 256) (hm : m < 256) : (256 * b + a) &&& (256 * M + m) = 256 * (b &&& M) + (a &&& m) := by
  apply Nat.eq_of_testBit_eq
  intro i
  have h1 := Nat.testBit_two_pow_mul_add b (i := 8) ha i
  have h2 := Nat.testBit_two_pow_mul_add M (i := 8) hm i
  have h3 := Nat.testBit_two_pow_mul_add (b &&& M) (i := 8) (b := a &&& m) (Nat.lt_of_le_of_lt Nat.and_le_left ha) i
  simp only [show (2 : Nat) ^ 8 = 256 from rfl] at h1 h2 h3
  rw [Nat.testBit_and, h1, h2, h3]
  split <;> simp [Nat.testBit_and]
theorem p1_split (b a : Nat) (ha : a < 256) : p1 (256 * b + a) = 256 * (((b / 2) &&& 24019198012642645) + (b &&& 24019198012642645)) + p1 a := by
  have e1 : (256 * b + a) / 2 = 256 * (b / 2) + (128 * (b % 2) + a / 2) := by omega
  have e2 : ∀ c, c < 2 → ∀ a, a < 256 → (128 * c + a / 2) &&& 85 = (a / 2) &&& 6148914691236517205 := by decide +kernel
  have e3 : ∀ a, a < 256 → a &&& 85 = a &&& 6148914691236517205 := by decide +kernel
  unfold p1
  rw [e1, show (6148914691236517205 : Nat) = 256 * 24019198012642645 + 85 from rfl, and_split _ _ (by omega) (by decide), and_split _ _ ha (by decide), ← show (6148914691236517205 : Nat) = 256 * 24019198012642645 + 85 from rfl, e2 _ (Nat.mod_lt _ (by decide)) a ha, e3 a ha]
  omega
theorem p2_split (b a : Nat) (ha : a < 256) : p2 (256 * b + a) = 256 * (((b / 4) &&& 14411518807585587) + (b &&& 14411518807585587)) + p2 a := by
  have e1 : (256 * b + a) / 4 = 256 * (b / 4) + (64 * (b % 4) + a / 4) := by omega
  have e2 : ∀ c, c < 4 → ∀ a, a < 256 → (64 * c + a / 4) &&& 51 = (a / 4) &&& 3689348814741910323 := by decide +kernel
  have e3 : ∀ a, a < 256 → a &&& 51 = a &&& 3689348814741910323 := by decide +kernel
  unfold p2
  rw [e1, show (3689348814741910323 : Nat) = 256 * 14411518807585587 + 51 from rfl, and_split _ _ (by omega) (by decide), and_split _ _ ha (by decide), ← show (3689348814741910323 : Nat) = 256 * 14411518807585587 + 51 from rfl, e2 _ (Nat.mod_lt _ (by decide)) a ha, e3 a ha]
  omega
theorem p3_split (b a : Nat) (ha : a < 72) (hb : b % 16 ≤ 4) : p3 (256 * b + a) = 256 * ((b / 16 + b) &&& 4238682002231055) + p3 a := by
  have e1 : (256 * b + a) / 16 + (256 * b + a) = 256 * (b / 16 + b) + (16 * (b % 16) + a / 16 + a) := by omega
  have e2 : ∀ c, c < 5 → ∀ a, a < 72 → (16 * c + a / 16 + a) &&& 15 = (a / 16 + a) &&& 1085102592571150095 := by decide +kernel
  unfold p3
  rw [e1, show (1085102592571150095 : Nat) = 256 * 4238682002231055 + 15 from rfl, and_split _ _ (by omega) (by decide), ← show (1085102592571150095 : Nat) = 256 * 4238682002231055 + 15 from rfl, e2 _ (by omega) a ha]
theorem byte : ∀ a, a < 256 → p1 a < 256 ∧ p1 a % 4 ≤ 2 ∧ p2 (p1 a) < 72 ∧ p2 (p1 a) % 16 ≤ 4 ∧ p3 (p2 (p1 a)) = pop 8 a := by decide +kernel
theorem and_low {b M : Nat} (hb : b < 65536) : b &&& M = b &&& (M % 65536) := by
  have h := Nat.and_mod_two_pow (a := b) (b := M) (n := 16)
  simp only [show (2 : Nat) ^ 16 = 65536 from rfl] at h
  rw [Nat.mod_eq_of_lt hb, Nat.mod_eq_of_lt (Nat.lt_of_le_of_lt Nat.and_le_left hb)] at h
  exact h
theorem p1_hi {b : Nat} (hb : b < 65536) : ((b / 2) &&& 24019198012642645) + (b &&& 24019198012642645) = p1 b := by
  unfold p1
  rw [and_low (show b / 2 < 65536 by omega), and_low hb, and_low (M := 6148914691236517205) (show b / 2 < 65536 by omega), and_low (M := 6148914691236517205) hb]
theorem p2_hi {b : Nat} (hb : b < 65536) : ((b / 4) &&& 14411518807585587) + (b &&& 14411518807585587) = p2 b := by
  unfold p2
  rw [and_low (show b / 4 < 65536 by omega), and_low hb, and_low (M := 3689348814741910323) (show b / 4 < 65536 by omega), and_low (M := 3689348814741910323) hb]
theorem p3_hi {b : Nat} (hb : b < 61680) : (b / 16 + b) &&& 4238682002231055 = p3 b := by
  unfold p3
  rw [and_low (show b / 16 + b < 65536 by omega), and_low (M := 1085102592571150095) (show b / 16 + b < 65536 by omega)]
theorem p3_three {a b c : Nat} (ha : a < 256) (hb : b < 256) (hc : c < 256) : p3 (p2 (p1 (256 * (256 * c + b) + a))) = 256 * (256 * pop 8 c + pop 8 b) + pop 8 a := by
  obtain ⟨a1, _, a2, a3, a4⟩ := byte a ha
  obtain ⟨b1, _, b2, b3, b4⟩ := byte b hb
  obtain ⟨c1, _, c2, c3, c4⟩ := byte c hc
  rw [p1_split _ _ ha, p1_hi (by omega), p1_split _ _ hb, p1_hi (by omega)]
  rw [p2_split _ _ a1, p2_hi (by omega), p2_split _ _ b1, p2_hi (by omega)]
  rw [p3_split _ _ a2 (by omega), p3_hi (by omega), p3_split _ _ b2 c3, p3_hi (by omega), a4, b4, c4]
theorem pop24 (a b c : Nat) (ha : a < 256) (hb : b < 256) (hc : c < 256) : pop 24 (256 * (256 * c + b) + a) = pop 8 a + pop 8 b + pop 8 c := by
  rw [show 24 = 8 + (8 + 8) from rfl, pop_add, pop_add, show (2 : Nat) ^ 8 = 256 from rfl, show (256 * (256 * c + b) + a) / 256 = 256 * c + b by omega, show (256 * c + b) / 256 = c by omega]
  rw [← pop_mod 8 (256 * (256 * c + b) + a), ← pop_mod 8 (256 * c + b), show (2 : Nat) ^ 8 = 256 from rfl, show (256 * (256 * c + b) + a) % 256 = a by omega, show (256 * c + b) % 256 = b by omega, Nat.add_assoc]
theorem u64_small {n : Nat} (h : n < 18446744073709551616) : IntKind.u64.wrap (n : Int) = n := by
  rw [IntKind.wrap_u64]; omega
theorem u64_and {a b : Nat} (ha : a < 9223372036854775808) (hb : b < 9223372036854775808) : Go.bits .and .u64 a b = ((a &&& b : Nat) : Int) :=
  (bits_nat .u64 63 (by decide) (fun n h0 h1 => by rw [IntKind.wrap_u64]; omega) a b (by simpa using ha) (by simpa using hb)).1
def s1 (a : Int) : Int := IntKind.u64.wrap ((Go.bits .and .u64 (a / 2) 6148914691236517205) + (Go.bits .and .u64 a 6148914691236517205))
def s2 (a : Int) : Int := IntKind.u64.wrap ((Go.bits .and .u64 (a / 4) 3689348814741910323) + (Go.bits .and .u64 a 3689348814741910323))
def s3 (a : Int) : Int := Go.bits .and .u64 (IntKind.u64.wrap (a / 16 + a)) 1085102592571150095
def s4 (a : Int) : Int := IntKind.u64.wrap (a + a / 256)
def s5 (a : Int) : Int := IntKind.u64.wrap (a + a / 65536)
def s6 (a : Int) : Int := IntKind.u64.wrap (a + a / 4294967296)
theorem ones_steps (a : Int) : bits_OnesCount.f a = some (Go.bits .and .i64 (wrap64 (s6 (s5 (s4 (s3 (s2 (s1 a))))))) 127) := rfl
theorem s1_nat {a : Nat} (h : a < 16777216) : s1 (a : Int) = (p1 a : Int) := by
  unfold s1 p1
  rw [show ((a : Int) / 2) = ((a / 2 : Nat) : Int) by omega, show (6148914691236517205 : Int) = ((6148914691236517205 : Nat) : Int) from rfl, u64_and (by omega) (by decide), u64_and (by omega) (by decide)]
  have h1 : (a / 2 &&& 6148914691236517205) ≤ a / 2 := Nat.and_le_left
  have h2 : (a &&& 6148914691236517205) ≤ a := Nat.and_le_left
  rw [← Int.natCast_add, u64_small (by omega)]
theorem s2_nat {a : Nat} (h : a < 67108864) : s2 (a : Int) = (p2 a : Int) := by
  unfold s2 p2
  rw [show ((a : Int) / 4) = ((a / 4 : Nat) : Int) by omega, show (3689348814741910323 : Int) = ((3689348814741910323 : Nat) : Int) from rfl, u64_and (by omega) (by decide), u64_and (by omega) (by decide)]
  have h1 : (a / 4 &&& 3689348814741910323) ≤ a / 4 := Nat.and_le_left
  have h2 : (a &&& 3689348814741910323) ≤ a := Nat.and_le_left
  rw [← Int.natCast_add, u64_small (by omega)]
theorem s3_nat {a : Nat} (h : a < 268435456) : s3 (a : Int) = (p3 a : Int) := by
  unfold s3 p3
  rw [show ((a : Int) / 16 + a) = ((a / 16 + a : Nat) : Int) by omega, u64_small (by omega), show (1085102592571150095 : Int) = ((1085102592571150095 : Nat) : Int) from rfl, u64_and (by omega) (by decide)]
/-- The library's count of bits. -/
theorem ones_eq {s : Nat} (h : s < 16777216) : bits_OnesCount.f (s : Int) = some (pop 24 s : Int) := by
  rw [ones_steps]
  have h1 : p1 s < 67108864 := by
    unfold p1
    have h1 : (s / 2 &&& 6148914691236517205) ≤ s / 2 := Nat.and_le_left
    have h2 : (s &&& 6148914691236517205) ≤ s := Nat.and_le_left
    omega
  have h2 : p2 (p1 s) < 268435456 := by
    unfold p2
    have h3 : (p1 s / 4 &&& 3689348814741910323) ≤ p1 s / 4 := Nat.and_le_left
    have h4 : (p1 s &&& 3689348814741910323) ≤ p1 s := Nat.and_le_left
    omega
  rw [s1_nat h, s2_nat h1, s3_nat h2]
  obtain ⟨a, b, c, ha, hb, hc, rfl⟩ : ∃ a b c, a < 256 ∧ b < 256 ∧ c < 256 ∧ s = 256 * (256 * c + b) + a := ⟨s % 256, s / 256 % 256, s / 65536, by omega, by omega, by omega, by omega⟩
  rw [p3_three ha hb hc, pop24 _ _ _ ha hb hc]
  have qa := pop_le 8 a
  have qb := pop_le 8 b
  have qc := pop_le 8 c
  generalize pop 8 a = x at *
  generalize pop 8 b = y at *
  generalize pop 8 c = z at *
  have e4 : s4 ((256 * (256 * z + y) + x : Nat) : Int) = ((65536 * z + 256 * (y + z) + (x + y) : Nat) : Int) := by
    unfold s4
    rw [show (((256 * (256 * z + y) + x : Nat) : Int) + ((256 * (256 * z + y) + x : Nat) : Int) / 256) = ((65536 * z + 256 * (y + z) + (x + y) : Nat) : Int) by omega, u64_small (by omega)]
  have e5 : s5 ((65536 * z + 256 * (y + z) + (x + y) : Nat) : Int) = ((65536 * z + 256 * (y + z) + (x + y + z) : Nat) : Int) := by
    unfold s5
    rw [show (((65536 * z + 256 * (y + z) + (x + y) : Nat) : Int) + ((65536 * z + 256 * (y + z) + (x + y) : Nat) : Int) / 65536) = ((65536 * z + 256 * (y + z) + (x + y + z) : Nat) : Int) by omega, u64_small (by omega)]
  have e6 : s6 ((65536 * z + 256 * (y + z) + (x + y + z) : Nat) : Int) = ((65536 * z + 256 * (y + z) + (x + y + z) : Nat) : Int) := by
    unfold s6
    rw [show (((65536 * z + 256 * (y + z) + (x + y + z) : Nat) : Int) + ((65536 * z + 256 * (y + z) + (x + y + z) : Nat) : Int) / 4294967296) = ((65536 * z + 256 * (y + z) + (x + y + z) : Nat) : Int) by omega, u64_small (by omega)]
  rw [e4, e5, e6, wrap64_id (by omega) (by omega), show (127 : Int) = ((127 : Nat) : Int) from rfl, bits_and (by omega) (by decide)]
  congr 2
  rw [show (127 : Nat) = 2 ^ 7 - 1 from rfl, Nat.and_two_pow_sub_one_eq_mod]
  omega
theorem ones_eq' {n s : Nat} (hn : n ≤ 24) (h : s < 2 ^ n) : bits_OnesCount.f (s : Int) = some (pop n s : Int) := by
  rw [ones_eq (Nat.lt_of_lt_of_le h (Nat.pow_le_pow_right (by decide) hn)), pop_big h hn]
theorem filter_head {p : Nat → Bool} {m v : Nat} (hm : m < v) (hp : p m = true) (h : ∀ i, i < m → p i = false) : ∃ t, (List.range v).filter p = m :: t := by
  obtain ⟨d, rfl⟩ : ∃ d, v = m + (d + 1) := ⟨v - m - 1, by omega⟩
  rw [List.range_add, List.filter_append]
  have h1 : (List.range m).filter p = [] := by
    rw [List.filter_eq_nil_iff]
    intro a ha
    rw [h a (List.mem_range.1 ha)]
    simp
  rw [h1, List.nil_append, List.range_succ_eq_map, List.map_cons, Nat.add_zero, List.filter_cons, if_pos hp]
  exact ⟨_, rfl⟩
/-- The cells that are reached, in ascending order. -/
def reachN (w h : Int) (n s : Nat) : List Nat := (List.range (cellsN w h)).filter fun c => decide (0 ≤ distN w h n s c)
/-- The least cell of the part of a cell. -/
def labN (w h : Int) (n c : Nat) : Nat := lab (ends w h) n (gapsN w h) c
theorem reachN_head {w h : Int} {n s : Nat} (hn : n < 2 ^ gapsN w h) (hs : s < cellsN w h) : ∃ t, reachN w h n s = labN w h n s :: t := by
  have hle := lab_le (ends w h) n (gapsN w h) s
  refine filter_head (show labN w h n s < cellsN w h by unfold labN; omega) ?_ ?_
  · rw [decide_eq_true_eq, distN_cn hn hs]
    exact lab_cn hn s
  · intro i hi
    rw [decide_eq_false_iff_not, distN_cn hn hs]
    intro hc
    have := lab_least hn hc
    unfold labN at hi
    omega
def partsN (w h : Int) (n : Nat) : Nat := parts (ends w h) (cellsN w h) (gapsN w h) n
def perfN (w h : Int) (n : Nat) : Bool := perf (ends w h) (cellsN w h) (gapsN w h) n
theorem cells_pos {w h : Int} (hg : gridOk w h = true) : 1 ≤ cellsN w h := by
  unfold cellsN cellsOf
  rw [if_pos hg]
  obtain ⟨h1 | h1 | h1 | h1, h2 | h2 | h2 | h2⟩ := grid_cases hg <;> subst h1 <;> subst h2 <;> decide
/-- The directions from d on in which s leads somewhere. -/
def waysFrom (s : Int → Int) (d : Nat) : List Int := ([0, 1, 2, 3].drop d).filter fun x => decide (0 ≤ s x)
theorem waysFrom_succ (s : Int → Int) {d : Nat} (hd : d < 4) : waysFrom s d = if 0 ≤ s d then (d : Int) :: waysFrom s (d + 1) else waysFrom s (d + 1) := by
  have : d = 0 ∨ d = 1 ∨ d = 2 ∨ d = 3 := by omega
  rcases this with rfl | rfl | rfl | rfl <;> simp [waysFrom, List.filter_cons]
def waysI (w h : Int) (n : Nat) (c : Int) : List Int := waysFrom (stepI w h n c) 0
theorem impl_Step_ev {w h : Int} {n : Nat} (hg : gridOk w h = true) (hn : n < 2 ^ gapsN w h) (c d : Int) : Ev (fun k => impl_Step.f k w h n c d) (stepI w h n c d) := by
  unfold impl_Step.f stepI
  refine Ev.bnd0 (impl_MazeOk_eq w h n) (Ev.tt (mazeOk_iff.2 ⟨hg, n, rfl, hn⟩) ?_)
  refine Ev.bind (impl_GapAt_ev w h c d) (Ev.bnd0 (impl_isOpen_eq w h (open_small hn) _) ?_)
  by_cases ho : openI n (gapI w h c d) = true
  · rw [if_pos ho]
    exact Ev.tt ho (Ev.bind (impl_Neighbor_ev w h c d) (Ev.ret rfl))
  · rw [if_neg ho]
    exact Ev.ff ho (Ev.ret rfl)
theorem impl_Ways_l0 (w h : Int) (o c : Int) (s : Int → Int) (hs : ∀ d, Ev (fun k => impl_Step.f k w h o c d) (s d)) : ∀ (e d : Nat) (out : List Int), 4 - d = e → d ≤ 4 → out.length ≤ d →
    Ev (fun k => impl_WaysFrom.l0 k c out d w h o) (out ++ waysFrom s d)
  | 0, d, out, he, hd, hl => by
    refine Ev.step (fun _ => impl_WaysFrom.l0.eq_2 ..) ?_
    refine Ev.ff (by omega) (Ev.ret ?_)
    obtain rfl : d = 4 := by omega
    simp [waysFrom]
  | e + 1, d, out, he, hd, hl => by
    refine Ev.step (fun _ => impl_WaysFrom.l0.eq_2 ..) ?_
    refine Ev.tt (by omega) (Ev.bind (hs d) ?_)
    rw [wsucc (by omega), waysFrom_succ s (show d < 4 by omega)]
    refine Ev.ite (fun h1 => Ev.tt (by omega) ?_) (fun h1 => ?_)
    · rw [if_pos (by omega)]
      have := impl_Ways_l0 w h o c s hs e (d + 1) (out ++ [(d : Int)]) (by omega) (by omega) (by simp; omega)
      simpa using this
    · rw [if_neg (by omega)]
      exact impl_Ways_l0 w h o c s hs e (d + 1) out (by omega) (by omega) (by omega)
theorem impl_Ways_ev {w h : Int} {n : Nat} (hg : gridOk w h = true) (hn : n < 2 ^ gapsN w h) (c : Int) : Ev (fun k => impl_WaysFrom.f k w h n c) (waysI w h n c) := by
  unfold impl_WaysFrom.f waysI
  have := impl_Ways_l0 w h n c _ (fun d => impl_Step_ev hg hn c d) 4 0 [] (by omega) (by omega) (by simp)
  simpa using this
end Go.Proofs.Ytbenbfhpbnepmaa.P
namespace Go.Proofs.Ytbenbfhpbnepmaa.P
open Go.RowKit Go.Proofs.YtbenbfhpbnepmaaW.PrintWords Go.Proofs.YtbenbfhpbnepmaaW.PrintLast Go.Proofs.YtbenbfhpbnepmaaW.PrintMore
attribute [local go_sem] max2_int min2_int max_two min_two max_three min_three max_four min_four   -- for this text's walks alone
set_option linter.unusedVariables false
set_option linter.unusedSimpArgs false

/-! ### spec_IsPassage: function 102 -/
/-! ### spec_Step: function 63 -/
/-! ### spec_WaysFrom: function 75 -/
end Go.Proofs.Ytbenbfhpbnepmaa.P
namespace Go.Proofs.Ytbenbfhpbnepmaa.P
open Go.RowKit Go.Proofs.YtbenbfhpbnepmaaW.PrintWords
set_option linter.unusedVariables false
set_option linter.unusedSimpArgs false

end Go.Proofs.Ytbenbfhpbnepmaa.P
namespace Go.Proofs.Ytbenbfhpbnepmaa.P
open Go.RowKit Go.Proofs.YtbenbfhpbnepmaaW.PrintWords
set_option linter.unusedVariables false
set_option linter.unusedSimpArgs false

def ints (q : List Nat) : List Int := q.map fun (x : Nat) => (x : Int)
theorem ints_length (q : List Nat) : (ints q).length = q.length := by simp [ints]
theorem ints_app (q : List Nat) (y : Nat) : ints (q ++ [y]) = ints q ++ [(y : Int)] := by simp [ints]
theorem rd_ints {q : List Nat} {i x : Nat} (h : q[i]? = some x) : rd (ints q) (i : Int) = x := by
  rw [rd_nat, List.getD_eq_getElem?_getD]
  simp [ints, h]
/-- A function on the numbers under v as a list. -/
def dlist (v : Nat) (D : Nat → Int) : List Int := (List.range v).map D
theorem dlist_length (v : Nat) (D : Nat → Int) : (dlist v D).length = v := by simp [dlist]
theorem rd_dlist {v : Nat} {D : Nat → Int} {c : Nat} (h : c < v) : rd (dlist v D) (c : Int) = D c := by
  rw [rd_get (by rw [dlist_length]; exact h)]
  simp [dlist]
theorem dlist_set {v : Nat} {D : Nat → Int} {y : Nat} {a : Int} (h : y < v) : (dlist v D).set y a = dlist v (upd D y a) := by
  refine List.ext_getElem (by simp [dlist]) fun i h1 h2 => ?_
  rw [List.getElem_set]
  simp only [dlist, upd, List.getElem_map, List.getElem_range]
  by_cases e : y = i
  · rw [if_pos e, if_pos e.symm]
  · rw [if_neg e, if_neg (fun e' => e e'.symm)]
/-- What is kept while the search goes on. -/
structure SI (v : Nat) (S : (Nat → Int) × List Nat) : Prop where
  le : ∀ c, S.1 c ≤ S.2.length
  low : ∀ c, -1 ≤ S.1 c
  lt : ∀ c ∈ S.2, c < v
theorem SI.relax {v : Nat} {s : Nat → Nat → Int} (hs : Rng s v) {S : (Nat → Int) × List Nat} (I : SI v S) {x d : Nat} (hx : x < v) (hd : d < 4) : SI v (relax s x d S) ∧ (relax s x d S).2.length ≤ S.2.length + 1 ∧ ∀ (i z : Nat), S.2[i]? = some z → (relax s x d S).2[i]? = some z := by
  unfold Go.Proofs.Ytbenbfhpbnepmaa.P.relax
  split
  · rename_i hc
    refine ⟨⟨fun c => ?_, fun c => ?_, fun c hcq => ?_⟩, by simp, fun i z hz => ?_⟩
    · have := I.le c
      have := I.le x
      show upd _ _ _ c ≤ _
      unfold upd
      simp only [List.length_append, List.length_singleton]
      split <;> omega
    · have := I.low c
      have := I.low x
      show _ ≤ upd _ _ _ c
      unfold upd
      split <;> omega
    · rcases List.mem_append.1 hcq with h | h
      · exact I.lt c h
      · simp at h
        have := hs x d hx hd
        omega
    · have hi := (List.getElem?_eq_some_iff.1 hz).1
      rw [List.getElem?_append_left hi]; exact hz
  · exact ⟨I, by omega, fun i z hz => hz⟩
def relaxL (s : Nat → Nat → Int) (x : Nat) : List Nat → (Nat → Int) × List Nat → (Nat → Int) × List Nat
  | [], S => S
  | d :: ds, S => relaxL s x ds (relax s x d S)
theorem relaxL_filter (s : Nat → Nat → Int) (x : Nat) : ∀ l S, relaxL s x (l.filter fun d => decide (0 ≤ s x d)) S = relaxL s x l S
  | [], S => rfl
  | d :: ds, S => by
    rw [List.filter_cons]
    by_cases h : 0 ≤ s x d
    · simp only [h, decide_true, if_true, relaxL]
      exact relaxL_filter s x ds _
    · simp only [h, decide_false, Bool.false_eq_true, if_false, relaxL]
      rw [relaxL_filter s x ds S, show relax s x d S = S from if_neg fun hc => h hc.1]
theorem bround_eq (s : Nat → Nat → Int) (x : Nat) (S : (Nat → Int) × List Nat) : bround s x S = relaxL s x [0, 1, 2, 3] S := rfl
theorem waysI_ints (w h : Int) (n c : Nat) : waysI w h n c = ints ([0, 1, 2, 3].filter fun d => decide (0 ≤ st w h n c d)) := by
  unfold waysI waysFrom st ints
  simp only [List.drop_zero, List.filter_cons, List.filter_nil]
  by_cases a : 0 ≤ stepI w h n c 0 <;> by_cases b : 0 ≤ stepI w h n c 1 <;> by_cases c' : 0 ≤ stepI w h n c 2 <;> by_cases d : 0 ≤ stepI w h n c 3 <;> simp [a, b, c', d]
section
variable {w h : Int} {n : Nat} (hg : gridOk w h = true) (hn : n < 2 ^ gapsN w h)
include hg hn
theorem impl_dist_l1 {x i : Nat} (W : List Nat) (hW : ∀ d ∈ W, d < 4 ∧ 0 ≤ st w h n x d) (hW4 : W.length ≤ 4) (res : List Int) :
    ∀ (e j : Nat) (S : (Nat → Int) × List Nat), j + e = W.length → SI (cellsN w h) S → S.2[i]? = some x → S.2.length ≤ 100 + j →
      (∀ S', S' = relaxL (st w h n) x (W.drop j) S → SI (cellsN w h) S' → Ev (fun k => impl_distances.l0 k (dlist (cellsN w h) S'.1) (ints S'.2) ((i + 1 : Nat) : Int) w h n) res) →
      Ev (fun k => impl_distances.l1 k (dlist (cellsN w h) S.1) (ints S.2) i (ints W) ((ints W).length : Int) j w h n) res
  | 0, j, S, hj, I, hx, hl, next => by
    have hi := (List.getElem?_eq_some_iff.1 hx).1
    refine Ev.step (fun _ => impl_distances.l1.eq_2 ..) (Ev.ff (by rw [ints_length]; omega) ?_)
    rw [wsucc (by omega)]
    exact next S (by rw [List.drop_eq_nil_of_le (by omega)]; rfl) I
  | e + 1, j, S, hj, I, hx, hl, next => by
    have hcast := cellsN_cast w h
    have hi := (List.getElem?_eq_some_iff.1 hx).1
    have hxv := I.lt x (List.mem_of_getElem? hx)
    have hjW : j < W.length := by omega
    obtain ⟨hd4, hd0⟩ := hW _ (List.getElem_mem hjW)
    have hdrop : W.drop j = W[j] :: W.drop (j + 1) := List.drop_eq_getElem_cons hjW
    have hwj : rd (ints W) (j : Int) = (W[j] : Nat) := rd_ints (List.getElem?_eq_getElem hjW)
    have hrng := (net_grid hn).rng x W[j] hxv hd4
    obtain ⟨y, hy⟩ : ∃ y : Nat, st w h n x W[j] = y := ⟨(st w h n x W[j]).toNat, by omega⟩
    have hyv : y < cellsN w h := by omega
    obtain ⟨I', hl', hk'⟩ := I.relax (net_grid hn).rng hxv hd4
    have ih := impl_dist_l1 W hW hW4 res e (j + 1) (relax (st w h n) x W[j] S) (by omega) I' (hk' i x hx) (by omega) (fun S' hS' I'' => next S' (by rw [hS', hdrop]; rfl) I'')
    refine Ev.step (fun _ => impl_distances.l1.eq_2 ..) ?_
    refine Ev.tt (by rw [ints_length]; omega) (Ev.tt (by omega) (Ev.tt (by rw [ints_length]; omega) (Ev.tt (by omega) (Ev.tt (by rw [ints_length]; omega) ?_))))
    rw [hwj, rd_ints hx]
    refine Ev.bind (impl_Step_ev hg hn x (W[j] : Nat)) ?_
    rw [show stepI w h n x (W[j] : Nat) = y from hy, wsucc (by omega)]
    refine Ev.tt (by omega) (Ev.tt (by rw [dlist_length]; omega) ?_)
    rw [rd_dlist hyv, rd_dlist hxv]
    refine Ev.ite (fun h1 => ?_) (fun h1 => ?_)
    · refine Ev.tt (by omega) (Ev.tt (by rw [dlist_length]; omega) (Ev.tt (by rw [ints_length]; omega) ?_))
      have hb1 := I.le x
      have hb2 : 0 ≤ S.1 x ∨ S.1 x < 0 := by omega
      have hrel : relax (st w h n) x W[j] S = (upd S.1 y (S.1 x + 1), S.2 ++ [y]) := by
        unfold relax
        rw [hy, Int.toNat_natCast, if_pos ⟨by omega, h1⟩]
      rw [hrel] at ih
      rw [Int.toNat_natCast, dlist_set hyv, ← ints_app]
      have := I.low x
      rw [wrap64_id (by omega) (by omega)]
      exact ih
    · have hrel : relax (st w h n) x W[j] S = S := by
        unfold relax
        rw [hy, Int.toNat_natCast, if_neg (fun hc => h1 hc.2)]
      rw [hrel] at ih
      exact ih
theorem impl_dist_l0 {src : Nat} (hs : src < cellsN w h) : ∀ (f i : Nat) (S : (Nat → Int) × List Nat), BInv (st w h n) (cellsN w h) src S i 0 → SI (cellsN w h) S → i ≤ S.2.length → cellsN w h + 1 - i ≤ f →
    Ev (fun k => impl_distances.l0 k (dlist (cellsN w h) S.1) (ints S.2) i w h n) (dlist (cellsN w h) (bfsF (st w h n) f S i))
  | 0, i, S, B, I, hi, hf => by have := B.len; omega
  | f + 1, i, S, B, I, hi, hf => by
    have h16 := cellsN_le w h
    have hlen := B.len
    refine Ev.step (fun _ => impl_distances.l0.eq_2 ..) ?_
    simp only [bfsF]
    cases hx : S.2[i]? with
    | none =>
      rw [List.getElem?_eq_none_iff] at hx
      exact Ev.ff (by rw [ints_length]; omega) (Ev.ret rfl)
    | some x =>
      have hil := (List.getElem?_eq_some_iff.1 hx).1
      have hxv := I.lt x (List.mem_of_getElem? hx)
      refine Ev.tt (by rw [ints_length]; omega) (Ev.tt (by omega) ?_)
      rw [rd_ints hx]
      refine Ev.bind (impl_Ways_ev hg hn _) ?_
      rw [waysI_ints]
      have hW : ∀ d ∈ ([0, 1, 2, 3].filter fun d => decide (0 ≤ st w h n x d)), d < 4 ∧ 0 ≤ st w h n x d := fun d hd => by
        rw [List.mem_filter] at hd
        refine ⟨?_, of_decide_eq_true hd.2⟩
        have := hd.1
        simp at this
        omega
      refine impl_dist_l1 hg hn (i := i) (x := x) _ hW (List.length_filter_le _ _) _ _ 0 S (Nat.zero_add _) I hx (by omega) (fun S' hS' I' => ?_)
      rw [List.drop_zero, relaxL_filter, ← bround_eq] at hS'
      subst hS'
      have B' := B.round (net_grid hn).rng hx
      refine impl_dist_l0 hs f (i + 1) _ B' I' ?_ (by omega)
      have h1 : ∀ m T, T.2.length ≤ (relax (st w h n) x m T).2.length := by
        intro m T
        unfold relax
        split <;> simp
      have := Nat.le_trans (h1 0 S) (Nat.le_trans (h1 1 _) (Nat.le_trans (h1 2 _) (h1 3 _)))
      show i + 1 ≤ (bround (st w h n) x S).2.length
      unfold bround
      omega
omit hg hn in
theorem SI.start {v src : Nat} (h : src < v) : SI v (upd (fun _ => -1) src 0, [src]) where
  le := fun c => by simp only [upd]; split <;> simp
  low := fun c => by simp only [upd]; split <;> omega
  lt := fun c hc => by simp at hc; omega
theorem impl_distances_ev {src : Nat} (hs : src < cellsN w h) : Ev (fun k => impl_distances.f k w h n src) (dlist (cellsN w h) (distN w h n src)) := by
  have h16 := cellsN_le w h
  have hcast := cellsN_cast w h
  unfold impl_distances.f
  refine Ev.bnd0 (impl_CountCells_eq w h) (Ev.bnd0 (a := dlist (cellsN w h) fun _ => -1) ?_ ?_)
  · unfold slices_Repeat_int_int.f
    rw [if_pos ⟨by simp, by omega, by omega⟩]
    congr 1
    refine List.ext_getElem (by simp [dlist]; omega) fun i h1 h2 => ?_
    simp [dlist, rd]
  · refine Ev.tt (by omega) (Ev.tt (by rw [dlist_length]; omega) ?_)
    rw [Int.toNat_natCast, dlist_set hs]
    exact impl_dist_l0 hg hn hs _ 0 _ (BInv.start hs) (SI.start hs) (by simp) (by omega)
end
end Go.Proofs.Ytbenbfhpbnepmaa.P
namespace Go.Proofs.Ytbenbfhpbnepmaa.P
open Go.RowKit Go.Proofs.YtbenbfhpbnepmaaW.PrintWords Go.Proofs.Ytbenbfhpbnepmaa.Sup
set_option linter.unusedVariables false
set_option linter.unusedSimpArgs false

theorem impl_isIn_one (w h o c : Int) : impl_isIn.f w h o [c] = some (mazeOk w h o && isCellI w h c) := by
  unfold impl_isIn.f
  rw [impl_MazeOk_eq, Option.bind_some]
  cases hm : mazeOk w h o
  · simp
  · rw [if_pos rfl]
    simp [impl_isCell_eq]
end Go.Proofs.Ytbenbfhpbnepmaa.P
namespace Go.Proofs.Ytbenbfhpbnepmaa.P
open Go.RowKit Go.Proofs.YtbenbfhpbnepmaaW.PrintWords Go.Proofs.YtbenbfhpbnepmaaW.PrintLast Go.Proofs.YtbenbfhpbnepmaaW.PrintMore
attribute [local go_sem] max2_int min2_int max_two min_two max_three min_three max_four min_four   -- for this text's walks alone
set_option linter.unusedVariables false
set_option linter.unusedSimpArgs false

/-! ### spec_l04Has: function 101 -/
end Go.Proofs.Ytbenbfhpbnepmaa.P
namespace Go.Proofs.Ytbenbfhpbnepmaa.P
open Go.RowKit Go.Proofs.YtbenbfhpbnepmaaW.PrintWords Go.Proofs.Ytbenbfhpbnepmaa.Sup
set_option linter.unusedVariables false
set_option linter.unusedSimpArgs false

end Go.Proofs.Ytbenbfhpbnepmaa.P
namespace Go.Proofs.Ytbenbfhpbnepmaa.P
open Go.RowKit Go.Proofs.YtbenbfhpbnepmaaW.PrintWords
set_option linter.unusedVariables false
set_option linter.unusedSimpArgs false

/-- i, i + 1, .. : d of them. -/
def run (i d : Nat) : List Int := (List.range d).map fun t => ((i + t : Nat) : Int)
theorem run_succ (i d : Nat) : run i (d + 1) = (i : Int) :: run (i + 1) d := by
  simp only [run, List.range_succ_eq_map, List.map_cons, List.map_map, Nat.add_zero]
  congr 1
  apply List.map_congr_left
  intro t _
  simp only [Function.comp, Nat.succ_eq_add_one]
  congr 1
  omega
theorem mem_run {i d : Nat} {x : Int} : x ∈ run i d ↔ (i : Int) ≤ x ∧ x < ((i + d : Nat) : Int) := by
  simp only [run, List.mem_map, List.mem_range]
  constructor
  · rintro ⟨t, ht, rfl⟩
    omega
  · intro ⟨h1, h2⟩
    exact ⟨(x - i).toNat, by omega, by omega⟩
theorem upTo_l0 (n : Nat) (hn : n ≤ 1000000) : ∀ (d i : Nat) (out : List Int), n - i = d → i ≤ n → out.length ≤ i → Ev (fun k => impl_upTo.l0 k n out i) (out ++ run i d)
  | 0, i, out, hd, hi, ho => by
    refine Ev.step (fun _ => impl_upTo.l0.eq_2 ..) (Ev.ff (by omega) (Ev.ret ?_))
    simp [run]
  | d + 1, i, out, hd, hi, ho => by
    refine Ev.step (fun _ => impl_upTo.l0.eq_2 ..) (Ev.tt (by omega) (Ev.tt (by omega) ?_))
    rw [wsucc (by omega), run_succ]
    have := upTo_l0 n hn d (i + 1) (out ++ [(i : Int)]) (by omega) (by omega) (by simp; omega)
    simpa using this
theorem impl_upTo_ev (n : Nat) (hn : n ≤ 1000000) : Ev (fun k => impl_upTo.f k n) (run 0 n) := by
  unfold impl_upTo.f
  have := upTo_l0 n hn n 0 [] (by omega) (by omega) (by simp)
  simpa using this
end Go.Proofs.Ytbenbfhpbnepmaa.P
namespace Go.Proofs.Ytbenbfhpbnepmaa.P
open Go.RowKit Go.Proofs.YtbenbfhpbnepmaaW.PrintWords
set_option linter.unusedVariables false
set_option linter.unusedSimpArgs false

theorem run_zero (v : Nat) : run 0 v = ints (List.range v) := by
  unfold run ints
  exact List.map_congr_left fun t _ => by omega
theorem isCellI_nat {w h : Int} {c : Nat} (hc : c < cellsN w h) : isCellI w h c = true := by
  have := cellsN_cast w h
  unfold isCellI
  rw [decide_eq_true_eq]; omega
section
variable {w h : Int} {n : Nat} (hg : gridOk w h = true) (hn : n < 2 ^ gapsN w h)
include hg hn
theorem mazeOk_nat : mazeOk w h n = true := mazeOk_iff.2 ⟨hg, n, rfl, hn⟩
theorem impl_Reached_ev {s : Nat} (hs : s < cellsN w h) : Ev (fun k => impl_Reached.f k w h n s) (ints (reachN w h n s)) := by
  have h16 := cellsN_le w h
  unfold impl_Reached.f
  refine Ev.bnd0 (impl_isIn_one w h n s) (Ev.tt (by rw [mazeOk_nat hg hn, isCellI_nat hs]; rfl) ?_)
  refine Ev.bind (impl_distances_ev hg hn hs) ?_
  rw [dlist_length]
  refine Ev.bind (impl_upTo_ev _ (by omega)) (Ev.tt ?_ (Ev.ret ?_))
  · rw [List.all_eq_true]
    intro c hc
    have := mem_run.1 hc
    rw [decide_eq_true_eq]
    omega
  · rw [run_zero]
    unfold reachN ints
    rw [List.filter_map]
    congr 1
    refine List.filter_congr fun c hc => ?_
    rw [List.mem_range] at hc
    simp only [Function.comp]
    rw [rd_dlist hc]
    by_cases h1 : distN w h n s c < 0
    · rw [decide_eq_true h1, decide_eq_false (show ¬ 0 ≤ distN w h n s c by omega)]; rfl
    · rw [decide_eq_false h1, decide_eq_true (show 0 ≤ distN w h n s c by omega)]; rfl
omit hg hn in
theorem head_is {s : Nat} (hn : n < 2 ^ gapsN w h) (hs : s < cellsN w h) : 0 < ((ints (reachN w h n s)).length : Int) ∧ rd (ints (reachN w h n s)) 0 = labN w h n s := by
  obtain ⟨t, ht⟩ := reachN_head hn hs
  rw [ht]
  exact ⟨by simp [ints], rfl⟩
theorem impl_parts_l0 : ∀ (d c m : Nat), c + d = cellsN w h → m ≤ c → Ev (fun k => impl_CountParts.l0 k m c w h n) (((m + (cnt (fun i => labN w h n i == i) (cellsN w h) - cnt (fun i => labN w h n i == i) c) : Nat)) : Int)
  | 0, c, m, hd, hm => by
    have hcast := cellsN_cast w h
    refine Ev.step (fun _ => impl_CountParts.l0.eq_2 ..) (Ev.bnd0 (impl_isIn_one w h n c) (Ev.ff ?_ (Ev.ret ?_)))
    · have : isCellI w h c = false := by unfold isCellI; rw [decide_eq_false_iff_not]; omega
      rw [this]; simp
    · rw [show c = cellsN w h by omega, Nat.sub_self, Nat.add_zero]
  | d + 1, c, m, hd, hm => by
    have h16 := cellsN_le w h
    have hcv : c < cellsN w h := by omega
    obtain ⟨e1, e2⟩ := head_is hn hcv
    refine Ev.step (fun _ => impl_CountParts.l0.eq_2 ..) (Ev.bnd0 (impl_isIn_one w h n c) (Ev.tt (by rw [mazeOk_nat hg hn, isCellI_nat hcv]; rfl) ?_))
    refine Ev.bind (impl_Reached_ev hg hn hcv) (Ev.tt e1 ?_)
    rw [e2, wsucc (by omega), wsucc (by omega)]
    have hle : cnt (fun i => labN w h n i == i) (c + 1) ≤ cnt (fun i => labN w h n i == i) (cellsN w h) := by
      obtain ⟨x, hx⟩ := Nat.exists_eq_add_of_le (show c + 1 ≤ cellsN w h by omega)
      rw [hx]
      have : ∀ x, cnt (fun i => labN w h n i == i) (c + 1) ≤ cnt (fun i => labN w h n i == i) (c + 1 + x) := by
        intro x
        induction x with
        | zero => exact Nat.le_refl _
        | succ x ih => rw [← Nat.add_assoc]; simp only [cnt]; simp only [cnt] at ih; omega
      exact this x
    simp only [cnt] at hle
    refine Ev.ite (fun h1 => ?_) (fun h1 => ?_)
    · refine Ev.eq (impl_parts_l0 d (c + 1) (m + 1) (by omega) (by omega)) ?_
      have : (labN w h n c == c) = true := by rw [beq_iff_eq]; omega
      simp only [cnt, this, Bool.toNat_true] at hle ⊢
      omega
    · refine Ev.eq (impl_parts_l0 d (c + 1) m (by omega) (by omega)) ?_
      have : (labN w h n c == c) = false := by rw [beq_eq_false_iff_ne]; omega
      simp only [cnt, this, Bool.toNat_false] at hle ⊢
      omega
theorem impl_CountParts_ev : Ev (fun k => impl_CountParts.f k w h n) (partsN w h n : Int) := by
  unfold impl_CountParts.f
  refine Ev.eq (impl_parts_l0 hg hn (cellsN w h) 0 0 (by omega) (by omega)) ?_
  simp only [cnt, Nat.zero_add, Nat.sub_zero]
  rfl
end
end Go.Proofs.Ytbenbfhpbnepmaa.P
namespace Go.Proofs.Ytbenbfhpbnepmaa.P
open Go.RowKit Go.Proofs.YtbenbfhpbnepmaaW.PrintWords
set_option linter.unusedVariables false
set_option linter.unusedSimpArgs false

section
variable {w h : Int} {n : Nat} (hg : gridOk w h = true) (hn : n < 2 ^ gapsN w h)
include hg hn
theorem impl_CountPassages_eq : impl_CountPassages.f w h n = some (pop (gapsN w h) n : Int) := by
  have hs := open_small hn
  unfold impl_CountPassages.f
  rw [impl_MazeOk_eq, Option.bind_some, if_pos (mazeOk_nat hg hn), u64_small (by omega), ones_eq' (gapsN_le w h) hn, Option.bind_some]
omit hn in
theorem perf_value : (if (decide (((partsN w h n : Nat) : Int) = 1)) = true then decide (((pop (gapsN w h) n : Nat) : Int) = wrap64 (cellsOf w h - 1)) else false) = perfN w h n := by
  have h16 := cellsN_le w h
  have hpos := cells_pos hg
  have hcast := cellsN_cast w h
  have hpop := pop_le (gapsN w h) n
  rw [wrap64_id (by omega) (by omega)]
  unfold perfN perf
  by_cases h1 : partsN w h n = 1
  · have h1' := h1
    unfold partsN at h1'
    rw [h1, h1']
    simp only [Int.natCast_one, decide_true, if_true, true_and]
    rw [decide_eq_decide]
    omega
  · have h1' := h1
    unfold partsN at h1'
    rw [if_neg (by simp; omega)]
    symm
    rw [decide_eq_false_iff_not]
    exact fun h2 => h1' h2.1
theorem impl_IsPerfect_ev : Ev (fun k => impl_IsPerfect.f k w h n) (perfN w h n) := by
  unfold impl_IsPerfect.f impl_IsConnected.f
  rw [← perf_value hg]
  refine Ev.bind (Ev.bind (impl_CountParts_ev hg hn) (Ev.ret rfl)) ?_
  refine Ev.ite (fun h1 => Ev.bnd0 (impl_CountPassages_eq hg hn) (Ev.bnd0 (impl_CountCells_eq w h) (Ev.ret ?_))) (fun h1 => Ev.ret ?_)
  · rw [if_pos (by simpa using h1)]
    rw [Bool.eq_iff_iff]
    simp
  · rw [if_neg (by simpa using h1)]
end
end Go.Proofs.Ytbenbfhpbnepmaa.P
namespace Go.Proofs.Ytbenbfhpbnepmaa.P
open Go.RowKit Go.Proofs.YtbenbfhpbnepmaaW.PrintWords
set_option linter.unusedVariables false
set_option linter.unusedSimpArgs false

section
variable {w h : Int} {n : Nat} (hg : gridOk w h = true) (hn : n < 2 ^ gapsN w h)
include hg hn
end
section
variable {w h : Int} (hg : gridOk w h = true)
include hg
end
end Go.Proofs.Ytbenbfhpbnepmaa.P
namespace Go.Proofs.Ytbenbfhpbnepmaa.P
open Go.RowKit Go.Proofs.YtbenbfhpbnepmaaW.PrintWords Go.Proofs.YtbenbfhpbnepmaaW.PrintLast Go.Proofs.YtbenbfhpbnepmaaW.PrintMore
attribute [local go_sem] max2_int min2_int max_two min_two max_three min_three max_four min_four   -- for this text's walks alone
set_option linter.unusedVariables false
set_option linter.unusedSimpArgs false

/-! ### spec_FullMaze: function 87 -/
end Go.Proofs.Ytbenbfhpbnepmaa.P
namespace Go.Proofs.Ytbenbfhpbnepmaa.P
open Go.RowKit Go.Proofs.YtbenbfhpbnepmaaW.PrintWords
set_option linter.unusedVariables false
set_option linter.unusedSimpArgs false

def fullN (w h : Int) : Nat := 2 ^ gapsN w h - 1
theorem fullN_lt (w h : Int) : fullN w h < 2 ^ gapsN w h := by unfold fullN; have := Nat.two_pow_pos (gapsN w h); omega
theorem full_val {w h : Int} : wrap64 ((shl .i64 1 (gapsOf w h)) - 1) = ((fullN w h : Nat) : Int) := by
  have hc := gapsOf_range w h
  have hp := pow_le hc.1 hc.2
  rw [shl_one hc.1 hc.2, wrap64_id (by omega) (by omega)]
  unfold fullN gapsN
  have h1 := Nat.two_pow_pos (gapsOf w h).toNat
  have h2 := Int.natCast_pow 2 (gapsOf w h).toNat
  simp only [Int.cast_ofNat_Int] at h2
  omega
theorem impl_FullMaze_eq {w h : Int} (hg : gridOk w h = true) : impl_FullMaze.f w h = some (w, h, ((fullN w h : Nat) : Int)) := by
  unfold impl_FullMaze.f
  rw [impl_GridOk_eq, Option.bind_some, if_pos hg, impl_CountGaps_eq, Option.bind_some, if_pos (gapsOf_range w h).1, full_val]
end Go.Proofs.Ytbenbfhpbnepmaa.P
namespace Go.Proofs.Ytbenbfhpbnepmaa.P
open Go.RowKit Go.Proofs.YtbenbfhpbnepmaaW.PrintWords
set_option linter.unusedVariables false
set_option linter.unusedSimpArgs false

def mkM (w h : Int) (n : Nat) : S40 := ⟨⟨w, h⟩, (n : Int)⟩
section
variable {w h : Int}
theorem full_bit {w h : Int} {g : Nat} (hg : g < gapsN w h) : (fullN w h).testBit g = true := by
  unfold fullN
  rw [Nat.testBit_two_pow_sub_one]
  simp [hg]
def treesG (w h : Int) : List Nat := treesL (ends w h) (cellsN w h) (gapsN w h)
theorem treesG_lt {s : Nat} (hs : s ∈ treesG w h) : s < 2 ^ gapsN w h := List.mem_range.1 (List.mem_filter.1 hs).1
theorem full_ok (hg : gridOk w h = true) : mazeOk w h (fullN w h : Nat) = true := mazeOk_iff.2 ⟨hg, _, rfl, fullN_lt w h⟩
theorem impl_List_l0 (hg : gridOk w h = true) (h12 : gapsN w h ≤ 12) : ∀ (e i : Nat) (out : List S40), i + e = 2 ^ gapsN w h → out.length ≤ i →
    Ev (fun k => impl_ListTrees.l0 k out i w h (fullN w h : Nat)) (out ++ ((List.range' i e).filter (fun s => perfN w h s)).map (mkM w h))
  | 0, i, out, he, ho => by
    have hf : fullN w h + 1 = 2 ^ gapsN w h := by have := Nat.two_pow_pos (gapsN w h); unfold fullN; omega
    refine Ev.step (fun _ => impl_ListTrees.l0.eq_2 ..) (Ev.ff (by omega) (Ev.ret ?_))
    simp
  | e + 1, i, out, he, ho => by
    have hf : fullN w h + 1 = 2 ^ gapsN w h := by have := Nat.two_pow_pos (gapsN w h); unfold fullN; omega
    have hb : 2 ^ gapsN w h ≤ 2 ^ 12 := Nat.pow_le_pow_right (by decide) h12
    have hi : i < 2 ^ gapsN w h := by omega
    have hcc := cellsN_cast w h
    have hcl := cellsN_le w h
    have hcp := cells_pos hg
    refine Ev.step (fun _ => impl_ListTrees.l0.eq_2 ..) (Ev.tt (by omega) ?_)
    rw [bits_andNot (a := i) (b := fullN w h) (by omega) (by omega)]
    have ha : andNot i (fullN w h) = 0 := by
      refine Nat.eq_of_testBit_eq fun j => ?_
      rw [testBit_andNot, Nat.zero_testBit]
      by_cases hj : j < gapsN w h
      · rw [full_bit hj]; simp
      · rw [Nat.testBit_lt_two_pow (Nat.lt_of_lt_of_le hi (Nat.pow_le_pow_right (by decide) (by omega)))]; rfl
    rw [ha, List.range'_succ, List.filter_cons]
    have hu : IntKind.u64.wrap (i : Int) = (i : Int) := by unfold IntKind.wrap; simp [IntKind.bits, IntKind.signed]; omega
    refine Ev.tt rfl ?_
    rw [hu]
    refine Ev.bnd0 (ones_eq' (gapsN_le w h) hi) (Ev.bnd0 (impl_CountCells_eq ..) (Ev.step (fun _ => impl_ListTrees.j2.eq_2 ..) ?_))
    rw [wrap64_id (x := cellsOf w h - 1) (by omega) (by omega), wsucc (by omega)]
    refine Ev.ite (fun e1 => ?_) (fun e1 => ?_)
    · have hpf : perfN w h i = false := by
        unfold perfN perf
        rw [decide_eq_false_iff_not]
        intro hh
        rw [bne_iff_ne] at e1
        omega
      rw [hpf, if_neg (by decide)]
      exact impl_List_l0 hg h12 e (i + 1) out (by omega) (by omega)
    · refine Ev.bind (impl_IsPerfect_ev hg hi) (Ev.ite (fun e2 => ?_) (fun e2 => ?_))
      · rw [if_pos e2]
        refine Ev.tt (by omega) (Ev.eq (impl_List_l0 hg h12 e (i + 1) (out ++ [mkM w h i]) (by omega) (by simp; omega)) ?_)
        simp
      · rw [if_neg e2]
        exact impl_List_l0 hg h12 e (i + 1) out (by omega) (by omega)
theorem impl_ListTrees_ev (hg : gridOk w h = true) (h12 : gapsN w h ≤ 12) : Ev (fun k => impl_ListTrees.f k w h (fullN w h : Nat)) ((treesG w h).map (mkM w h)) := by
  have hp := pop_le (gapsN w h) (fullN w h)
  unfold impl_ListTrees.f
  refine Ev.bnd0 (impl_MazeOk_eq ..) (Ev.tt (full_ok hg) (Ev.bnd0 (impl_CountPassages_eq hg (fullN_lt w h)) (Ev.step (fun _ => impl_ListTrees.j0.eq_2 ..) (Ev.ff (by rw [decide_eq_true_eq]; omega) ?_))))
  have := impl_List_l0 hg h12 (2 ^ gapsN w h) 0 [] (by omega) (by simp)
  rw [List.nil_append, ← List.range_eq_range'] at this
  exact this
/-- Is it the same after half a turn? -/
def tB (w h : Int) (s : Nat) : Bool := ((w == w && (h == h)) && (((moved (turnF w h) w h w h s : Nat) : Int) == (s : Int)))
theorem impl_IsTurned_ev (hg : gridOk w h = true) {s : Nat} (hs : s < 2 ^ gapsN w h) : Ev (fun k => impl_IsTurned.f k w h s) (tB w h s) := by
  unfold impl_IsTurned.f
  exact Ev.bnd0 (impl_MazeOk_eq ..) (Ev.tt (mazeOk_iff.2 ⟨hg, s, rfl, hs⟩) (Ev.bind (impl_TurnMaze_ev hg hs) (Ev.ret rfl)))
theorem rd_mk {L : List Nat} {i : Nat} (hi : i < L.length) : rd_T40 (L.map (mkM w h)) (i : Int) = mkM w h L[i] := by
  simp [rd_T40, List.getD_eq_getElem?_getD, List.getElem?_eq_getElem hi]
theorem impl_count_l0 (hg : gridOk w h = true) {L : List Nat} (hL : ∀ s ∈ L, s < 2 ^ gapsN w h) (hlen : L.length ≤ 4096) : ∀ (e i c : Nat), L.length - i = e → i ≤ L.length → c ≤ i →
    Ev (fun k => impl_CountTurned.l0 k c (L.map (mkM w h)) ((L.map (mkM w h)).length : Int) i) ((c + (L.drop i).countP (tB w h) : Nat) : Int)
  | 0, i, c, he, hi, hc => by
    refine Ev.step (fun _ => impl_CountTurned.l0.eq_2 ..) (Ev.ff (by rw [List.length_map]; omega) (Ev.ret ?_))
    rw [List.drop_eq_nil_of_le (by omega)]
    simp
  | e + 1, i, c, he, hi, hc => by
    refine Ev.step (fun _ => impl_CountTurned.l0.eq_2 ..) (Ev.tt (by rw [List.length_map]; omega) (Ev.tt (by omega) (Ev.tt (by rw [List.length_map]; omega) ?_)))
    rw [rd_mk (show i < L.length by omega), List.drop_eq_getElem_cons (show i < L.length by omega), List.countP_cons, wsucc (by omega), wsucc (by omega)]
    refine Ev.bind (impl_IsTurned_ev hg (hL _ (List.getElem_mem _))) (Ev.ite (fun e1 => ?_) (fun e1 => ?_))
    · refine Ev.eq (impl_count_l0 hg hL hlen e (i + 1) (c + 1) (by omega) (by omega) (by omega)) ?_
      rw [if_pos e1]; omega
    · refine Ev.eq (impl_count_l0 hg hL hlen e (i + 1) c (by omega) (by omega) (by omega)) ?_
      rw [if_neg e1]; omega
end
theorem treesG_len {w h : Int} (h12 : gapsN w h ≤ 12) : (treesG w h).length ≤ 4096 := by
  unfold treesG treesL
  have hb : 2 ^ gapsN w h ≤ 2 ^ 12 := Nat.pow_le_pow_right (by decide) h12
  have := List.length_filter_le (fun s => perf (ends w h) (cellsN w h) (gapsN w h) s) (List.range (2 ^ gapsN w h))
  rw [List.length_range] at this
  omega
theorem impl_CountTurned_ev {w h : Int} (hg : gridOk w h = true) (h12 : gapsN w h ≤ 12) : Ev (fun k => impl_CountTurned.f k w h) (((treesG w h).countP (tB w h) : Nat) : Int) := by
  have hc := gapsN_cast w h
  have hperf : Ev (fun k => impl_perfect.f k w h) ((treesG w h).map (mkM w h), true) := by
    unfold impl_perfect.f
    refine Ev.bnd0 (impl_GridOk_eq ..) (Ev.tt hg (Ev.bnd0 (impl_CountGaps_eq ..) (Ev.step (fun _ => impl_perfect.j0.eq_2 ..) (Ev.ff (by rw [decide_eq_true_eq]; omega) (Ev.bnd0 (impl_FullMaze_eq hg) ?_)))))
    exact Ev.bind (impl_ListTrees_ev hg h12) (Ev.ret rfl)
  unfold impl_CountTurned.f
  refine Ev.bnd0 (impl_GridOk_eq ..) (Ev.tt hg (Ev.bind hperf (Ev.tt rfl ?_)))
  refine Ev.eq (impl_count_l0 hg (fun s hs => treesG_lt hs) (treesG_len h12) _ 0 0 rfl (by omega) (by omega)) ?_
  rw [List.drop_zero, Nat.zero_add]
end Go.Proofs.Ytbenbfhpbnepmaa.P
namespace Go.Proofs.Ytbenbfhpbnepmaa.P
open Go.RowKit Go.Proofs.YtbenbfhpbnepmaaW.PrintWords
set_option linter.unusedVariables false
set_option linter.unusedSimpArgs false

section
variable {e : Nat → Nat × Nat} {V E : Nat}
/-- Labels P tell the parts of o; no loop; what was looked at is joined. -/
structure KInv (e : Nat → Nat × Nat) (V E : Nat) (done : Nat → Prop) (P : Nat → Int) (o : Nat) : Prop where
  lt : o < 2 ^ E
  lab : ∀ x y, x < V → y < V → (P x = P y ↔ Cn e o x y)
  fo : pop E o + parts e V E o = V
  dn : ∀ g, g < E → done g → Cn e o (e g).1 (e g).2
theorem pop_zero' (E : Nat) : pop E 0 = 0 := by
  induction E with
  | zero => rfl
  | succ m ih => simp only [pop, Nat.zero_testBit, ih]; rfl
theorem KInv.start {P : Nat → Int} (hP : ∀ x, P x = x) : KInv e V E (fun _ => False) P 0 := by
  refine ⟨Nat.two_pow_pos E, fun x y _ _ => ?_, ?_, fun _ _ h => h.elim⟩
  · rw [hP, hP, Cn_zero]
    omega
  · rw [parts_zero, pop_zero', Nat.zero_add]
theorem KInv.skip {done : Nat → Prop} {P : Nat → Int} {o g : Nat} (hG : Gr e V E) (K : KInv e V E done P o) (hg : g < E) (h : P (e g).1 = P (e g).2) : KInv e V E (fun j => done j ∨ j = g) P o :=
  ⟨K.lt, K.lab, K.fo, fun j hj hd => hd.elim (K.dn j hj) (fun h2 => by subst h2; exact (K.lab _ _ (hG j hg).1 (hG j hg).2).1 h)⟩
theorem KInv.join {done : Nat → Prop} {P : Nat → Int} {o g : Nat} (hG : Gr e V E) (K : KInv e V E done P o) (hg : g < E) (h : ¬ P (e g).1 = P (e g).2) :
    KInv e V E (fun j => done j ∨ j = g) (fun x => if P x = P (e g).2 then P (e g).1 else P x) (setB o g true) := by
  obtain ⟨g1, g2⟩ := hG g hg
  have hnc : ¬ Cn e o (e g).1 (e g).2 := fun hc => h ((K.lab _ _ g1 g2).2 hc)
  have hb : o.testBit g = false := by
    cases hb : o.testBit g
    · rfl
    · exact absurd (Cn.edge hb) hnc
  refine ⟨setB_lt true K.lt hg, fun x y hx hy => ?_, ?_, fun j hj hd => ?_⟩
  · rw [Cn_add, ← K.lab x y hx hy, ← K.lab x _ hx g1, ← K.lab _ y g2 hy, ← K.lab x _ hx g2, ← K.lab _ y g1 hy]
    show (if P x = P (e g).2 then P (e g).1 else P x) = (if P y = P (e g).2 then P (e g).1 else P y) ↔ _
    by_cases e1 : P x = P (e g).2 <;> by_cases e2 : P y = P (e g).2
    · rw [if_pos e1, if_pos e2, e1, e2]; simp
    · rw [if_pos e1, if_neg e2]
      constructor
      · intro e3; exact Or.inr (Or.inr ⟨e1, e3⟩)
      · rintro (e3 | ⟨e3, e4⟩ | ⟨_, e4⟩)
        · exact absurd (e3.symm.trans e1) e2
        · exact absurd e4.symm e2
        · exact e4
    · rw [if_neg e1, if_pos e2]
      constructor
      · intro e3; exact Or.inr (Or.inl ⟨e3, e2.symm⟩)
      · rintro (e3 | ⟨e3, _⟩ | ⟨e3, _⟩)
        · exact absurd (e3.trans e2) e1
        · exact e3
        · exact absurd e3 e1
    · rw [if_neg e1, if_neg e2]
      constructor
      · exact Or.inl
      · rintro (e3 | ⟨_, e4⟩ | ⟨e3, _⟩)
        · exact e3
        · exact absurd e4.symm e2
        · exact absurd e3 e1
  · have h1 := (parts_add (v := V) K.lt hg g1 g2).2 hnc
    have h2 := K.fo
    rw [pop_setB hg hb]
    omega
  · rcases hd with hd | rfl
    · exact Cn.mono (fun i hi => by rw [testBit_setB]; split <;> simp_all) (K.dn j hj hd)
    · have : (setB o j true).testBit j = true := setB_bit o j true
      exact Cn.edge this
/-- Where all gaps were looked at, and all gaps together join all cells: perfect. -/
theorem KInv.perfect {done : Nat → Prop} {P : Nat → Int} {o full : Nat} (K : KInv e V E done P o) (hV : 0 < V) (hd : ∀ g, g < E → done g) (hfl : full < 2 ^ E) (hfull : ∀ x, x < V → Cn e full 0 x) : perf e V E o = true := by
  have hmap : ∀ x y, Cn e full x y → Cn e o x y := by
    intro x y hc
    induction hc with
    | refl => exact .refl _
    | fwd k hk _ ih => exact ih.trans (K.dn k (lt_of_testBit hfl hk) (hd k (lt_of_testBit hfl hk)))
    | bwd k hk _ ih => exact ih.trans (K.dn k (lt_of_testBit hfl hk) (hd k (lt_of_testBit hfl hk))).symm
  have h1 : parts e V E o = 1 := (parts_one K.lt hV).2 fun x hx => hmap _ _ (hfull x hx)
  have h2 := K.fo
  rw [perf_iff]
  omega
end
/-- All gaps of a grid join all its cells. -/
theorem nb_down_all : (List.range 5).all (fun W => (List.range 5).all fun H => (List.range 16).all fun c => decide (c = 0) || decide (¬ (c : Int) < cellsOf W H) ||
    (decide (0 ≤ nbI W H c 3 ∧ nbI W H c 3 < c) || decide (0 ≤ nbI W H c 0 ∧ nbI W H c 0 < c))) = true := by decide +kernel
theorem full_conn {w h : Int} (hg : gridOk w h = true) {full : Nat} (hf : ∀ g, g < gapsN w h → full.testBit g = true) : ∀ x, x < cellsN w h → Cn (ends w h) full 0 x := by
  intro x
  induction x using Nat.strongRecOn with
  | _ x ih =>
    intro hx
    have hc := cellsN_cast w h
    have hl := cellsN_le w h
    by_cases h0 : x = 0
    · subst h0; exact .refl _
    obtain ⟨W, H, rfl, rfl, _, w5, _, h5⟩ := grid_nat hg
    have := List.all_eq_true.1 (List.all_eq_true.1 (List.all_eq_true.1 nb_down_all W (List.mem_range.2 w5)) H (List.mem_range.2 h5)) x (List.mem_range.2 (by omega))
    simp only [Bool.or_eq_true, decide_eq_true_eq] at this
    have hd : ∃ d : Int, 0 ≤ nbI W H x d ∧ nbI W H x d < x := by
      rcases this with (h | h) | (h | h)
      · exact absurd h h0
      · exact absurd (show (x : Int) < cellsOf W H by omega) h
      · exact ⟨3, h⟩
      · exact ⟨0, h⟩
    obtain ⟨d, d0, d1⟩ := hd
    rcases step_facts W H x d with ⟨f1, _⟩ | ⟨f1, f2, f3, f4, f5, f6, _⟩
    · omega
    have hgc := gapsN_cast W H
    obtain ⟨g, hgg⟩ : ∃ g : Nat, gapI W H x d = g := ⟨(gapI W H x d).toNat, by omega⟩
    have hgl : g < gapsN W H := by omega
    obtain ⟨y, hy⟩ : ∃ y : Nat, nbI W H x d = y := ⟨(nbI W H x d).toNat, by omega⟩
    have he : ends W H g = (y, x) := by
      rw [hgg, hy] at f6
      unfold ends
      rw [f6]
      rw [hy] at d1
      have m1 : min (x : Int) (y : Int) = y := by omega
      have m2 : max (x : Int) (y : Int) = x := by omega
      rw [m1, m2]
      simp
    have hyx : Cn (ends W H) full y x := by
      have := Cn.edge (e := ends W H) (hf g hgl)
      rwa [he] at this
    exact (ih y (by omega) (by omega)).trans hyx
end Go.Proofs.Ytbenbfhpbnepmaa.P
namespace Go.Proofs.Ytbenbfhpbnepmaa.P
open Go.RowKit Go.Proofs.YtbenbfhpbnepmaaW.PrintWords
set_option linter.unusedVariables false
set_option linter.unusedSimpArgs false

theorem pop_even {E : Nat} {G : Nat → Nat} (hG : ∀ g, g < E → G g < E ∧ G (G g) = g ∧ G g ≠ g) : ∀ m s, pop E s = m → (∀ g, g < E → s.testBit g = true → s.testBit (G g) = true) → m % 2 = 0 := by
  intro m
  induction m using Nat.strongRecOn with
  | _ m ih =>
    intro s hp hs
    by_cases he : ∃ g, g < E ∧ s.testBit g = true
    · obtain ⟨g, hg, hb⟩ := he
      obtain ⟨g1, g2, g3⟩ := hG g hg
      have hb2 := hs g hg hb
      have p1 := pop_setB (m := E) (n := setB s g false) hg (setB_bit s g false)
      rw [setB_off_on hb] at p1
      have hb3 : (setB s g false).testBit (G g) = true := by rw [setB_ne false g3]; exact hb2
      have p2 := pop_setB (m := E) (n := setB (setB s g false) (G g) false) g1 (setB_bit _ _ false)
      rw [setB_off_on hb3] at p2
      have := ih (pop E (setB (setB s g false) (G g) false)) (by omega) _ rfl (fun j hj hbj => by
        have j1 : j ≠ G g := by rintro rfl; rw [setB_bit] at hbj; cases hbj
        rw [setB_ne false j1] at hbj
        have j2 : j ≠ g := by rintro rfl; rw [setB_bit] at hbj; cases hbj
        rw [setB_ne false j2] at hbj
        obtain ⟨_, j4, _⟩ := hG j hj
        have j5 : G j ≠ G g := fun e => j2 (by rw [← j4, e, g2])
        have j6 : G j ≠ g := fun e => j1 (by rw [← j4, e])
        rw [setB_ne false j5, setB_ne false j6]
        exact hs j hj hbj)
      omega
    · have : pop E s = pop E 0 := pop_congr fun i hi => by
        rw [Nat.zero_testBit]
        cases hb : s.testBit i
        · rfl
        · exact absurd ⟨i, hi, hb⟩ he
      rw [this, pop_zero'] at hp
      omega
theorem mvFrom_bit {F : Int → Int} {w h w2 h2 : Int} {n : Nat} {j : Nat} : ∀ (d g o : Nat), (mvFrom F w h w2 h2 n d g o).testBit j = true ↔ o.testBit j = true ∨ ∃ g', g ≤ g' ∧ g' < g + d ∧ n.testBit g' = true ∧ gapMv F w h w2 h2 g' = j
  | 0, g, o => by
    unfold mvFrom
    constructor
    · exact Or.inl
    · rintro (h | ⟨g', h1, h2, _⟩)
      · exact h
      · omega
  | d + 1, g, o => by
    unfold mvFrom
    rw [mvFrom_bit d (g + 1) _]
    unfold mvStep
    constructor
    · rintro (hx | ⟨g', i1, i2, i3, i4⟩)
      · by_cases hb : n.testBit g = true
        · rw [if_pos hb, testBit_setB] at hx
          by_cases e : j = gapMv F w h w2 h2 g
          · exact Or.inr ⟨g, Nat.le_refl _, by omega, hb, e.symm⟩
          · rw [if_neg e] at hx; exact Or.inl hx
        · rw [if_neg hb] at hx; exact Or.inl hx
      · exact Or.inr ⟨g', by omega, by omega, i3, i4⟩
    · rintro (h | ⟨g', h1, h2, h3, h4⟩)
      · refine Or.inl ?_
        split
        · rw [testBit_setB]; split
          · rfl
          · exact h
        · exact h
      · by_cases e : g' = g
        · subst e
          refine Or.inl ?_
          rw [if_pos h3, ← h4, setB_bit]
        · exact Or.inr ⟨g', by omega, by omega, h3, h4⟩
theorem moved_bit {F : Int → Int} {w h w2 h2 : Int} {n : Nat} {g : Nat} (hg : g < gapsN w h) (hb : n.testBit g = true) : (moved F w h w2 h2 n).testBit (gapMv F w h w2 h2 g) = true := by
  unfold moved
  rw [mvFrom_bit]
  exact Or.inr ⟨g, Nat.zero_le _, by omega, hb, rfl⟩
def halfB (W H g : Nat) : Bool := decide (¬ g < gapsN W H) || (decide (gapMv (turnF W H) W H W H g < gapsN W H) && decide (gapMv (turnF W H) W H W H (gapMv (turnF W H) W H W H g) = g) && decide (gapMv (turnF W H) W H W H g ≠ g))
theorem half_all : ([2, 4] : List Nat).all (fun W => ([2, 4] : List Nat).all fun H => (List.range 24).all fun g => halfB W H g) = true := by decide +kernel
theorem half_not {w h : Int} (hg : gridOk w h = true) (hw : w % 2 = 0) (hh : h % 2 = 0) {s : Nat} (hp : perfN w h s = true) : moved (turnF w h) w h w h s ≠ s := by
  intro hm
  obtain ⟨W, H, rfl, rfl, w1, w5, h1, h5⟩ := grid_nat hg
  have hW : W ∈ ([2, 4] : List Nat) := by have : W = 2 ∨ W = 4 := by omega
                                          rcases this with rfl | rfl <;> simp
  have hH : H ∈ ([2, 4] : List Nat) := by have : H = 2 ∨ H = 4 := by omega
                                          rcases this with rfl | rfl <;> simp
  have hl := gapsN_le W H
  have hG : ∀ g, g < gapsN W H → gapMv (turnF W H) W H W H g < gapsN W H ∧ gapMv (turnF W H) W H W H (gapMv (turnF W H) W H W H g) = g ∧ gapMv (turnF W H) W H W H g ≠ g := by
    intro g hgg
    have := List.all_eq_true.1 (List.all_eq_true.1 (List.all_eq_true.1 half_all W hW) H hH) g (List.mem_range.2 (by omega))
    unfold halfB at this
    simp only [Bool.or_eq_true, Bool.and_eq_true, decide_eq_true_eq] at this
    rcases this with h | ⟨⟨h1, h2⟩, h3⟩
    · exact absurd hgg h
    · exact ⟨h1, h2, h3⟩
  have he := pop_even hG (pop (gapsN W H) s) s rfl (fun g hgg hb => by
    have := moved_bit (F := turnF W H) (w2 := W) (h2 := H) hgg hb
    rwa [hm] at this)
  have hpp := (perf_iff.1 hp).2
  have hcc := cellsN_cast W H
  have hev : cellsOf (W : Int) H % 2 = 0 := by
    unfold cellsOf
    rw [if_pos hg]
    have : W = 2 ∨ W = 4 := by omega
    rcases this with rfl | rfl <;> omega
  omega
/-! A step of a way by hand -/
theorem cnE {w h : Int} {s g a b : Nat} (hb : s.testBit g = true) (he : ends w h g = (a, b)) : Cn (ends w h) s a b := by
  have := Cn.edge (e := ends w h) hb
  rwa [he] at this
end Go.Proofs.Ytbenbfhpbnepmaa.P
namespace Go.Proofs.Ytbenbfhpbnepmaa.P
open Go Go.RowKit Go.Proofs.YtbenbfhpbnepmaaW.PrintWords
set_option linter.unusedVariables false
set_option linter.unusedSimpArgs false

theorem bits_255 (x : Int) : 0 ≤ Go.bits .and .i64 x 255 ∧ Go.bits .and .i64 x 255 ≤ 255 := by
  have h : (BitVec.ofInt 64 x &&& BitVec.ofInt 64 255).toNat ≤ 255 := by
    rw [BitVec.toNat_and]
    exact Nat.and_le_right
  show 0 ≤ IntKind.i64.wrap ((BitVec.ofInt 64 x &&& BitVec.ofInt 64 255).toNat : Int) ∧ IntKind.i64.wrap ((BitVec.ofInt 64 x &&& BitVec.ofInt 64 255).toNat : Int) ≤ 255
  rw [wrap_small (by omega)]
  omega
section
variable {l : List Int}
theorem spec_New_l0 (hl : l.length ≤ 1048576) : ∀ (e i : Nat) (h : Int), l.length - i = e → ∃ h', Ev (fun k => spec_l01New.l0 k l h i) (l, 0, h')
  | 0, i, h, he => ⟨h, Ev.step (fun _ => spec_l01New.l0.eq_2 ..) (Ev.ff (by omega) (Ev.ret rfl))⟩
  | e + 1, i, h, he => by
    by_cases h4 : (i : Int) < 4000
    · obtain ⟨h', ih⟩ := spec_New_l0 hl e (i + 1) (Go.bits .and .i64 (wrap64 ((wrap64 ((wrap64 (h * 131)) + (wrap64 (rd l i)))) + 7)) 1073741823) (by omega)
      refine ⟨h', Ev.step (fun _ => spec_l01New.l0.eq_2 ..) (Ev.tt (by omega) (Ev.tt h4 (Ev.tt (by omega) ?_)))⟩
      rw [wsucc (by omega)]
      exact ih
    · exact ⟨h, Ev.step (fun _ => spec_l01New.l0.eq_2 ..) (Ev.tt (by omega) (Ev.ff h4 (Ev.ret rfl)))⟩
theorem spec_New_ev (hl : l.length ≤ 1048576) : ∃ h', Ev (fun k => spec_l01New.f k l) (l, 0, h') := spec_New_l0 hl l.length 0 _ rfl
theorem spec_Byte_eq (hl : l.length ≤ 1048576) {i : Int} (hi : 0 ≤ i) (h : Int) : ∃ b i' h', spec_l01Byte.f l i h = some (b, i', h') ∧ 0 ≤ b ∧ b ≤ 255 ∧ 0 ≤ i' := by
  unfold spec_l01Byte.f
  by_cases e : i < (l.length : Int)
  · rw [if_pos e, if_pos hi]
    exact ⟨_, _, _, rfl, (bits_255 _).1, (bits_255 _).2, by rw [wrap64_id (by omega) (by omega)]; omega⟩
  · rw [if_neg e]
    exact ⟨_, _, _, rfl, (bits_255 _).1, (bits_255 _).2, hi⟩
theorem spec_Below_eq (hl : l.length ≤ 1048576) {i : Int} (hi : 0 ≤ i) (h : Int) {n : Int} (h1 : 1 ≤ n) (h2 : n ≤ 256) : ∃ b i' h', spec_l01Below.f l i h n = some (b, i', h') ∧ 0 ≤ b ∧ b < n ∧ 0 ≤ i' := by
  obtain ⟨b, i', h', e, b0, b1, hi'⟩ := spec_Byte_eq hl hi h
  unfold spec_l01Below.f
  rw [if_neg (by omega), if_pos h2, e, Option.bind_some, if_neg (by omega)]
  exact ⟨_, _, _, rfl, Int.tmod_nonneg _ b0, Int.tmod_lt_of_pos _ (by omega), hi'⟩
theorem spec_Pick_eq (hl : l.length ≤ 1048576) {i : Int} (hi : 0 ≤ i) (h : Int) : ∃ (j : Nat) (i' h' : Int), spec_l01PickInt.f l i h [1, 2, 3, 3, 4] = some (rd [1, 2, 3, 3, 4] (j : Int), i', h') ∧ j < 5 ∧ 0 ≤ i' := by
  obtain ⟨b, i', h', e, b0, b1, hi'⟩ := spec_Below_eq hl hi h (n := 5) (by omega) (by omega)
  unfold spec_l01PickInt.f
  show ∃ (j : Nat) (i'' h'' : Int), (spec_l01Below.f l i h 5).bind _ = _ ∧ _
  rw [e, Option.bind_some, if_pos b0]
  refine ⟨b.toNat, i', h', ?_, by omega, hi'⟩
  rw [if_pos (show b < (([1, 2, 3, 3, 4] : List Int).length : Int) from b1), Int.toNat_of_nonneg b0]
theorem pick_ok {j : Nat} (hj : j < 5) : 1 ≤ rd [1, 2, 3, 3, 4] (j : Int) ∧ rd [1, 2, 3, 3, 4] (j : Int) ≤ 4 := by
  have : j = 0 ∨ j = 1 ∨ j = 2 ∨ j = 3 ∨ j = 4 := by omega
  rcases this with rfl | rfl | rfl | rfl | rfl <;> decide
theorem spec_Grid_eq (hl : l.length ≤ 1048576) {i : Int} (hi : 0 ≤ i) (h : Int) : ∃ w hh i' h', spec_l02Grid.f l i h = some (w, hh, i', h') ∧ gridOk w hh = true ∧ 0 ≤ i' := by
  obtain ⟨j, i1, h1, e1, hj, hi1⟩ := spec_Pick_eq hl hi h
  obtain ⟨j2, i2, h2, e2, hj2, hi2⟩ := spec_Pick_eq hl hi1 h1
  unfold spec_l02Grid.f
  rw [e1, Option.bind_some, e2, Option.bind_some]
  refine ⟨_, _, _, _, rfl, gridOk_iff.2 ?_, hi2⟩
  have := pick_ok hj
  have := pick_ok hj2
  omega
end
/-! The step that the draw takes -/
theorem spec_Common_ev : ∀ (b a : Nat), Ev (fun k => spec_l03Common.f k a b) (decide (Nat.gcd a b > 1)) := by
  intro b
  induction b using Nat.strongRecOn with
  | _ b ih =>
    intro a
    by_cases h0 : b = 0
    · subst h0
      refine Ev.step (g := fun k => spec_l03Common.f k a (0 : Nat)) (fun _ => spec_l03Common.l0.eq_2 ..) (Ev.ff (by omega) (Ev.ret ?_))
      rw [Nat.gcd_zero_right, decide_eq_decide]
      omega
    · refine Ev.step (g := fun k => spec_l03Common.f k a b) (fun _ => spec_l03Common.l0.eq_2 ..) (Ev.tt (by omega) (Ev.ff (by omega) ?_))
      rw [Int.tmod_eq_emod_of_nonneg (by omega), ← Int.natCast_emod]
      refine Ev.eq (ih (a % b) (Nat.mod_lt _ (by omega)) b) ?_
      rw [decide_eq_decide, Nat.gcd_comm b (a % b), ← Nat.gcd_rec, Nat.gcd_comm b a]
def coverB (n s : Nat) : Bool := (List.range n).all fun g => (List.range n).any fun k => decide ((k * s) % n = g)
theorem cover_all : (List.range 25).all (fun n => (List.range n).all fun s => decide (¬ Nat.gcd s n = 1) || coverB n s) = true := by decide +kernel
theorem cover {n step first : Nat} (hn : n < 25) (h0 : 0 < n) (hg : Nat.gcd step n ≤ 1) {g : Nat} (hgn : g < n) : ∃ k, k < n ∧ (first + k * step) % n = g := by
  have hs : step % n < n := Nat.mod_lt _ h0
  have h1 : Nat.gcd (step % n) n = 1 := by
    have e : Nat.gcd (step % n) n = Nat.gcd step n := by rw [Nat.gcd_comm step n, ← Nat.gcd_rec]
    rw [e]
    have : 0 < Nat.gcd step n := Nat.gcd_pos_of_pos_right _ h0
    omega
  have := List.all_eq_true.1 (List.all_eq_true.1 cover_all n (List.mem_range.2 hn)) (step % n) (List.mem_range.2 hs)
  simp only [Bool.or_eq_true, decide_eq_true_eq] at this
  have hc : coverB n (step % n) = true := this.resolve_left (fun h => h h1)
  unfold coverB at hc
  have hx : (g + (n - first % n)) % n < n := Nat.mod_lt _ h0
  have := List.all_eq_true.1 hc ((g + (n - first % n)) % n) (List.mem_range.2 hx)
  obtain ⟨k, hk, hkk⟩ := List.any_eq_true.1 this
  refine ⟨k, List.mem_range.1 hk, ?_⟩
  have hk2 := of_decide_eq_true hkk
  rw [Nat.mul_mod_mod] at hk2
  have hf : first % n < n := Nat.mod_lt _ h0
  rw [Nat.add_mod, hk2, Nat.add_mod_mod, ← Nat.mod_add_mod (first % n), Nat.mod_mod]
  rw [show first % n + (g + (n - first % n)) = g + n by omega, Nat.add_mod_right, Nat.mod_eq_of_lt hgn]
/-! Labels as a table -/
def tabL (P : Nat → Int) (V : Nat) : List Int := (List.range V).map P
theorem tabL_length (P : Nat → Int) (V : Nat) : (tabL P V).length = V := by simp [tabL]
theorem tabL_rd {P : Nat → Int} {V c : Nat} (h : c < V) : rd (tabL P V) (c : Int) = P c := by
  rw [rd_get (by rw [tabL_length]; exact h)]
  simp [tabL]
theorem tabL_congr {P Q : Nat → Int} {V : Nat} (h : ∀ x, x < V → P x = Q x) : tabL P V = tabL Q V := List.map_congr_left fun x hx => h x (List.mem_range.1 hx)
theorem tabL_set (P : Nat → Int) (V i : Nat) (v : Int) : (tabL P V).set i v = tabL (fun x => if x = i then v else P x) V := by
  refine List.ext_getElem (by simp [tabL]) fun j h1 h2 => ?_
  rw [List.getElem_set]
  simp only [tabL, List.getElem_map, List.getElem_range]
  by_cases e : i = j
  · subst e; simp
  · rw [if_neg e, if_neg (fun h => e h.symm)]
theorem KInv.weak {e : Nat → Nat × Nat} {V E : Nat} {d d' : Nat → Prop} {P : Nat → Int} {o : Nat} (K : KInv e V E d P o) (h : ∀ g, d' g → d g) : KInv e V E d' P o := ⟨K.lt, K.lab, K.fo, fun g hg hd => K.dn g hg (h g hd)⟩
end Go.Proofs.Ytbenbfhpbnepmaa.P
namespace Go.Proofs.Ytbenbfhpbnepmaa.P
open Go Go.RowKit Go.Proofs.YtbenbfhpbnepmaaW.PrintWords
set_option linter.unusedVariables false
set_option linter.unusedSimpArgs false

section
variable {w h : Int} {xs : List Int} {i1 h1 : Int}
/-- The k-th gap that is looked at. -/
def gapN (n first step k : Nat) : Nat := (first + k * step) % n
theorem tree_l3 {n first step kk : Nat} {P : Nat → Int} {a : Nat} {old : Int} {o : Int} {r : Int × Int × Int × Int × Int} (ha : a < cellsN w h) (hne : ¬ P a = old)
    (hk : Ev (fun k => spec_l03Tree.l2 k n (tabL (fun x => if P x = old then P a else P x) (cellsN w h)) first step (wrap64 ((kk : Int) + 1)) xs i1 h1 w h w h o) r) : ∀ e i : Nat, i + e = cellsN w h →
    Ev (fun k => spec_l03Tree.l3 k n (tabL (fun x => if x < i ∧ P x = old then P a else P x) (cellsN w h)) first step kk a old i xs i1 h1 w h w h o) r
  | 0, i, he => by
    refine Ev.step (fun _ => spec_l03Tree.l3.eq_2 ..) (Ev.ff (by rw [tabL_length]; omega) ?_)
    rw [tabL_congr (Q := fun x => if P x = old then P a else P x) (fun x hx => by
      by_cases e : P x = old
      · rw [if_pos ⟨by omega, e⟩, if_pos e]
      · rw [if_neg (fun h => e h.2), if_neg e])]
    exact hk
  | e + 1, i, he => by
    have hl := cellsN_le w h
    have ih := tree_l3 (n := n) (first := first) (step := step) (kk := kk) (P := P) (old := old) (o := o) ha hne hk e (i + 1) (by omega)
    refine Ev.step (fun _ => spec_l03Tree.l3.eq_2 ..) (Ev.tt (by rw [tabL_length]; omega) (Ev.tt (by omega) ?_))
    rw [tabL_rd (show i < cellsN w h by omega), wsucc (show i < 4611686018427387904 by omega)]
    simp only [Nat.lt_irrefl, false_and, if_false]
    refine Ev.ite (fun e1 => ?_) (fun e1 => ?_)
    · refine Ev.tt (by omega) (Ev.tt (by rw [tabL_length]; omega) ?_)
      rw [tabL_rd ha, if_neg (fun h => hne h.2), Int.toNat_natCast, tabL_set]
      rw [tabL_congr (Q := fun x => if x < i + 1 ∧ P x = old then P a else P x) (fun x hx => by
        by_cases e2 : x = i
        · subst e2; rw [if_pos rfl, if_pos ⟨by omega, e1⟩]
        · rw [if_neg e2]
          by_cases e3 : x < i ∧ P x = old
          · rw [if_pos e3, if_pos ⟨by omega, e3.2⟩]
          · rw [if_neg e3, if_neg (fun h => e3 ⟨by omega, h.2⟩)])]
      exact ih
    · rw [tabL_congr (Q := fun x => if x < i + 1 ∧ P x = old then P a else P x) (fun x hx => by
        by_cases e3 : x < i ∧ P x = old
        · rw [if_pos e3, if_pos ⟨by omega, e3.2⟩]
        · rw [if_neg e3]
          by_cases e4 : x < i + 1 ∧ P x = old
          · have : x = i := by
              by_cases e5 : x < i
              · exact absurd ⟨e5, e4.2⟩ e3
              · omega
            subst this
            exact absurd e4.2 e1
          · rw [if_neg e4])]
      exact ih
theorem tree_l2 (hg : gridOk w h = true) {first step : Nat} (hf : first < 25) (hs : step < 100) : ∀ (e kk : Nat) (P : Nat → Int) (o : Nat), kk + e = gapsN w h →
    KInv (ends w h) (cellsN w h) (gapsN w h) (fun g => ∃ j, j < kk ∧ gapN (gapsN w h) first step j = g) P o →
    ∃ (P' : Nat → Int) (o' : Nat), KInv (ends w h) (cellsN w h) (gapsN w h) (fun g => ∃ j, j < gapsN w h ∧ gapN (gapsN w h) first step j = g) P' o' ∧
      Ev (fun k => spec_l03Tree.l2 k (gapsN w h : Nat) (tabL P (cellsN w h)) first step kk xs i1 h1 w h w h o) (w, h, (o' : Int), i1, h1)
  | 0, kk, P, o, he, K => by
    refine ⟨P, o, K.weak (fun g ⟨j, hj, e⟩ => ⟨j, by omega, e⟩), Ev.step (fun _ => spec_l03Tree.l2.eq_2 ..) (Ev.ff (by omega) (Ev.ret rfl))⟩
  | e + 1, kk, P, o, he, K => by
    have hgl := gapsN_le w h
    have hgc := gapsN_cast w h
    have hcl := cellsN_le w h
    have hgN : gapN (gapsN w h) first step kk < gapsN w h := Nat.mod_lt _ (by omega)
    have hkm : kk * step ≤ 24 * 100 := Nat.mul_le_mul (by omega) (by omega)
    have hgap : Int.tmod (wrap64 ((first : Int) + (wrap64 ((kk : Int) * (step : Int))))) (gapsN w h : Nat) = ((gapN (gapsN w h) first step kk : Nat) : Int) := by
      rw [show ((kk : Int) * (step : Int)) = ((kk * step : Nat) : Int) by rw [Int.natCast_mul], wrap64_id (x := ((kk * step : Nat) : Int)) (by omega) (by omega), wrap64_id (by omega) (by omega), Int.tmod_eq_emod_of_nonneg (by omega)]
      unfold gapN
      rw [Int.natCast_emod, Int.natCast_add]
    obtain ⟨f1, f2, f3⟩ := ends_facts hgN
    have hstep : ∀ {P' : Nat → Int} {o' : Nat}, KInv (ends w h) (cellsN w h) (gapsN w h) (fun j => (∃ j', j' < kk ∧ gapN (gapsN w h) first step j' = j) ∨ j = gapN (gapsN w h) first step kk) P' o' →
        KInv (ends w h) (cellsN w h) (gapsN w h) (fun g => ∃ j, j < kk + 1 ∧ gapN (gapsN w h) first step j = g) P' o' := fun K' => K'.weak (fun g ⟨j, hj, e2⟩ => by
          by_cases e3 : j < kk
          · exact Or.inl ⟨j, e3, e2⟩
          · have : j = kk := by omega
            subst this
            exact Or.inr e2.symm)
    by_cases he1 : P (ends w h (gapN (gapsN w h) first step kk)).1 = P (ends w h (gapN (gapsN w h) first step kk)).2
    · obtain ⟨P', o', K', ih⟩ := tree_l2 hg hf hs e (kk + 1) P o (by omega) (hstep (K.skip (gr_grid w h) hgN he1))
      refine ⟨P', o', K', Ev.step (fun _ => spec_l03Tree.l2.eq_2 ..) (Ev.tt (by omega) (Ev.ff (by omega) ?_))⟩
      rw [hgap, wsucc (show kk < 4611686018427387904 by omega)]
      refine Ev.bnd0 ((spec_EndsOf_eq w h _).trans (congrArg some f1)) ?_
      refine Ev.tt (by omega) (Ev.tt (by rw [tabL_length]; omega) (Ev.tt (by omega) (Ev.tt (by rw [tabL_length]; omega) ?_)))
      rw [tabL_rd (by omega), tabL_rd f3]
      exact Ev.tt he1 ih
    · obtain ⟨P', o', K', ih⟩ := tree_l2 hg hf hs e (kk + 1) _ (setB o (gapN (gapsN w h) first step kk) true) (by omega) (hstep (K.join (gr_grid w h) hgN he1))
      refine ⟨P', o', K', Ev.step (fun _ => spec_l03Tree.l2.eq_2 ..) (Ev.tt (by omega) (Ev.ff (by omega) ?_))⟩
      rw [hgap]
      refine Ev.bnd0 ((spec_EndsOf_eq w h _).trans (congrArg some f1)) ?_
      refine Ev.tt (by omega) (Ev.tt (by rw [tabL_length]; omega) (Ev.tt (by omega) (Ev.tt (by rw [tabL_length]; omega) ?_)))
      rw [tabL_rd (show (ends w h (gapN (gapsN w h) first step kk)).1 < cellsN w h by omega), tabL_rd f3]
      refine Ev.ff he1 (Ev.tt (by omega) ?_)
      have ho := open_small K.lt
      have hpw : 2 ^ gapN (gapsN w h) first step kk ≤ 2 ^ 24 := Nat.pow_le_pow_right (by decide) (by omega)
      rw [shl_pow (by omega), bits_or (by omega) (by omega), show o ||| 2 ^ gapN (gapsN w h) first step kk = setB o (gapN (gapsN w h) first step kk) true from rfl]
      have := tree_l3 (w := w) (h := h) (xs := xs) (i1 := i1) (h1 := h1) (n := gapsN w h) (first := first) (step := step) (kk := kk) (P := P) (a := (ends w h (gapN (gapsN w h) first step kk)).1) (old := P (ends w h (gapN (gapsN w h) first step kk)).2)
        (o := ((setB o (gapN (gapsN w h) first step kk) true : Nat) : Int)) (r := (w, h, (o' : Int), i1, h1)) (by omega) he1 (by rw [wsucc (show kk < 4611686018427387904 by omega)]; exact ih) (cellsN w h) 0 (by omega)
      rw [tabL_congr (Q := P) (fun x hx => if_neg (fun h => absurd h.1 (by omega)))] at this
      exact this
theorem tree_l1 (hg : gridOk w h = true) (h0 : 0 < gapsN w h) {first : Nat} (hf : first < 25) {P : Nat → Int} {o : Nat} (K : KInv (ends w h) (cellsN w h) (gapsN w h) (fun _ => False) P o) : ∀ d step : Nat, step + d = 2 * gapsN w h + 1 →
    ∃ o' : Nat, o' < 2 ^ gapsN w h ∧ perfN w h o' = true ∧ Ev (fun k => spec_l03Tree.l1 k (gapsN w h : Nat) (tabL P (cellsN w h)) first step xs i1 h1 w h w h o) (w, h, (o' : Int), i1, h1) := by
  have hgl := gapsN_le w h
  have fin : ∀ step : Nat, step < 100 → Nat.gcd step (gapsN w h) ≤ 1 → ∃ o' : Nat, o' < 2 ^ gapsN w h ∧ perfN w h o' = true ∧ Ev (fun k => spec_l03Tree.l1 k (gapsN w h : Nat) (tabL P (cellsN w h)) first step xs i1 h1 w h w h o) (w, h, (o' : Int), i1, h1) := by
    intro step hs hgcd
    obtain ⟨P', o', K', hEv⟩ := tree_l2 (xs := xs) (i1 := i1) (h1 := h1) hg hf hs (gapsN w h) 0 P o (by omega) (K.weak (fun g ⟨j, hj, _⟩ => absurd hj (by omega)))
    refine ⟨o', K'.lt, ?_, Ev.step (fun _ => spec_l03Tree.l1.eq_2 ..) (Ev.bind (spec_Common_ev (gapsN w h) step) (Ev.ff (by rw [decide_eq_true_eq]; omega) hEv))⟩
    exact K'.perfect (cells_pos hg) (fun g hgg => cover (by omega) h0 hgcd hgg) (full := 2 ^ gapsN w h - 1) (by have := Nat.two_pow_pos (gapsN w h); omega) (full_conn hg (fun g hgg => by rw [Nat.testBit_two_pow_sub_one]; simp [hgg]))
  intro d
  induction d with
  | zero =>
    intro step hst
    refine fin step (by omega) ?_
    have : Nat.gcd step (gapsN w h) = 1 := by
      rw [show step = 1 + gapsN w h * 2 by omega, Nat.gcd_add_mul_left_left, Nat.gcd_one_left]
    omega
  | succ d ih =>
    intro step hst
    by_cases hc : Nat.gcd step (gapsN w h) > 1
    · obtain ⟨o', ho, hp, hEv⟩ := ih (step + 1) (by omega)
      refine ⟨o', ho, hp, Ev.step (fun _ => spec_l03Tree.l1.eq_2 ..) (Ev.bind (spec_Common_ev (gapsN w h) step) (Ev.tt (by rw [decide_eq_true_eq]; exact hc) ?_))⟩
      rw [wsucc (by omega)]
      exact hEv
    · exact fin step (by omega) (by omega)
theorem tree_l0 (hg : gridOk w h = true) (hl : xs.length ≤ 1048576) (hi : 0 ≤ i1) : ∀ e i : Nat, i + e = cellsN w h →
    ∃ (o' : Nat) (i2 h2 : Int), o' < 2 ^ gapsN w h ∧ perfN w h o' = true ∧ Ev (fun k => spec_l03Tree.l0 k (gapsN w h : Nat) (tabL (fun x => if x < i then (x : Int) else 0) (cellsN w h)) i xs i1 h1 w h w h (0 : Nat)) (w, h, (o' : Int), i2, h2)
  | 0, i, he => by
    have hgl := gapsN_le w h
    have hgc := gapsN_cast w h
    have hK : KInv (ends w h) (cellsN w h) (gapsN w h) (fun _ => False) (fun x => (x : Int)) 0 := KInv.start (fun x => rfl)
    have ht : tabL (fun x => if x < i then (x : Int) else 0) (cellsN w h) = tabL (fun x => (x : Int)) (cellsN w h) := tabL_congr (fun x hx => if_pos (by omega))
    rw [ht]
    by_cases h0 : gapsN w h = 0
    · refine ⟨0, i1, h1, Nat.two_pow_pos _, ?_, Ev.step (fun _ => spec_l03Tree.l0.eq_2 ..) (Ev.ff (by rw [tabL_length]; omega) (Ev.tt (by omega) (Ev.ret rfl)))⟩
      exact hK.perfect (cells_pos hg) (fun g hgg => absurd hgg (by omega)) (full := 0) (Nat.two_pow_pos _) (full_conn hg (fun g hgg => absurd hgg (by omega)))
    · obtain ⟨b, i2, h2, e1, b0, b1, hi2⟩ := spec_Below_eq hl hi h1 (n := (gapsN w h : Nat)) (by omega) (by omega)
      obtain ⟨c, i3, h3, e2, c0, c1, hi3⟩ := spec_Below_eq hl hi2 h2 (n := (gapsN w h : Nat)) (by omega) (by omega)
      obtain ⟨b', rfl⟩ := Int.eq_ofNat_of_zero_le b0
      obtain ⟨c', rfl⟩ := Int.eq_ofNat_of_zero_le c0
      obtain ⟨o', ho, hp, hEv⟩ := tree_l1 (xs := xs) (i1 := i3) (h1 := h3) hg (by omega) (first := b') (by omega) hK (2 * gapsN w h - c') (1 + c') (by omega)
      refine ⟨o', i3, h3, ho, hp, Ev.step (fun _ => spec_l03Tree.l0.eq_2 ..) (Ev.ff (by rw [tabL_length]; omega) (Ev.ff (by omega) (Ev.bnd0 e1 (Ev.bnd0 e2 ?_))))⟩
      rw [show wrap64 (1 + (c' : Int)) = ((1 + c' : Nat) : Int) by rw [wrap64_id (by omega) (by omega)]; omega]
      exact hEv
  | e + 1, i, he => by
    have hcl := cellsN_le w h
    obtain ⟨o', i2, h2, ho, hp, ih⟩ := tree_l0 hg hl hi e (i + 1) (by omega)
    refine ⟨o', i2, h2, ho, hp, Ev.step (fun _ => spec_l03Tree.l0.eq_2 ..) (Ev.tt (by rw [tabL_length]; omega) (Ev.tt (by omega) ?_))⟩
    rw [wsucc (show i < 4611686018427387904 by omega), Int.toNat_natCast, tabL_set]
    rw [tabL_congr (Q := fun x => if x < i + 1 then (x : Int) else 0) (fun x hx => by
      by_cases e2 : x = i
      · subst e2; rw [if_pos rfl, if_pos (by omega)]
      · rw [if_neg e2]
        by_cases e3 : x < i
        · rw [if_pos e3, if_pos (by omega)]
        · rw [if_neg e3, if_neg (by omega)])]
    exact ih
theorem spec_Tree_ev (hg : gridOk w h = true) (hl : xs.length ≤ 1048576) (hi : 0 ≤ i1) : ∃ (o' : Nat) (i2 h2 : Int), o' < 2 ^ gapsN w h ∧ perfN w h o' = true ∧ Ev (fun k => spec_l03Tree.f k xs i1 h1 w h) (w, h, (o' : Int), i2, h2) := by
  have hgc := gapsN_cast w h
  have hcc := cellsN_cast w h
  have hcl := cellsN_le w h
  obtain ⟨o', i2, h2, ho, hp, hEv⟩ := tree_l0 (h1 := h1) hg hl hi (cellsN w h) 0 (by omega)
  refine ⟨o', i2, h2, ho, hp, ?_⟩
  unfold spec_l03Tree.f
  refine Ev.bnd0 (spec_CountGaps_eq ..) (Ev.bnd0 (spec_CountCells_eq ..) (Ev.tt (by omega) (Ev.tt (by omega) ?_)))
  rw [← hgc, show (cellsOf w h).toNat = cellsN w h from rfl]
  rw [show List.replicate (cellsN w h) (0 : Int) = tabL (fun x => if x < 0 then (x : Int) else 0) (cellsN w h) by
    refine List.ext_getElem (by simp [tabL]) fun j hj1 hj2 => ?_
    simp [tabL]]
  exact hEv
end
theorem spec_DrawPerfect_ev {l : List Int} (hl : l.length ≤ 1048576) : ∃ (w h : Int) (n : Nat), gridOk w h = true ∧ n < 2 ^ gapsN w h ∧ perfN w h n = true ∧ Ev (fun k => spec_DrawPerfect.f k l) (w, h, (n : Int)) := by
  obtain ⟨h', e1⟩ := spec_New_ev hl
  obtain ⟨w, h, i2, h2, e2, hg, hi2⟩ := spec_Grid_eq hl (i := 0) (by omega) h'
  obtain ⟨o', i3, h3, ho, hp, e3⟩ := spec_Tree_ev (xs := l) (i1 := i2) (h1 := h2) hg hl hi2
  refine ⟨w, h, o', hg, ho, hp, ?_⟩
  have hT : Ev (fun k => spec_l05Tree.f k l 0 h') (w, h, (o' : Int), i3, h3) := by
    unfold spec_l05Tree.f
    exact Ev.bnd0 e2 (Ev.bind e3 (Ev.ret rfl))
  unfold spec_DrawPerfect.f
  exact Ev.bind e1 (Ev.bind hT (Ev.ret rfl))
end Go.Proofs.Ytbenbfhpbnepmaa.P
namespace Go.Proofs.Ytbenbfhpbnepmaa.P
open Go.RowKit Go.Proofs.YtbenbfhpbnepmaaW.PrintWords Go.Proofs.Ytbenbfhpbnepmaa.Sup
set_option linter.unusedVariables false
set_option linter.unusedSimpArgs false

theorem at_eq {l : List Int} (hl : l.length ≤ 1048576) (hz : ∀ x ∈ l, 0 ≤ x ∧ x ≤ 255) {a : Int} (h0 : 0 ≤ a) (h1 : a ≤ 9) : ∃ v, laws_at.f l a = some v ∧ 0 ≤ v ∧ v ≤ 255 := by
  unfold laws_at.f
  by_cases e : (l.length : Int) = 0
  · exact ⟨0, if_pos e, by omega, by omega⟩
  · rw [if_neg e, wrap64_id (x := a * 5) (by omega) (by omega), wrap64_id (x := a * 5 + 1) (by omega) (by omega)]
    have t0 : 0 ≤ Int.tmod (a * 5 + 1) (l.length : Int) := Int.tmod_nonneg _ (by omega)
    have t1 : Int.tmod (a * 5 + 1) (l.length : Int) < (l.length : Int) := Int.tmod_lt_of_pos _ (by omega)
    rw [if_pos t0, if_pos t1]
    obtain ⟨i, hi⟩ := Int.eq_ofNat_of_zero_le t0
    rw [hi] at t1 ⊢
    have hm := hz _ (List.getElem_mem (show i < l.length by omega))
    refine ⟨_, rfl, ?_⟩
    show 0 ≤ wrap64 (rd l (i : Int)) ∧ wrap64 (rd l (i : Int)) ≤ 255
    rw [rd_get (show i < l.length by omega), wrap64_id (by omega) (by omega)]
    exact hm
theorem half_zero {w h : Int} (hg : gridOk w h = true) (hw : w % 2 = 0) (hh : h % 2 = 0) : (treesG w h).countP (tB w h) = 0 := by
  rw [List.countP_eq_zero]
  intro s hs
  have hp : perfN w h s = true := (List.mem_filter.1 hs).2
  have := half_not hg hw hh hp
  unfold tB
  simp
  omega
theorem half_pos {w h : Int} {s : Nat} (hs : s < 2 ^ gapsN w h) (hp : pop (gapsN w h) s + 1 = cellsN w h) (hc : ∀ x, x < cellsN w h → Cn (ends w h) s 0 x) (hm : moved (turnF w h) w h w h s = s) : 0 < (treesG w h).countP (tB w h) := by
  rw [List.countP_pos_iff]
  refine ⟨s, List.mem_filter.2 ⟨List.mem_range.2 hs, perf_iff.2 ⟨(parts_one hs (by omega)).2 hc, hp⟩⟩, ?_⟩
  unfold tB
  rw [hm]
  simp
theorem pos11 : 0 < (treesG 1 1).countP (tB 1 1) := by
  refine half_pos (s := 0) (by decide) (by decide) (fun x hx => ?_) (by decide +kernel)
  have : x < 1 := hx
  have : x = 0 := by omega
  subst this
  exact .refl _
theorem pos13 : 0 < (treesG 1 3).countP (tB 1 3) := by
  refine half_pos (s := 3) (by decide) (by decide) (fun x hx => ?_) (by decide +kernel)
  have hx : x < 3 := hx
  have c1 : Cn (ends 1 3) 3 0 1 := cnE (g := 0) (by decide) (by decide)
  have c2 := c1.trans (cnE (w := 1) (h := 3) (s := 3) (g := 1) (a := 1) (b := 2) (by decide) (by decide))
  have : x = 0 ∨ x = 1 ∨ x = 2 := by omega
  rcases this with rfl | rfl | rfl
  · exact .refl _
  · exact c1
  · exact c2
theorem pos31 : 0 < (treesG 3 1).countP (tB 3 1) := by
  refine half_pos (s := 3) (by decide) (by decide) (fun x hx => ?_) (by decide +kernel)
  have hx : x < 3 := hx
  have c1 : Cn (ends 3 1) 3 0 1 := cnE (g := 0) (by decide) (by decide)
  have c2 := c1.trans (cnE (w := 3) (h := 1) (s := 3) (g := 1) (a := 1) (b := 2) (by decide) (by decide))
  have : x = 0 ∨ x = 1 ∨ x = 2 := by omega
  rcases this with rfl | rfl | rfl
  · exact .refl _
  · exact c1
  · exact c2
theorem pos32 : 0 < (treesG 3 2).countP (tB 3 2) := by
  refine half_pos (s := 47) (by decide) (by decide) (fun x hx => ?_) (by decide +kernel)
  have hx : x < 6 := hx
  have c1 : Cn (ends 3 2) 47 0 1 := cnE (g := 0) (by decide) (by decide)
  have c2 := c1.trans (cnE (w := 3) (h := 2) (s := 47) (g := 1) (a := 1) (b := 2) (by decide) (by decide))
  have c4 := c1.trans (cnE (w := 3) (h := 2) (s := 47) (g := 5) (a := 1) (b := 4) (by decide) (by decide))
  have c3 := c4.trans (cnE (w := 3) (h := 2) (s := 47) (g := 2) (a := 3) (b := 4) (by decide) (by decide)).symm
  have c5 := c4.trans (cnE (w := 3) (h := 2) (s := 47) (g := 3) (a := 4) (b := 5) (by decide) (by decide))
  have : x = 0 ∨ x = 1 ∨ x = 2 ∨ x = 3 ∨ x = 4 ∨ x = 5 := by omega
  rcases this with rfl | rfl | rfl | rfl | rfl | rfl
  · exact .refl _
  · exact c1
  · exact c2
  · exact c3
  · exact c4
  · exact c5
theorem pos33 : 0 < (treesG 3 3).countP (tB 3 3) := by
  refine half_pos (s := 831) (by decide) (by decide) (fun x hx => ?_) (by decide +kernel)
  have hx : x < 9 := hx
  have c1 : Cn (ends 3 3) 831 0 1 := cnE (g := 0) (by decide) (by decide)
  have c2 := c1.trans (cnE (w := 3) (h := 3) (s := 831) (g := 1) (a := 1) (b := 2) (by decide) (by decide))
  have c5 := c2.trans (cnE (w := 3) (h := 3) (s := 831) (g := 8) (a := 2) (b := 5) (by decide) (by decide))
  have c4 := c5.trans (cnE (w := 3) (h := 3) (s := 831) (g := 3) (a := 4) (b := 5) (by decide) (by decide)).symm
  have c3 := c4.trans (cnE (w := 3) (h := 3) (s := 831) (g := 2) (a := 3) (b := 4) (by decide) (by decide)).symm
  have c6 := c3.trans (cnE (w := 3) (h := 3) (s := 831) (g := 9) (a := 3) (b := 6) (by decide) (by decide))
  have c7 := c6.trans (cnE (w := 3) (h := 3) (s := 831) (g := 4) (a := 6) (b := 7) (by decide) (by decide))
  have c8 := c7.trans (cnE (w := 3) (h := 3) (s := 831) (g := 5) (a := 7) (b := 8) (by decide) (by decide))
  have : x = 0 ∨ x = 1 ∨ x = 2 ∨ x = 3 ∨ x = 4 ∨ x = 5 ∨ x = 6 ∨ x = 7 ∨ x = 8 := by omega
  rcases this with rfl | rfl | rfl | rfl | rfl | rfl | rfl | rfl | rfl
  · exact .refl _
  · exact c1
  · exact c2
  · exact c3
  · exact c4
  · exact c5
  · exact c6
  · exact c7
  · exact c8
theorem w1_ : wrap64 (1 + wrap64 (2 * (0 : Int))) = 1 := by unfold wrap64; omega
theorem w3_ : wrap64 (1 + wrap64 (2 * (1 : Int))) = 3 := by unfold wrap64; omega
theorem w2_ : wrap64 (2 + wrap64 (2 * (0 : Int))) = 2 := by unfold wrap64; omega
theorem w4_ : wrap64 (2 + wrap64 (2 * (1 : Int))) = 4 := by unfold wrap64; omega
theorem odd_pos {a b : Int} (ha : a = 0 ∨ a = 1) (hb : b = 0 ∨ b = 1) : ∃ r : Int, 0 < r ∧ Ev (fun k => impl_CountTurned.f k (wrap64 (1 + (wrap64 (2 * a)))) (wrap64 (1 + (wrap64 (2 * b))))) r := by
  rcases ha with rfl | rfl <;> rcases hb with rfl | rfl <;> simp only [w1_, w3_]
  · exact ⟨(((treesG 1 1).countP (tB 1 1) : Nat) : Int), by have := pos11; omega, impl_CountTurned_ev (w := 1) (h := 1) (by decide) (by decide)⟩
  · exact ⟨(((treesG 1 3).countP (tB 1 3) : Nat) : Int), by have := pos13; omega, impl_CountTurned_ev (w := 1) (h := 3) (by decide) (by decide)⟩
  · exact ⟨(((treesG 3 1).countP (tB 3 1) : Nat) : Int), by have := pos31; omega, impl_CountTurned_ev (w := 3) (h := 1) (by decide) (by decide)⟩
  · exact ⟨(((treesG 3 3).countP (tB 3 3) : Nat) : Int), by have := pos33; omega, impl_CountTurned_ev (w := 3) (h := 3) (by decide) (by decide)⟩
theorem even_zero {a : Int} (ha : a = 0 ∨ a = 1) : Ev (fun k => impl_CountTurned.f k 2 (wrap64 (2 + (wrap64 (2 * a))))) 0 := by
  rcases ha with rfl | rfl
  · have := impl_CountTurned_ev (w := 2) (h := 2) (by decide) (by decide)
    rw [half_zero (by decide) (by decide) (by decide)] at this
    rw [w2_]
    exact this
  · have := impl_CountTurned_ev (w := 2) (h := 4) (by decide) (by decide)
    rw [half_zero (by decide) (by decide) (by decide)] at this
    rw [w4_]
    exact this
theorem tmod2 {v : Int} (h0 : 0 ≤ v) : Int.tmod v 2 = 0 ∨ Int.tmod v 2 = 1 := by
  rw [Int.tmod_eq_emod_of_nonneg h0]
  omega
theorem FnHalfTurns_pure (l : List Int) (hy : l.length ≤ 140737488351232) (hz : ∀ x ∈ l, 0 ≤ x ∧ x ≤ 255) : ∃ k, laws_FnHalfTurns.f k l = some true := by
  refine Ev.rounds ?_
  unfold laws_FnHalfTurns.f laws_big.f
  refine Ev.bnd0 rfl (Ev.ite (fun _ => Ev.ret rfl) (fun hb => ?_))
  have hl : l.length ≤ 1048576 := by
    rw [decide_eq_true_eq] at hb
    omega
  obtain ⟨w, h, n, hg, hn, hp, hd⟩ := spec_DrawPerfect_ev hl
  obtain ⟨v0, e0, v00, _⟩ := at_eq hl hz (a := 0) (by omega) (by omega)
  obtain ⟨v1, e1, v10, _⟩ := at_eq hl hz (a := 1) (by omega) (by omega)
  obtain ⟨v2, e2, v20, _⟩ := at_eq hl hz (a := 2) (by omega) (by omega)
  have hgr := gridOk_iff.1 hg
  have hev := even_zero (tmod2 v00)
  obtain ⟨r, hr, hodd⟩ := odd_pos (tmod2 v10) (tmod2 v20)
  have h32 := impl_CountTurned_ev (w := 3) (h := 2) (by decide) (by decide)
  have hp32 := pos32
  have tail : Ev (fun k => (impl_CountTurned.f k 2 (wrap64 (2 + (wrap64 (2 * (Int.tmod v0 2)))))).bind fun t112 => (if t112 = 0 then ((impl_CountTurned.f k (wrap64 (1 + (wrap64 (2 * (Int.tmod v1 2))))) (wrap64 (1 + (wrap64 (2 * (Int.tmod v2 2)))))).bind fun t113 => (if t113 > 0 then ((impl_CountTurned.f k 3 2).bind fun t114 => (some (decide (t114 > 0)))) else (some false))) else (some false))) true := by
    refine Ev.bind hev (Ev.tt rfl (Ev.bind hodd (Ev.tt (by omega) (Ev.bind h32 (Ev.ret ?_)))))
    rw [decide_eq_true_eq]
    omega
  have hj : ∀ x5 : Bool, (x5 = true → w % 2 = 0 ∧ h % 2 = 0) → Ev (fun k => laws_FnHalfTurns.j0 k l x5 w h n 2 (wrap64 (2 + (wrap64 (2 * (Int.tmod v0 2)))))) true := by
    intro x5 hx
    refine Ev.step (fun _ => laws_FnHalfTurns.j0.eq_2 ..) (Ev.bnd0 e1 (Ev.bnd0 e2 (Ev.ite (fun e5 => ?_) (fun _ => tail))))
    obtain ⟨hw2, hh2⟩ := hx e5
    have ht : tB w h n = false := by
      have := half_not hg hw2 hh2 hp
      unfold tB
      simp
      omega
    refine Ev.bind (impl_IsTurned_ev hg hn) ?_
    rw [ht]
    exact Ev.ff (by decide) tail
  refine Ev.bind hd (Ev.bnd0 e0 (Ev.ite (fun ew => ?_) (fun _ => hj false (fun h => by cases h))))
  refine hj _ (fun eh => ?_)
  have ew' : Int.tmod w 2 = 0 := ew
  have eh' : Int.tmod h 2 = 0 := by simpa using eh
  rw [Int.tmod_eq_emod_of_nonneg (by omega)] at ew' eh'
  exact ⟨ew', eh'⟩
end Go.Proofs.Ytbenbfhpbnepmaa.P
namespace Go.Proofs.Ytbenbfhpbnepmaa.fnHalfTurns
open Go.ChangeShapes Go.WideShapes Go.ChangeAt Go.RowKit Go.Proofs.YtbenbfhpbnepmaaW.PrintWords Go.Proofs.Ytbenbfhpbnepmaa.Sup
open Go.ChangeMaps (open_string shut_string)
set_option linter.unusedVariables false
theorem own : ownKnob Try.prog.godebug = none := by kernel_rfl
theorem laidOut : laidOutB Try.prog = true := by kernel_rfl
set_option maxRecDepth 100000 in
theorem lifted (os : Os) (started : os.Started) (H : Type) (enc : TypeId × Value → H) :
    ReturnsInHanded {} Try.checked os 6 .any (Rows.fnHalfTurnsSpec.pre6 enc Try.prog Try.f6 Rows.fnHalfTurnsRow.domain false) (Rows.fnHalfTurnsSpec.post enc Try.prog Try.f6 false true false false) := by
  refine returnsInHanded_of_change_sized (C := Try.checked) own started (by kernel_rfl) Try.func6
    (ChangeSpec.witness6 (enc := enc) (C := Try.checked) false ⟨#[], #[.slice none 0 0], []⟩ 8 (by kernel_rfl) (by kernel_rfl) (by kernel_rfl) (by kernel_rfl)) ?_
  intro W base args ds gs before hval0 hW hcnd hsz0 _
  have hsz : (DataW.weightsEach Try.prog (Try.f6.params.toList ++ Rows.fnHalfTurnsSpec.plain.varTypes Try.prog) (ds ++ gs)).all (· ≤ reachBytes) = true := hsz0
  have hval : ∀ (j : Nat) t v, Try.f6.params[j]? = some t → args[j]? = some v → Value.okWide Try.prog W .any base t v := hval0
  have hW' := hW
  obtain ⟨p, q, hA0, hV, rfl, hfz, hnd⟩ := hW
  have hA : DataW.TrodAll enc Try.prog W 0 (fun _ => true) true Try.f6.params.toList args.toList ds p := hA0
  rw [Try.params6] at hA hval hsz
  obtain ⟨v0, vs0, d0, ds0, p0, q0, hargs, rfl, rfl, h0, r0⟩ := trodAll_cons hA
  obtain ⟨rfl, rfl, rfl⟩ := trodAll_nil r0
  obtain rfl : args = #[v0] := by cases args; simp_all
  obtain ⟨rfl, rfl⟩ := trodVars_none hV
  obtain ⟨a0, len0, cap0, rfl⟩ := okWide_slice Try.underlying45 (hval 0 45 v0 rfl rfl)
  have k0 := h0
  have lt0 : ∀ x ∈ p0, x.block < W.heap.size := by obtain ⟨m, hm⟩ := k0; exact DataW.trod_lt m _ _ _ hm
  obtain ⟨z0, w0⟩ : ∃ zs, IsRow .u8 W a0 len0 cap0 zs := by
    obtain ⟨fuel, hf⟩ := h0
    rcases open_ints Try.underlying45 Try.underlying5 (by kernel_rfl) hf with ⟨hcs, _⟩ | ⟨x, l, c, zs, hcs, _, hl, hm, hz, _, hcell, hwz⟩
    · simp [Value.cells] at hcs
      obtain ⟨rfl, rfl, rfl⟩ := hcs
      exact ⟨[], .inl ⟨rfl, rfl, rfl, rfl⟩⟩
    · simp [Value.cells] at hcs
      obtain ⟨rfl, rfl, rfl⟩ := hcs
      exact ⟨zs, .inr ⟨_, rfl, hl, hm, by simpa using hz, hcell, hwz⟩⟩
  have y0 : len0 * 1 ≤ 140737488351232 := sized_ints hsz (j := 0) (t := 45) rfl rfl Try.underlying45 Try.underlying5 (by kernel_rfl) (by kernel_rfl) h0
  obtain ⟨l0, rfl, hr0, hm0, hw0, hc0⟩ := ReadsInt.ofRowC w0
  clear hA0 hval0 hsz0 hsz
  obtain ⟨k, hf⟩ := P.FnHalfTurns_pure l0 (by omega) (fun x hx => u8_of_wf (hw0 x hx))
  refine (P.laws_FnHalfTurns.calls k _ _ l0 true W (Kd.C_of_reads (d := (0 : Int)) (h1 := fun _ => rfl) hr0) hc0 hf).mono fun e W' ⟨he, bel0⟩ => ?_
  have bel : Below W.heap.size W W' := bel0
  subst he
  exact ⟨_, rfl, _, _, _, [], _, [], hW', trodAll_mk1 (shut_bool Try.underlying4 _), (trodAll_cons_mk (Below.trod laidOut (by kernel_rfl) (of_decide_eq_true (by kernel_rfl)) k0 bel lt0) trodAll_mk0), rfl, bel.frame _, fun h => by cases h⟩
theorem over : Rows.fnHalfTurnsRow.holds Try.pinned (OpenSpec.ofChange Rows.fnHalfTurnsSpec) :=
  OpenClaim.holds_of_wide 6 Try.f6 rfl rfl rfl rfl rfl rfl rfl ⟨rfl, rfl, rfl, rfl, rfl⟩ rfl rfl rfl rfl rfl (by kernel_rfl) Try.func6 (by kernel_rfl)
    (of_decide_eq_true (by kernel_rfl)) (by unfold Func.isWrapper; first | (rw [if_pos (by decide +kernel)]; kernel_rfl) | (rw [if_neg (by decide +kernel)]; exact ⟨rfl, rfl⟩))
    (fun os started H enc _ => lifted os started H enc)
theorem proved : Rows.FnHalfTurnsSaid := over
end Go.Proofs.Ytbenbfhpbnepmaa.fnHalfTurns
namespace Go.Proofs.Ytbenbfhpbnepmaa
/-- The row, under a short name, for the claim. -/
theorem fnHalfTurns_holds : Rows.FnHalfTurnsSaid := fnHalfTurns.proved
#print axioms fnHalfTurns_holds
end Go.Proofs.Ytbenbfhpbnepmaa
