/- The statement FnTurned of the seat, out of its plain form (FnTurned_pure) and the walk of its Go function. Part 6 of 6: each Go function's walk, then the plain lemmas, then the row. No condition: it holds for every input. -/
import Derived.Test.YtbeajmcjfhbcjaaBFnTurned5
import Derived.Test.YtbeajmcjfhbcjaaRows
import Derived.Below
import Derived.ChangeOld
import Derived.Deep.Matrix
import Derived.Lib.SmallJoins
import Derived.OpenShut
import Derived.ProofKit
import Derived.ShutString
import Derived.SizedLaws
import Derived.WalkKit
namespace Go.Proofs.Ytbeajmcjfhbcjaa.Sup
open Go.ChangeShapes Go.WideShapes Go.ChangeAt Go.RowKit Go.Joins Go.Proofs.YtbeajmcjfhbcjaaW.PrintWords
set_option linter.unusedVariables false
set_option linter.unusedSimpArgs false

theorem u8_of_wf {a : Int} (h : (Lit.int .u8 a).wf = true) : 0 ≤ a ∧ a ≤ 255 := by
  simp only [Lit.wf, IntKind.min, IntKind.max, IntKind.signed, IntKind.bits, Bool.and_eq_true, decide_eq_true_eq] at h
  simp at h
  omega

section
variable {H : Type} {enc : TypeId × Value → H} {P : Program} {w : World} {base : Nat} {spare : Nat → Bool} {held : Bool}

end

def IsRow (k : IntKind) (w : World) (a : Option Addr) (len cap : Nat) (zs : List Int) : Prop :=
  (a = none ∧ len = 0 ∧ cap = 0 ∧ zs = []) ∨
  ∃ x, a = some x ∧ len ≤ cap ∧ cap ≤ maxLen ∧ zs.length = cap ∧ (∀ i, i < zs.length → w.cell? (x.add i) = some (.int k (zs.getD i 0))) ∧ ∀ n ∈ zs, (Lit.int k n).wf = true

end Go.Proofs.Ytbeajmcjfhbcjaa.Sup
namespace Go.Proofs.Ytbeajmcjfhbcjaa.P
open Go.RowKit Go.Proofs.YtbeajmcjfhbcjaaW.PrintWords
set_option linter.unusedVariables false
set_option linter.unusedSimpArgs false

theorem l01In_eq (a b c : Int) : spec_l01In.f a b c = some (decide (b ≤ a ∧ a ≤ c)) := by
  unfold spec_l01In.f
  by_cases h : a ≥ b
  · rw [if_pos h]; congr 1; simp; omega
  · rw [if_neg h]; congr 1; simp; omega

end Go.Proofs.Ytbeajmcjfhbcjaa.P
namespace Go.Proofs.Ytbeajmcjfhbcjaa.P
open Go.RowKit Go.Proofs.YtbeajmcjfhbcjaaW.PrintWords Go.Proofs.Ytbeajmcjfhbcjaa.Sup
set_option linter.unusedVariables false
set_option linter.unusedSimpArgs false

theorem spec_GridOk_eq (w h : Int) : spec_GridOk.f w h = some (gridOk w h) := by
  unfold spec_GridOk.f
  simp only [l01In_eq, Option.bind_some]
  unfold gridOk
  by_cases h1 : 1 ≤ w ∧ w ≤ 4
  · simp only [h1, and_self, decide_true, if_true, true_and]
  · have : ¬ (1 ≤ w ∧ w ≤ 4 ∧ 1 ≤ h ∧ h ≤ 4) := by omega
    rw [decide_eq_false h1, decide_eq_false this]; simp
theorem impl_GridOk_eq (w h : Int) : impl_GridOk.f w h = some (gridOk w h) := by
  unfold impl_GridOk.f gridOk
  repeat' split
  all_goals congr 1
  all_goals first | (rw [decide_eq_decide]; omega) | (symm; rw [decide_eq_false_iff_not]; omega)

theorem impl_CountCells_eq (w h : Int) : impl_CountCells.f w h = some (cellsOf w h) := by
  unfold impl_CountCells.f
  rw [impl_GridOk_eq, Option.bind_some]
  have := cellsOf_range w h
  unfold cellsOf at *
  by_cases hg : gridOk w h = true
  · rw [if_pos hg] at *
    rw [if_pos hg, wrap64_id (by omega) (by omega)]
  · rw [if_neg hg, if_neg hg]
theorem spec_CountCells_eq (w h : Int) : spec_CountCells.f w h = some (cellsOf w h) := by
  unfold spec_CountCells.f
  rw [spec_GridOk_eq, Option.bind_some]
  have := cellsOf_range w h
  unfold cellsOf at *
  by_cases hg : gridOk w h = true
  · rw [if_pos hg] at *
    rw [if_pos hg, wrap64_id (by omega) (by omega)]
  · rw [if_neg hg, if_neg hg]
theorem impl_CountGaps_eq (w h : Int) : impl_CountGaps.f w h = some (gapsOf w h) := by
  unfold impl_CountGaps.f
  rw [impl_GridOk_eq, Option.bind_some]
  unfold gapsOf
  by_cases hg : gridOk w h = true
  · rw [if_pos hg, if_pos hg]
    obtain ⟨h1 | h1 | h1 | h1, h2 | h2 | h2 | h2⟩ := grid_cases hg <;> subst h1 <;> subst h2 <;> simp [wrap64, eastOf]
  · rw [if_neg hg, if_neg hg]
theorem spec_l02East_eq {w h : Int} (hg : gridOk w h = true) : spec_l02East.f w h = some (eastOf w h) := by
  unfold spec_l02East.f eastOf
  obtain ⟨h1 | h1 | h1 | h1, h2 | h2 | h2 | h2⟩ := grid_cases hg <;> subst h1 <;> subst h2 <;> simp [wrap64, eastOf]
theorem spec_CountGaps_eq (w h : Int) : spec_CountGaps.f w h = some (gapsOf w h) := by
  unfold spec_CountGaps.f
  rw [spec_GridOk_eq, Option.bind_some]
  unfold gapsOf
  by_cases hg : gridOk w h = true
  · rw [if_pos hg, if_pos hg, spec_l02East_eq hg, Option.bind_some]
    obtain ⟨h1 | h1 | h1 | h1, h2 | h2 | h2 | h2⟩ := grid_cases hg <;> subst h1 <;> subst h2 <;> simp [wrap64, eastOf]
  · rw [if_neg hg, if_neg hg]

/-- 2 to the power of a small number. -/
theorem shl_one {n : Int} (h0 : 0 ≤ n) (h1 : n ≤ 24) : shl .i64 1 n = 2 ^ n.toNat := by
  obtain ⟨m, rfl⟩ := Int.eq_ofNat_of_zero_le h0
  have : m ≤ 24 := by omega
  clear h0 h1
  revert m
  decide +kernel
end Go.Proofs.Ytbeajmcjfhbcjaa.P
namespace Go.Proofs.Ytbeajmcjfhbcjaa.P
open Go.RowKit Go.Proofs.YtbeajmcjfhbcjaaW.PrintWords Go.Proofs.YtbeajmcjfhbcjaaW.PrintLast Go.Proofs.YtbeajmcjfhbcjaaW.PrintMore
attribute [local go_sem] max2_int min2_int max_two min_two max_three min_three max_four min_four   -- for this text's walks alone
set_option linter.unusedVariables false
set_option linter.unusedSimpArgs false

/-! ### spec_Neighbor: function 81 -/
end Go.Proofs.Ytbeajmcjfhbcjaa.P
namespace Go.Proofs.Ytbeajmcjfhbcjaa.P
open Go.RowKit Go.Proofs.YtbeajmcjfhbcjaaW.PrintWords
set_option linter.unusedVariables false
set_option linter.unusedSimpArgs false

theorem impl_isCell_eq (w h c : Int) : impl_isCell.f w h c = some (isCellI w h c) := by
  unfold impl_isCell.f isCellI
  rw [impl_CountCells_eq]
  by_cases hc : c ≥ 0
  · rw [if_pos hc, Option.bind_some]; congr 1; rw [decide_eq_decide]; omega
  · rw [if_neg hc]; congr 1; symm; rw [decide_eq_false_iff_not]; omega
theorem impl_Neighbor_ev (w h c d : Int) : Ev (fun k => impl_Neighbor.f k w h c d) (nbI w h c d) := by
  unfold impl_Neighbor.f nbI
  refine Ev.bnd0 (impl_isCell_eq w h c) ?_
  unfold isCellI
  by_cases hc : 0 ≤ c ∧ c < cellsOf w h
  · rw [if_pos hc]
    obtain ⟨hg, hcw⟩ := cellsOf_valid hc.1 hc.2
    have hcr := cellsOf_range w h
    have hgr := gridOk_iff.1 hg
    refine Ev.tt (by simpa using hc) (Ev.ff (by omega) ?_)
    have hx0 : 0 ≤ c % w := Int.emod_nonneg _ (by omega)
    have hx1 : c % w < w := Int.emod_lt_of_pos _ (by omega)
    have hy0 : 0 ≤ c / w := Int.ediv_nonneg hc.1 (by omega)
    have hy1 : c / w ≤ c := Int.ediv_le_self _ hc.1
    rw [Int.tmod_eq_emod_of_nonneg hc.1, Int.tdiv_eq_ediv_of_nonneg hc.1, wrap64_id (x := c / w) (by omega) (by omega)]
    generalize c % w = x at *
    generalize c / w = y at *
    have j2 : ∀ b : Bool, (d ≠ 0 ∨ ¬ 0 < y) → (d ≠ 1 ∨ ¬ x < w - 1) → (b = true ↔ d = 2 ∧ y < h - 1) → Ev (fun k => impl_Neighbor.j2 k c d x b w h) (if d = 2 ∧ y < h - 1 then c + w else if d = 3 ∧ 0 < x then c - 1 else -1) := by
      intro b _ _ hb
      refine Ev.step (fun _ => impl_Neighbor.j2.eq_2 ..) ?_
      refine Ev.ite (fun e => ?_) (fun e => ?_)
      · rw [if_pos (hb.1 e), wrap64_id (by omega) (by omega)]; exact Ev.ret rfl
      · rw [if_neg (fun h => e (hb.2 h))]
        refine Ev.ite (fun e3 => Ev.ite (fun e4 => ?_) (fun e4 => ?_)) (fun e3 => ?_)
        · rw [if_pos ⟨e3, e4⟩, wrap64_id (by omega) (by omega)]; exact Ev.ret rfl
        · rw [if_neg (fun h => e4 h.2)]; exact Ev.ret rfl
        · rw [if_neg (fun h => e3 h.1)]; exact Ev.ret rfl
    have j1 : ∀ b : Bool, (d ≠ 0 ∨ ¬ 0 < y) → (b = true ↔ d = 1 ∧ x < w - 1) → Ev (fun k => impl_Neighbor.j1 k c d x y b w h) (if d = 1 ∧ x < w - 1 then c + 1 else if d = 2 ∧ y < h - 1 then c + w else if d = 3 ∧ 0 < x then c - 1 else -1) := by
      intro b h0 hb
      refine Ev.step (fun _ => impl_Neighbor.j1.eq_2 ..) ?_
      refine Ev.ite (fun e => ?_) (fun e => ?_)
      · rw [if_pos (hb.1 e), wrap64_id (by omega) (by omega)]; exact Ev.ret rfl
      · have hn : ¬ (d = 1 ∧ x < w - 1) := fun h => e (hb.2 h)
        rw [if_neg hn]
        refine Ev.ite (fun e2 => ?_) (fun e2 => ?_)
        · refine j2 _ h0 (by omega) ?_
          rw [wrap64_id (by omega) (by omega)]
          simp [e2]
        · exact j2 _ h0 (by omega) (by simp [e2])
    have j0 : ∀ b : Bool, (b = true ↔ d = 0 ∧ 0 < y) → Ev (fun k => impl_Neighbor.j0 k c d x y b w h) (if d = 0 ∧ 0 < y then c - w else if d = 1 ∧ x < w - 1 then c + 1 else if d = 2 ∧ y < h - 1 then c + w else if d = 3 ∧ 0 < x then c - 1 else -1) := by
      intro b hb
      refine Ev.step (fun _ => impl_Neighbor.j0.eq_2 ..) ?_
      refine Ev.ite (fun e => ?_) (fun e => ?_)
      · rw [if_pos (hb.1 e), wrap64_id (by omega) (by omega)]; exact Ev.ret rfl
      · have hn : ¬ (d = 0 ∧ 0 < y) := fun h => e (hb.2 h)
        rw [if_neg hn]
        refine Ev.ite (fun e2 => ?_) (fun e2 => ?_)
        · refine j1 _ (by omega) ?_
          rw [wrap64_id (by omega) (by omega)]
          simp [e2]
        · exact j1 _ (by omega) (by simp [e2])
    refine Ev.ite (fun e => ?_) (fun e => ?_)
    · exact j0 _ (by simp [e])
    · exact j0 _ (by simp [e])
  · rw [if_neg hc]
    exact Ev.ff (by simpa using hc) (Ev.ret rfl)
end Go.Proofs.Ytbeajmcjfhbcjaa.P
namespace Go.Proofs.Ytbeajmcjfhbcjaa.P
open Go.RowKit Go.Proofs.YtbeajmcjfhbcjaaW.PrintWords Go.Proofs.YtbeajmcjfhbcjaaW.PrintLast Go.Proofs.YtbeajmcjfhbcjaaW.PrintMore
attribute [local go_sem] max2_int min2_int max_two min_two max_three min_three max_four min_four   -- for this text's walks alone
set_option linter.unusedVariables false
set_option linter.unusedSimpArgs false

/-! ### spec_MazeOk: function 94 -/
/-! ### spec_l03Bit: function 134 -/
end Go.Proofs.Ytbeajmcjfhbcjaa.P
namespace Go.Proofs.Ytbeajmcjfhbcjaa.P
open Go.RowKit Go.Proofs.YtbeajmcjfhbcjaaW.PrintWords
set_option linter.unusedVariables false
set_option linter.unusedSimpArgs false

theorem impl_MazeOk_eq (w h o : Int) : impl_MazeOk.f w h o = some (mazeOk w h o) := by
  have hc := gapsOf_range w h
  unfold impl_MazeOk.f mazeOk gapsN
  rw [impl_GridOk_eq, Option.bind_some]
  cases hg : gridOk w h
  · simp
  · rw [if_pos rfl, impl_CountGaps_eq, Option.bind_some, if_pos hc.1, shl_one hc.1 hc.2]
    simp only [Bool.true_and]
    split
    · congr 1; rw [decide_eq_decide]; omega
    · congr 1; symm; rw [decide_eq_false_iff_not]; omega
theorem impl_isOpen_eq (w h : Int) {n : Nat} (hn : n < 16777216) (g : Int) : impl_isOpen.f w h n g = some (openI n g) := by
  unfold impl_isOpen.f openI
  by_cases hg : g ≥ 0
  · rw [if_pos hg, if_pos hg]
    obtain ⟨m, rfl⟩ := Int.eq_ofNat_of_zero_le hg
    rw [bit_one (by omega)]
    simp
  · rw [if_neg hg]
    simp; omega
theorem impl_isGap_eq (w h g : Int) : impl_isGap.f w h g = some (isGapI w h g) := by
  unfold impl_isGap.f isGapI
  rw [impl_CountGaps_eq]
  by_cases hc : g ≥ 0
  · rw [if_pos hc, Option.bind_some]; congr 1; rw [decide_eq_decide]; omega
  · rw [if_neg hc]; congr 1; symm; rw [decide_eq_false_iff_not]; omega
/-! Sixteen small graphs: facts that are looked through -/
theorem impl_GapAt_ev (w h c d : Int) : Ev (fun k => impl_GapAt.f k w h c d) (gapI w h c d) := by
  unfold impl_GapAt.f gapI
  refine Ev.bind (impl_Neighbor_ev w h c d) ?_
  by_cases hn : nbI w h c d < 0
  · rw [if_pos hn, if_pos hn]
    exact Ev.ret rfl
  · rw [if_neg hn, if_neg hn]
    obtain ⟨hd, h0, h1⟩ := nb_dir (by omega : 0 ≤ nbI w h c d)
    obtain ⟨hg, hcw⟩ := cellsOf_valid h0 h1
    have hcr := cellsOf_range w h
    have hgr := gridOk_iff.1 hg
    have hlt := nb_lt (w := w) (h := h) (c := c) (d := d)
    have hmn : mn c (nbI w h c d) = min c (nbI w h c d) := by unfold mn; omega
    rw [hmn]
    have hm0 : 0 ≤ min c (nbI w h c d) := by omega
    have hm1 : min c (nbI w h c d) ≤ 15 := by omega
    generalize min c (nbI w h c d) = m at *
    have ha0 : 0 ≤ m / w := Int.ediv_nonneg hm0 (by omega)
    have ha1 : m / w ≤ m := Int.ediv_le_self _ hm0
    have hb0 : 0 ≤ m % w := Int.emod_nonneg _ (by omega)
    have hb1 : m % w < w := Int.emod_lt_of_pos _ (by omega)
    have hp0 : 0 ≤ m / w * (w - 1) := Int.mul_nonneg ha0 (by omega)
    have hp1 : m / w * (w - 1) ≤ 15 * 3 := Int.mul_le_mul (by omega) (by omega) (by omega) (by omega)
    have hq0 : 0 ≤ (w - 1) * h := Int.mul_nonneg (by omega) (by omega)
    have hq1 : (w - 1) * h ≤ 3 * 4 := Int.mul_le_mul (by omega) (by omega) (by omega) (by omega)
    rw [Int.tmod_eq_emod_of_nonneg hm0, Int.tdiv_eq_ediv_of_nonneg hm0, wrap64_id (x := m / w) (by omega) (by omega), wrap64_id (x := w - 1) (by omega) (by omega), wrap64_id (x := m / w * (w - 1)) (by omega) (by omega), wrap64_id (x := m / w * (w - 1) + m % w) (by omega) (by omega)]
    refine Ev.ite (fun e => Ev.ff (by omega) ?_) (fun e => Ev.ite (fun e3 => Ev.ff (by omega) ?_) (fun e3 => ?_))
    · rw [if_pos (.inl e)]; exact Ev.ret rfl
    · rw [if_pos (.inr e3)]; exact Ev.ret rfl
    · rw [if_neg (by omega)]
      rw [wrap64_id (x := (w - 1) * h) (by omega) (by omega), wrap64_id (by omega) (by omega)]
      exact Ev.ret rfl
end Go.Proofs.Ytbeajmcjfhbcjaa.P
namespace Go.Proofs.Ytbeajmcjfhbcjaa.P
open Go.RowKit Go.Proofs.YtbeajmcjfhbcjaaW.PrintWords Go.Proofs.YtbeajmcjfhbcjaaW.PrintLast Go.Proofs.YtbeajmcjfhbcjaaW.PrintMore
attribute [local go_sem] max2_int min2_int max_two min_two max_three min_three max_four min_four   -- for this text's walks alone
set_option linter.unusedVariables false
set_option linter.unusedSimpArgs false

/-! ### spec_GapAt: function 139 -/
end Go.Proofs.Ytbeajmcjfhbcjaa.P
namespace Go.Proofs.Ytbeajmcjfhbcjaa.P
open Go.RowKit Go.Proofs.YtbeajmcjfhbcjaaW.PrintWords
set_option linter.unusedVariables false
set_option linter.unusedSimpArgs false

theorem impl_EndsOf_eq (w h g : Int) : impl_EndsOf.f w h g = some (endsI w h g) := by
  unfold impl_EndsOf.f endsI
  rw [impl_isGap_eq, Option.bind_some]
  unfold isGapI
  by_cases hc : 0 ≤ g ∧ g < gapsOf w h
  · rw [if_pos hc, if_pos (by simpa using hc)]
    obtain ⟨hg, hgw⟩ := gapsOf_valid hc.1 hc.2
    have hgr := gridOk_iff.1 hg
    have hrr := gapsOf_range w h
    have hq0 : 0 ≤ (w - 1) * h := Int.mul_nonneg (by omega) (by omega)
    have hq1 : (w - 1) * h ≤ 3 * 4 := Int.mul_le_mul (by omega) (by omega) (by omega) (by omega)
    have hw1 : w - 1 = 0 → (w - 1) * h = 0 := fun e => by rw [e, Int.zero_mul]
    rw [wrap64_id (x := w - 1) (by omega) (by omega), wrap64_id (x := (w - 1) * h) (by omega) (by omega)]
    by_cases hlt : g < (w - 1) * h
    · rw [if_pos hlt, if_neg (by omega)]
      have hne : w - 1 ≠ 0 := fun e => by have := hw1 e; omega
      have ha0 : 0 ≤ g / (w - 1) := Int.ediv_nonneg hc.1 (by omega)
      have ha1 : g / (w - 1) ≤ g := Int.ediv_le_self _ hc.1
      have hb0 : 0 ≤ g % (w - 1) := Int.emod_nonneg _ (by omega)
      have hb1 : g % (w - 1) < w - 1 := Int.emod_lt_of_pos _ (by omega)
      have hp0 : 0 ≤ g / (w - 1) * w := Int.mul_nonneg ha0 (by omega)
      have hp1 : g / (w - 1) * w ≤ 23 * 4 := Int.mul_le_mul (by omega) (by omega) (by omega) (by omega)
      rw [if_neg hne, Int.tmod_eq_emod_of_nonneg hc.1, Int.tdiv_eq_ediv_of_nonneg hc.1, wrap64_id (x := g / (w - 1)) (by omega) (by omega), wrap64_id (x := g / (w - 1) * w) (by omega) (by omega), wrap64_id (x := g / (w - 1) * w + g % (w - 1)) (by omega) (by omega), wrap64_id (by omega) (by omega)]
    · rw [if_neg hlt, if_pos (by omega)]
      rw [wrap64_id (x := g - (w - 1) * h) (by omega) (by omega), wrap64_id (by omega) (by omega)]
  · rw [if_neg hc, if_neg (by simpa using hc)]
theorem spec_EndsOf_eq (w h g : Int) : spec_EndsOf.f w h g = some (endsI w h g) := by
  unfold spec_EndsOf.f endsI
  have hr0 := gapsOf_range w h
  rw [spec_CountGaps_eq, Option.bind_some, wrap64_id (x := gapsOf w h - 1) (by omega) (by omega), l01In_eq, Option.bind_some]
  by_cases hc : 0 ≤ g ∧ g < gapsOf w h
  · rw [if_pos hc, if_pos (by simp; omega)]
    obtain ⟨hg, hgw⟩ := gapsOf_valid hc.1 hc.2
    have hgr := gridOk_iff.1 hg
    have hrr := gapsOf_range w h
    have hq0 : 0 ≤ (w - 1) * h := Int.mul_nonneg (by omega) (by omega)
    have hq1 : (w - 1) * h ≤ 3 * 4 := Int.mul_le_mul (by omega) (by omega) (by omega) (by omega)
    have hw1 : w - 1 = 0 → (w - 1) * h = 0 := fun e => by rw [e, Int.zero_mul]
    rw [spec_l02East_eq hg]
    unfold eastOf
    simp only [Option.bind_some]
    rw [wrap64_id (x := w - 1) (by omega) (by omega)]
    by_cases hlt : g < (w - 1) * h
    · rw [if_pos hlt, if_pos hlt]
      have hne : w - 1 ≠ 0 := fun e => by have := hw1 e; omega
      have ha0 : 0 ≤ g / (w - 1) := Int.ediv_nonneg hc.1 (by omega)
      have ha1 : g / (w - 1) ≤ g := Int.ediv_le_self _ hc.1
      have hb0 : 0 ≤ g % (w - 1) := Int.emod_nonneg _ (by omega)
      have hb1 : g % (w - 1) < w - 1 := Int.emod_lt_of_pos _ (by omega)
      have hp0 : 0 ≤ g / (w - 1) * w := Int.mul_nonneg ha0 (by omega)
      have hp1 : g / (w - 1) * w ≤ 23 * 4 := Int.mul_le_mul (by omega) (by omega) (by omega) (by omega)
      rw [if_neg hne, Int.tmod_eq_emod_of_nonneg hc.1, Int.tdiv_eq_ediv_of_nonneg hc.1, wrap64_id (x := g / (w - 1)) (by omega) (by omega), wrap64_id (x := g / (w - 1) * w) (by omega) (by omega), wrap64_id (x := g / (w - 1) * w + g % (w - 1)) (by omega) (by omega), wrap64_id (by omega) (by omega)]
    · rw [if_neg hlt, if_neg hlt]
      rw [wrap64_id (x := g - (w - 1) * h) (by omega) (by omega), wrap64_id (by omega) (by omega)]
  · rw [if_neg hc, if_neg (by simp; omega)]
theorem impl_with_eq (w h : Int) {n : Nat} (hn : n < 16777216) {g : Nat} (hg : g < 24) (b : Bool) : impl_with.f w h n g b = some (w, h, ((setB n g b : Nat) : Int)) := by
  have hp : 2 ^ g ≤ 2 ^ 24 := Nat.pow_le_pow_right (by decide) (by omega)
  unfold impl_with.f
  rw [if_pos (by omega), shl_pow (by omega), bits_andNot (by omega) (by omega)]
  cases b
  · rw [if_neg (by decide)]
    rfl
  · rw [if_pos rfl, bits_or (by have := andNot_le n (2 ^ g); omega) (by omega)]
    have e : andNot n (2 ^ g) ||| 2 ^ g = setB n g true := by
      apply Nat.eq_of_testBit_eq
      intro i
      rw [testBit_setB, Nat.testBit_or, testBit_andNot, Nat.testBit_two_pow]
      by_cases h : i = g
      · simp [h]
      · simp [h, show ¬ g = i from fun e => h e.symm]
    rw [e]
end Go.Proofs.Ytbeajmcjfhbcjaa.P
namespace Go.Proofs.Ytbeajmcjfhbcjaa.P
open Go.RowKit Go.Proofs.YtbeajmcjfhbcjaaW.PrintWords Go.Proofs.YtbeajmcjfhbcjaaW.PrintLast Go.Proofs.YtbeajmcjfhbcjaaW.PrintMore
attribute [local go_sem] max2_int min2_int max_two min_two max_three min_three max_four min_four   -- for this text's walks alone
set_option linter.unusedVariables false
set_option linter.unusedSimpArgs false

/-! ### spec_SetGap: function 89 -/
end Go.Proofs.Ytbeajmcjfhbcjaa.P
namespace Go.Proofs.Ytbeajmcjfhbcjaa.P
open Go.RowKit Go.Proofs.YtbeajmcjfhbcjaaW.PrintWords
set_option linter.unusedVariables false
set_option linter.unusedSimpArgs false

section
variable {Fo : Int → Option Int} {F : Int → Int} {w h w2 h2 : Int} {n : Nat}
theorem moved_l1 {g o : Nat} {r : Int × Int × Int} (hg : g < gapsN w h) (hm : moves F w h w2 h2) (ho : o < 2 ^ gapsN w2 h2)
    (ha : Fo (endsI w h g).1 = some (F (endsI w h g).1)) (hb : Fo (endsI w h g).2 = some (F (endsI w h g).2))
    (hc : Ev (fun k => impl_moved.l0 Fo k ((g + 1 : Nat) : Int) w h n w2 h2 w2 h2 ((setB o (gapMv F w h w2 h2 g) true : Nat) : Int)) r) : ∀ e d : Nat, 4 - d = e → d ≤ 4 →
    Ev (fun k => impl_moved.l1 Fo k g (endsI w h g).1 (endsI w h g).2 d w h n w2 h2 w2 h2 ((if d ≤ dirOf w2 h2 (F (endsI w h g).1) (F (endsI w h g).2) then o else setB o (gapMv F w h w2 h2 g) true : Nat) : Int)) r
  | 0, d, he, hd => by
    have hl := gapsN_le w h
    have hD := dirOf_lt w2 h2 (F (endsI w h g).1) (F (endsI w h g).2)
    refine Ev.step (fun _ => impl_moved.l1.eq_2 ..) (Ev.ff (by omega) ?_)
    rw [wsucc (by omega), if_neg (by omega)]
    exact hc
  | e + 1, d, he, hd => by
    have hl := gapsN_le w h
    have hl2 := gapsN_le w2 h2
    obtain ⟨h1, h2'⟩ := gapMv_lt hm hg
    obtain ⟨_, _, f3, f4, _, _⟩ := fits_iff (hm g (by have := gapsN_cast w h; omega))
    have ih := moved_l1 hg hm ho ha hb hc e (d + 1) (by omega) (by omega)
    refine Ev.step (fun _ => impl_moved.l1.eq_2 ..) (Ev.tt (by omega) (Ev.bnd0 ha (Ev.bind (impl_Neighbor_ev ..) (Ev.bnd0 hb ?_))))
    rw [wsucc (by omega)]
    refine Ev.ite (fun e1 => ?_) (fun e1 => ?_)
    · obtain rfl := f4 d (by omega) e1
      rw [if_neg (by omega)] at ih
      rw [if_pos (Nat.le_refl _)]
      refine Ev.bnd0 ha (Ev.bind (impl_GapAt_ev ..) ?_)
      rw [← h2']
      exact Ev.bnd0 (impl_with_eq w2 h2 (open_small ho) (by omega) true) ih
    · have hne : d ≠ dirOf w2 h2 (F (endsI w h g).1) (F (endsI w h g).2) := fun e2 => e1 (by rw [e2]; exact f3)
      by_cases hle : d ≤ dirOf w2 h2 (F (endsI w h g).1) (F (endsI w h g).2)
      · rw [if_pos (by omega)] at ih
        rw [if_pos hle]
        exact ih
      · rw [if_neg (by omega)] at ih
        rw [if_neg hle]
        exact ih
theorem impl_moved_l0 (hn : n < 2 ^ gapsN w h) (hm : moves F w h w2 h2) (hF : ∀ c, 0 ≤ c → c < cellsOf w h → Fo c = some (F c)) : ∀ (d g o : Nat), g + d = gapsN w h → o < 2 ^ gapsN w2 h2 →
    Ev (fun k => impl_moved.l0 Fo k g w h n w2 h2 w2 h2 o) (w2, h2, ((mvFrom F w h w2 h2 n d g o : Nat) : Int))
  | 0, g, o, hd, ho => by
    have hc := gapsN_cast w h
    refine Ev.step (fun _ => impl_moved.l0.eq_2 ..) (Ev.bnd0 (impl_CountGaps_eq w h) ?_)
    exact Ev.ff (by omega) (Ev.ret rfl)
  | d + 1, g, o, hd, ho => by
    have hc := gapsN_cast w h
    have hl := gapsN_le w h
    obtain ⟨e0, e1, e2, _⟩ := end_facts (w := w) (h := h) (g := g) (by omega) (by omega)
    have ih := impl_moved_l0 hn hm hF d (g + 1) (mvStep F w h w2 h2 n o g) (by omega) (mvStep_lt hm (by omega) ho)
    refine Ev.step (fun _ => impl_moved.l0.eq_2 ..) (Ev.bnd0 (impl_CountGaps_eq w h) ?_)
    refine Ev.tt (by omega) (Ev.bnd0 (impl_isOpen_eq w h (open_small hn) g) ?_)
    rw [openI_nat']
    show Ev _ (w2, h2, ((mvFrom F w h w2 h2 n d (g + 1) (mvStep F w h w2 h2 n o g) : Nat) : Int))
    unfold mvStep at ih ⊢
    cases ht : n.testBit g
    · rw [ht] at ih
      refine Ev.ff (by simp) ?_
      rw [wsucc (by omega)]
      exact ih
    · rw [ht, if_pos rfl] at ih
      refine Ev.tt rfl (Ev.bnd0 (impl_EndsOf_eq w h g) ?_)
      rw [if_pos rfl]
      have := moved_l1 (n := n) (g := g) (by omega) hm ho (hF _ e0 (by omega)) (hF _ (by omega) e2) ih 4 0 rfl (by omega)
      rw [if_pos (Nat.zero_le _)] at this
      exact this
theorem impl_moved_ev (hn : n < 2 ^ gapsN w h) (hm : moves F w h w2 h2) (hF : ∀ c, 0 ≤ c → c < cellsOf w h → Fo c = some (F c)) (a2 : Int) :
    Ev (fun k => impl_moved.f Fo k w h n w2 h2 a2) (w2, h2, ((moved F w h w2 h2 n : Nat) : Int)) := impl_moved_l0 hn hm hF _ 0 0 (by omega) (Nat.two_pow_pos _)
end
end Go.Proofs.Ytbeajmcjfhbcjaa.P
namespace Go.Proofs.Ytbeajmcjfhbcjaa.P
open Go.RowKit Go.Proofs.YtbeajmcjfhbcjaaW.PrintWords
set_option linter.unusedVariables false
set_option linter.unusedSimpArgs false

theorem cells_div {w h c : Int} (hg : gridOk w h = true) (h0 : 0 ≤ c) (h1 : c < cellsOf w h) : cellsOf w h = w * h ∧ 1 ≤ w ∧ w ≤ 4 ∧ 1 ≤ h ∧ h ≤ 4 ∧ c < 16 ∧ 0 ≤ c / w ∧ c / w ≤ c ∧ 0 ≤ c % w ∧ c % w < w ∧ 0 ≤ c % w * h ∧ c % w * h ≤ 16 ∧ 0 ≤ c / w * w ∧ c / w * w ≤ c := by
  obtain ⟨_, e⟩ := cellsOf_valid h0 h1
  have hr := cellsOf_range w h
  obtain ⟨w1, w4, h1', h4⟩ := gridOk_iff.1 hg
  have a1 : 0 ≤ c / w := Int.ediv_nonneg h0 (by omega)
  have a2 : c / w ≤ c := Int.ediv_le_self _ h0
  have a3 : 0 ≤ c % w := Int.emod_nonneg _ (by omega)
  have a4 : c % w < w := Int.emod_lt_of_pos _ (by omega)
  have a5 : c / w * w ≤ c := Int.ediv_mul_le _ (by omega)
  have a6 : 0 ≤ c % w * h := Int.mul_nonneg a3 (by omega)
  have a7 : c % w * h ≤ 4 * 4 := Int.mul_le_mul (by omega) (by omega) (by omega) (by omega)
  have a8 : 0 ≤ c / w * w := Int.mul_nonneg a1 (by omega)
  exact ⟨e, w1, w4, h1', h4, by omega, a1, a2, a3, a4, a6, by omega, a8, a5⟩
section
variable {w h : Int} {n : Nat}
theorem turn_fo (hg : gridOk w h = true) (c : Int) (h0 : 0 ≤ c) (h1 : c < cellsOf w h) : impl_TurnMaze_1.g w h c = some (turnF w h c) := by
  obtain ⟨e, _⟩ := cells_div hg h0 h1
  have hr := cellsOf_range w h
  unfold impl_TurnMaze_1.g turnF
  rw [impl_CountCells_eq, Option.bind_some, wrap64_id (x := cellsOf w h - 1) (by omega) (by omega), wrap64_id (by omega) (by omega), e]
theorem impl_TurnMaze_ev (hg : gridOk w h = true) (hn : n < 2 ^ gapsN w h) : Ev (fun k => impl_TurnMaze.f k w h n) (w, h, ((moved (turnF w h) w h w h n : Nat) : Int)) := by
  unfold impl_TurnMaze.f
  refine Ev.bnd0 (impl_MazeOk_eq ..) (Ev.tt (mazeOk_iff.2 ⟨hg, n, rfl, hn⟩) ?_)
  exact Ev.bind (impl_moved_ev hn (turn_moves hg) (turn_fo hg) 0) (Ev.ret rfl)
end
end Go.Proofs.Ytbeajmcjfhbcjaa.P
namespace Go.Proofs.Ytbeajmcjfhbcjaa.P
open Go.RowKit Go.Proofs.YtbeajmcjfhbcjaaW.PrintWords
set_option linter.unusedVariables false
set_option linter.unusedSimpArgs false

section
variable {w h : Int} {n : Nat}
theorem mir_fo (hg : gridOk w h = true) (c : Int) (h0 : 0 ≤ c) (h1 : c < cellsOf w h) : impl_MirrorMaze_1.g w c = some (mirF w h c) := by
  obtain ⟨e, w1, w4, h1', h4, c16, d0, d1, m0, m1, p0, p1, q0, q1⟩ := cells_div hg h0 h1
  unfold impl_MirrorMaze_1.g mirF
  rw [if_neg (by omega), Int.tmod_eq_emod_of_nonneg h0, Int.tdiv_eq_ediv_of_nonneg h0, wrap64_id (x := c / w) (by omega) (by omega), wrap64_id (x := c / w * w) (by omega) (by omega), wrap64_id (x := c / w * w + w) (by omega) (by omega), wrap64_id (x := c / w * w + w - 1) (by omega) (by omega), wrap64_id (by omega) (by omega)]
theorem impl_MirrorMaze_ev (hg : gridOk w h = true) (hn : n < 2 ^ gapsN w h) : Ev (fun k => impl_MirrorMaze.f k w h n) (w, h, ((moved (mirF w h) w h w h n : Nat) : Int)) := by
  unfold impl_MirrorMaze.f
  refine Ev.bnd0 (impl_MazeOk_eq ..) (Ev.tt (mazeOk_iff.2 ⟨hg, n, rfl, hn⟩) ?_)
  exact Ev.bind (impl_moved_ev hn (mir_moves hg) (mir_fo hg) 0) (Ev.ret rfl)
end
end Go.Proofs.Ytbeajmcjfhbcjaa.P
namespace Go.Proofs.Ytbeajmcjfhbcjaa.P
open Go.RowKit Go.Proofs.YtbeajmcjfhbcjaaW.PrintWords
set_option linter.unusedVariables false
set_option linter.unusedSimpArgs false

def pickS (x : S27) (p : Int × Int × Int) : Int × Int × Int := if x.f1 < p.2.2 then (x.f0.f0, x.f0.f1, x.f1) else p
def pickFrom (xs : List S27) : Nat → Nat → Int × Int × Int → Int × Int × Int
  | 0, _, p => p
  | d + 1, i, p => pickFrom xs d (i + 1) (pickS (rd_T27 xs (i : Int)) p)
theorem impl_Least_l0 (xs : List S27) (hl : xs.length = 3) : ∀ (d i : Nat) (p : Int × Int × Int), i + d = 3 → Ev (fun k => impl_LeastForm.l0 k xs (xs.length : Int) i p.1 p.2.1 p.2.2) (pickFrom xs d i p)
  | 0, i, p, hd => Ev.step (fun _ => impl_LeastForm.l0.eq_2 ..) (Ev.ff (by omega) (Ev.ret rfl))
  | d + 1, i, p, hd => by
    refine Ev.step (fun _ => impl_LeastForm.l0.eq_2 ..) (Ev.tt (by omega) (Ev.tt (by omega) (Ev.tt (by omega) ?_)))
    have ih := impl_Least_l0 xs hl d (i + 1) (pickS (rd_T27 xs (i : Int)) p) (by omega)
    rw [wsucc (by omega)]
    show Ev _ (pickFrom xs d (i + 1) (pickS (rd_T27 xs (i : Int)) p))
    unfold pickS at ih ⊢
    refine Ev.ite (fun e => ?_) (fun e => ?_)
    · rw [if_pos e] at ih ⊢; exact ih
    · rw [if_neg e] at ih ⊢; exact ih
end Go.Proofs.Ytbeajmcjfhbcjaa.P
namespace Go.Proofs.Ytbeajmcjfhbcjaa.P
open Go.RowKit Go.Proofs.YtbeajmcjfhbcjaaW.PrintWords
set_option linter.unusedVariables false
set_option linter.unusedSimpArgs false

section
variable {w h : Int} {n : Nat}
theorem flip_fo (hg : gridOk w h = true) (c : Int) (h0 : 0 ≤ c) (h1 : c < cellsOf w h) : impl_FlipMaze_1.g w h c = some (flipF w h c) := by
  obtain ⟨e, w1, w4, h1', h4, c16, d0, d1, m0, m1, p0, p1, q0, q1⟩ := cells_div hg h0 h1
  unfold impl_FlipMaze_1.g flipF
  rw [if_neg (by omega), Int.tmod_eq_emod_of_nonneg h0, Int.tdiv_eq_ediv_of_nonneg h0, wrap64_id (x := c / w) (by omega) (by omega), wrap64_id (x := c % w * h) (by omega) (by omega), wrap64_id (by omega) (by omega)]
theorem impl_FlipMaze_ev (hg : gridOk w h = true) (hn : n < 2 ^ gapsN w h) : Ev (fun k => impl_FlipMaze.f k w h n) (h, w, ((moved (flipF w h) w h h w n : Nat) : Int)) := by
  unfold impl_FlipMaze.f
  refine Ev.bnd0 (impl_MazeOk_eq ..) (Ev.tt (mazeOk_iff.2 ⟨hg, n, rfl, hn⟩) ?_)
  exact Ev.bind (impl_moved_ev hn (flip_moves hg) (flip_fo hg) 0) (Ev.ret rfl)
end
end Go.Proofs.Ytbeajmcjfhbcjaa.P
namespace Go.Proofs.Ytbeajmcjfhbcjaa.P
open Go.RowKit Go.Proofs.YtbeajmcjfhbcjaaW.PrintWords Go.Proofs.YtbeajmcjfhbcjaaW.PrintLast Go.Proofs.YtbeajmcjfhbcjaaW.PrintMore
attribute [local go_sem] max2_int min2_int max_two min_two max_three min_three max_four min_four   -- for this text's walks alone
set_option linter.unusedVariables false
set_option linter.unusedSimpArgs false

/-! ### spec_CountPassages: function 149 -/
end Go.Proofs.Ytbeajmcjfhbcjaa.P
namespace Go.Proofs.Ytbeajmcjfhbcjaa.P
open Go.RowKit Go.Proofs.YtbeajmcjfhbcjaaW.PrintWords
set_option linter.unusedVariables false
set_option linter.unusedSimpArgs false

/-- The directions from d on in which s leads somewhere. -/
def waysFrom (s : Int → Int) (d : Nat) : List Int := ([0, 1, 2, 3].drop d).filter fun x => decide (0 ≤ s x)
theorem waysFrom_succ (s : Int → Int) {d : Nat} (hd : d < 4) : waysFrom s d = if 0 ≤ s d then (d : Int) :: waysFrom s (d + 1) else waysFrom s (d + 1) := by
  have : d = 0 ∨ d = 1 ∨ d = 2 ∨ d = 3 := by omega
  rcases this with rfl | rfl | rfl | rfl <;> simp [waysFrom, List.filter_cons]
def waysI (w h : Int) (n : Nat) (c : Int) : List Int := waysFrom (stepI w h n c) 0
theorem impl_Step_ev {w h : Int} {n : Nat} (hg : gridOk w h = true) (hn : n < 2 ^ gapsN w h) (c d : Int) : Ev (fun k => impl_Step.f k w h n c d) (stepI w h n c d) := by
  unfold impl_Step.f stepI
  refine Ev.bnd0 (impl_MazeOk_eq w h n) (Ev.tt (mazeOk_iff.2 ⟨hg, n, rfl, hn⟩) ?_)
  refine Ev.bind (impl_GapAt_ev w h c d) (Ev.bnd0 (impl_isOpen_eq w h (open_small hn) _) ?_)
  by_cases ho : openI n (gapI w h c d) = true
  · rw [if_pos ho]
    exact Ev.tt ho (Ev.bind (impl_Neighbor_ev w h c d) (Ev.ret rfl))
  · rw [if_neg ho]
    exact Ev.ff ho (Ev.ret rfl)
theorem impl_Ways_l0 (w h : Int) (o c : Int) (s : Int → Int) (hs : ∀ d, Ev (fun k => impl_Step.f k w h o c d) (s d)) : ∀ (e d : Nat) (out : List Int), 4 - d = e → d ≤ 4 → out.length ≤ d →
    Ev (fun k => impl_WaysFrom.l0 k c out d w h o) (out ++ waysFrom s d)
  | 0, d, out, he, hd, hl => by
    refine Ev.step (fun _ => impl_WaysFrom.l0.eq_2 ..) ?_
    refine Ev.ff (by omega) (Ev.ret ?_)
    obtain rfl : d = 4 := by omega
    simp [waysFrom]
  | e + 1, d, out, he, hd, hl => by
    refine Ev.step (fun _ => impl_WaysFrom.l0.eq_2 ..) ?_
    refine Ev.tt (by omega) (Ev.bind (hs d) ?_)
    rw [wsucc (by omega), waysFrom_succ s (show d < 4 by omega)]
    refine Ev.ite (fun h1 => Ev.tt (by omega) ?_) (fun h1 => ?_)
    · rw [if_pos (by omega)]
      have := impl_Ways_l0 w h o c s hs e (d + 1) (out ++ [(d : Int)]) (by omega) (by omega) (by simp; omega)
      simpa using this
    · rw [if_neg (by omega)]
      exact impl_Ways_l0 w h o c s hs e (d + 1) out (by omega) (by omega) (by omega)
theorem impl_Ways_ev {w h : Int} {n : Nat} (hg : gridOk w h = true) (hn : n < 2 ^ gapsN w h) (c : Int) : Ev (fun k => impl_WaysFrom.f k w h n c) (waysI w h n c) := by
  unfold impl_WaysFrom.f waysI
  have := impl_Ways_l0 w h n c _ (fun d => impl_Step_ev hg hn c d) 4 0 [] (by omega) (by omega) (by simp)
  simpa using this
end Go.Proofs.Ytbeajmcjfhbcjaa.P
namespace Go.Proofs.Ytbeajmcjfhbcjaa.P
open Go.RowKit Go.Proofs.YtbeajmcjfhbcjaaW.PrintWords Go.Proofs.YtbeajmcjfhbcjaaW.PrintLast Go.Proofs.YtbeajmcjfhbcjaaW.PrintMore
attribute [local go_sem] max2_int min2_int max_two min_two max_three min_three max_four min_four   -- for this text's walks alone
set_option linter.unusedVariables false
set_option linter.unusedSimpArgs false

/-! ### spec_IsPassage: function 164 -/
/-! ### spec_Step: function 158 -/
/-! ### spec_WaysFrom: function 136 -/
end Go.Proofs.Ytbeajmcjfhbcjaa.P
namespace Go.Proofs.Ytbeajmcjfhbcjaa.P
open Go.RowKit Go.Proofs.YtbeajmcjfhbcjaaW.PrintWords
set_option linter.unusedVariables false
set_option linter.unusedSimpArgs false

def ints (q : List Nat) : List Int := q.map fun (x : Nat) => (x : Int)
theorem ints_length (q : List Nat) : (ints q).length = q.length := by simp [ints]
theorem ints_app (q : List Nat) (y : Nat) : ints (q ++ [y]) = ints q ++ [(y : Int)] := by simp [ints]
theorem rd_ints {q : List Nat} {i x : Nat} (h : q[i]? = some x) : rd (ints q) (i : Int) = x := by
  rw [rd_nat, List.getD_eq_getElem?_getD]
  simp [ints, h]
/-- A function on the numbers under v as a list. -/
def dlist (v : Nat) (D : Nat → Int) : List Int := (List.range v).map D
theorem dlist_length (v : Nat) (D : Nat → Int) : (dlist v D).length = v := by simp [dlist]
theorem rd_dlist {v : Nat} {D : Nat → Int} {c : Nat} (h : c < v) : rd (dlist v D) (c : Int) = D c := by
  rw [rd_get (by rw [dlist_length]; exact h)]
  simp [dlist]
theorem dlist_set {v : Nat} {D : Nat → Int} {y : Nat} {a : Int} (h : y < v) : (dlist v D).set y a = dlist v (upd D y a) := by
  refine List.ext_getElem (by simp [dlist]) fun i h1 h2 => ?_
  rw [List.getElem_set]
  simp only [dlist, upd, List.getElem_map, List.getElem_range]
  by_cases e : y = i
  · rw [if_pos e, if_pos e.symm]
  · rw [if_neg e, if_neg (fun e' => e e'.symm)]
/-- What is kept while the search goes on. -/
structure SI (v : Nat) (S : (Nat → Int) × List Nat) : Prop where
  le : ∀ c, S.1 c ≤ S.2.length
  low : ∀ c, -1 ≤ S.1 c
  lt : ∀ c ∈ S.2, c < v
theorem SI.relax {v : Nat} {s : Nat → Nat → Int} (hs : Rng s v) {S : (Nat → Int) × List Nat} (I : SI v S) {x d : Nat} (hx : x < v) (hd : d < 4) : SI v (relax s x d S) ∧ (relax s x d S).2.length ≤ S.2.length + 1 ∧ ∀ (i z : Nat), S.2[i]? = some z → (relax s x d S).2[i]? = some z := by
  unfold Go.Proofs.Ytbeajmcjfhbcjaa.P.relax
  split
  · rename_i hc
    refine ⟨⟨fun c => ?_, fun c => ?_, fun c hcq => ?_⟩, by simp, fun i z hz => ?_⟩
    · have := I.le c
      have := I.le x
      show upd _ _ _ c ≤ _
      unfold upd
      simp only [List.length_append, List.length_singleton]
      split <;> omega
    · have := I.low c
      have := I.low x
      show _ ≤ upd _ _ _ c
      unfold upd
      split <;> omega
    · rcases List.mem_append.1 hcq with h | h
      · exact I.lt c h
      · simp at h
        have := hs x d hx hd
        omega
    · have hi := (List.getElem?_eq_some_iff.1 hz).1
      rw [List.getElem?_append_left hi]; exact hz
  · exact ⟨I, by omega, fun i z hz => hz⟩
def relaxL (s : Nat → Nat → Int) (x : Nat) : List Nat → (Nat → Int) × List Nat → (Nat → Int) × List Nat
  | [], S => S
  | d :: ds, S => relaxL s x ds (relax s x d S)
theorem relaxL_filter (s : Nat → Nat → Int) (x : Nat) : ∀ l S, relaxL s x (l.filter fun d => decide (0 ≤ s x d)) S = relaxL s x l S
  | [], S => rfl
  | d :: ds, S => by
    rw [List.filter_cons]
    by_cases h : 0 ≤ s x d
    · simp only [h, decide_true, if_true, relaxL]
      exact relaxL_filter s x ds _
    · simp only [h, decide_false, Bool.false_eq_true, if_false, relaxL]
      rw [relaxL_filter s x ds S, show relax s x d S = S from if_neg fun hc => h hc.1]
theorem bround_eq (s : Nat → Nat → Int) (x : Nat) (S : (Nat → Int) × List Nat) : bround s x S = relaxL s x [0, 1, 2, 3] S := rfl
theorem waysI_ints (w h : Int) (n c : Nat) : waysI w h n c = ints ([0, 1, 2, 3].filter fun d => decide (0 ≤ st w h n c d)) := by
  unfold waysI waysFrom st ints
  simp only [List.drop_zero, List.filter_cons, List.filter_nil]
  by_cases a : 0 ≤ stepI w h n c 0 <;> by_cases b : 0 ≤ stepI w h n c 1 <;> by_cases c' : 0 ≤ stepI w h n c 2 <;> by_cases d : 0 ≤ stepI w h n c 3 <;> simp [a, b, c', d]
section
variable {w h : Int} {n : Nat} (hg : gridOk w h = true) (hn : n < 2 ^ gapsN w h)
include hg hn
theorem impl_dist_l1 {x i : Nat} (W : List Nat) (hW : ∀ d ∈ W, d < 4 ∧ 0 ≤ st w h n x d) (hW4 : W.length ≤ 4) (res : List Int) :
    ∀ (e j : Nat) (S : (Nat → Int) × List Nat), j + e = W.length → SI (cellsN w h) S → S.2[i]? = some x → S.2.length ≤ 100 + j →
      (∀ S', S' = relaxL (st w h n) x (W.drop j) S → SI (cellsN w h) S' → Ev (fun k => impl_distances.l0 k (dlist (cellsN w h) S'.1) (ints S'.2) ((i + 1 : Nat) : Int) w h n) res) →
      Ev (fun k => impl_distances.l1 k (dlist (cellsN w h) S.1) (ints S.2) i (ints W) ((ints W).length : Int) j w h n) res
  | 0, j, S, hj, I, hx, hl, next => by
    have hi := (List.getElem?_eq_some_iff.1 hx).1
    refine Ev.step (fun _ => impl_distances.l1.eq_2 ..) (Ev.ff (by rw [ints_length]; omega) ?_)
    rw [wsucc (by omega)]
    exact next S (by rw [List.drop_eq_nil_of_le (by omega)]; rfl) I
  | e + 1, j, S, hj, I, hx, hl, next => by
    have hcast := cellsN_cast w h
    have hi := (List.getElem?_eq_some_iff.1 hx).1
    have hxv := I.lt x (List.mem_of_getElem? hx)
    have hjW : j < W.length := by omega
    obtain ⟨hd4, hd0⟩ := hW _ (List.getElem_mem hjW)
    have hdrop : W.drop j = W[j] :: W.drop (j + 1) := List.drop_eq_getElem_cons hjW
    have hwj : rd (ints W) (j : Int) = (W[j] : Nat) := rd_ints (List.getElem?_eq_getElem hjW)
    have hrng := (net_grid hn).rng x W[j] hxv hd4
    obtain ⟨y, hy⟩ : ∃ y : Nat, st w h n x W[j] = y := ⟨(st w h n x W[j]).toNat, by omega⟩
    have hyv : y < cellsN w h := by omega
    obtain ⟨I', hl', hk'⟩ := I.relax (net_grid hn).rng hxv hd4
    have ih := impl_dist_l1 W hW hW4 res e (j + 1) (relax (st w h n) x W[j] S) (by omega) I' (hk' i x hx) (by omega) (fun S' hS' I'' => next S' (by rw [hS', hdrop]; rfl) I'')
    refine Ev.step (fun _ => impl_distances.l1.eq_2 ..) ?_
    refine Ev.tt (by rw [ints_length]; omega) (Ev.tt (by omega) (Ev.tt (by rw [ints_length]; omega) (Ev.tt (by omega) (Ev.tt (by rw [ints_length]; omega) ?_))))
    rw [hwj, rd_ints hx]
    refine Ev.bind (impl_Step_ev hg hn x (W[j] : Nat)) ?_
    rw [show stepI w h n x (W[j] : Nat) = y from hy, wsucc (by omega)]
    refine Ev.tt (by omega) (Ev.tt (by rw [dlist_length]; omega) ?_)
    rw [rd_dlist hyv, rd_dlist hxv]
    refine Ev.ite (fun h1 => ?_) (fun h1 => ?_)
    · refine Ev.tt (by omega) (Ev.tt (by rw [dlist_length]; omega) (Ev.tt (by rw [ints_length]; omega) ?_))
      have hb1 := I.le x
      have hb2 : 0 ≤ S.1 x ∨ S.1 x < 0 := by omega
      have hrel : relax (st w h n) x W[j] S = (upd S.1 y (S.1 x + 1), S.2 ++ [y]) := by
        unfold relax
        rw [hy, Int.toNat_natCast, if_pos ⟨by omega, h1⟩]
      rw [hrel] at ih
      rw [Int.toNat_natCast, dlist_set hyv, ← ints_app]
      have := I.low x
      rw [wrap64_id (by omega) (by omega)]
      exact ih
    · have hrel : relax (st w h n) x W[j] S = S := by
        unfold relax
        rw [hy, Int.toNat_natCast, if_neg (fun hc => h1 hc.2)]
      rw [hrel] at ih
      exact ih
theorem impl_dist_l0 {src : Nat} (hs : src < cellsN w h) : ∀ (f i : Nat) (S : (Nat → Int) × List Nat), BInv (st w h n) (cellsN w h) src S i 0 → SI (cellsN w h) S → i ≤ S.2.length → cellsN w h + 1 - i ≤ f →
    Ev (fun k => impl_distances.l0 k (dlist (cellsN w h) S.1) (ints S.2) i w h n) (dlist (cellsN w h) (bfsF (st w h n) f S i))
  | 0, i, S, B, I, hi, hf => by have := B.len; omega
  | f + 1, i, S, B, I, hi, hf => by
    have h16 := cellsN_le w h
    have hlen := B.len
    refine Ev.step (fun _ => impl_distances.l0.eq_2 ..) ?_
    simp only [bfsF]
    cases hx : S.2[i]? with
    | none =>
      rw [List.getElem?_eq_none_iff] at hx
      exact Ev.ff (by rw [ints_length]; omega) (Ev.ret rfl)
    | some x =>
      have hil := (List.getElem?_eq_some_iff.1 hx).1
      have hxv := I.lt x (List.mem_of_getElem? hx)
      refine Ev.tt (by rw [ints_length]; omega) (Ev.tt (by omega) ?_)
      rw [rd_ints hx]
      refine Ev.bind (impl_Ways_ev hg hn _) ?_
      rw [waysI_ints]
      have hW : ∀ d ∈ ([0, 1, 2, 3].filter fun d => decide (0 ≤ st w h n x d)), d < 4 ∧ 0 ≤ st w h n x d := fun d hd => by
        rw [List.mem_filter] at hd
        refine ⟨?_, of_decide_eq_true hd.2⟩
        have := hd.1
        simp at this
        omega
      refine impl_dist_l1 hg hn (i := i) (x := x) _ hW (List.length_filter_le _ _) _ _ 0 S (Nat.zero_add _) I hx (by omega) (fun S' hS' I' => ?_)
      rw [List.drop_zero, relaxL_filter, ← bround_eq] at hS'
      subst hS'
      have B' := B.round (net_grid hn).rng hx
      refine impl_dist_l0 hs f (i + 1) _ B' I' ?_ (by omega)
      have h1 : ∀ m T, T.2.length ≤ (relax (st w h n) x m T).2.length := by
        intro m T
        unfold relax
        split <;> simp
      have := Nat.le_trans (h1 0 S) (Nat.le_trans (h1 1 _) (Nat.le_trans (h1 2 _) (h1 3 _)))
      show i + 1 ≤ (bround (st w h n) x S).2.length
      unfold bround
      omega
omit hg hn in
theorem SI.start {v src : Nat} (h : src < v) : SI v (upd (fun _ => -1) src 0, [src]) where
  le := fun c => by simp only [upd]; split <;> simp
  low := fun c => by simp only [upd]; split <;> omega
  lt := fun c hc => by simp at hc; omega
theorem impl_distances_ev {src : Nat} (hs : src < cellsN w h) : Ev (fun k => impl_distances.f k w h n src) (dlist (cellsN w h) (distN w h n src)) := by
  have h16 := cellsN_le w h
  have hcast := cellsN_cast w h
  unfold impl_distances.f
  refine Ev.bnd0 (impl_CountCells_eq w h) (Ev.bnd0 (a := dlist (cellsN w h) fun _ => -1) ?_ ?_)
  · unfold slices_Repeat_int_int.f
    rw [if_pos ⟨by simp, by omega, by omega⟩]
    congr 1
    refine List.ext_getElem (by simp [dlist]; omega) fun i h1 h2 => ?_
    simp [dlist, rd]
  · refine Ev.tt (by omega) (Ev.tt (by rw [dlist_length]; omega) ?_)
    rw [Int.toNat_natCast, dlist_set hs]
    exact impl_dist_l0 hg hn hs _ 0 _ (BInv.start hs) (SI.start hs) (by simp) (by omega)
end
end Go.Proofs.Ytbeajmcjfhbcjaa.P
namespace Go.Proofs.Ytbeajmcjfhbcjaa.P
open Go.RowKit Go.Proofs.YtbeajmcjfhbcjaaW.PrintWords Go.Proofs.Ytbeajmcjfhbcjaa.Sup
set_option linter.unusedVariables false
set_option linter.unusedSimpArgs false

theorem impl_isIn_one (w h o c : Int) : impl_isIn.f w h o [c] = some (mazeOk w h o && isCellI w h c) := by
  unfold impl_isIn.f
  rw [impl_MazeOk_eq, Option.bind_some]
  cases hm : mazeOk w h o
  · simp
  · rw [if_pos rfl]
    simp [impl_isCell_eq]
end Go.Proofs.Ytbeajmcjfhbcjaa.P
namespace Go.Proofs.Ytbeajmcjfhbcjaa.P
open Go.RowKit Go.Proofs.YtbeajmcjfhbcjaaW.PrintWords Go.Proofs.YtbeajmcjfhbcjaaW.PrintLast Go.Proofs.YtbeajmcjfhbcjaaW.PrintMore
attribute [local go_sem] max2_int min2_int max_two min_two max_three min_three max_four min_four   -- for this text's walks alone
set_option linter.unusedVariables false
set_option linter.unusedSimpArgs false

/-! ### spec_l04Has: function 160 -/
end Go.Proofs.Ytbeajmcjfhbcjaa.P
namespace Go.Proofs.Ytbeajmcjfhbcjaa.P
open Go.RowKit Go.Proofs.YtbeajmcjfhbcjaaW.PrintWords
set_option linter.unusedVariables false
set_option linter.unusedSimpArgs false

/-- i, i + 1, .. : d of them. -/
def run (i d : Nat) : List Int := (List.range d).map fun t => ((i + t : Nat) : Int)
theorem run_succ (i d : Nat) : run i (d + 1) = (i : Int) :: run (i + 1) d := by
  simp only [run, List.range_succ_eq_map, List.map_cons, List.map_map, Nat.add_zero]
  congr 1
  apply List.map_congr_left
  intro t _
  simp only [Function.comp, Nat.succ_eq_add_one]
  congr 1
  omega
theorem mem_run {i d : Nat} {x : Int} : x ∈ run i d ↔ (i : Int) ≤ x ∧ x < ((i + d : Nat) : Int) := by
  simp only [run, List.mem_map, List.mem_range]
  constructor
  · rintro ⟨t, ht, rfl⟩
    omega
  · intro ⟨h1, h2⟩
    exact ⟨(x - i).toNat, by omega, by omega⟩
theorem upTo_l0 (n : Nat) (hn : n ≤ 1000000) : ∀ (d i : Nat) (out : List Int), n - i = d → i ≤ n → out.length ≤ i → Ev (fun k => impl_upTo.l0 k n out i) (out ++ run i d)
  | 0, i, out, hd, hi, ho => by
    refine Ev.step (fun _ => impl_upTo.l0.eq_2 ..) (Ev.ff (by omega) (Ev.ret ?_))
    simp [run]
  | d + 1, i, out, hd, hi, ho => by
    refine Ev.step (fun _ => impl_upTo.l0.eq_2 ..) (Ev.tt (by omega) (Ev.tt (by omega) ?_))
    rw [wsucc (by omega), run_succ]
    have := upTo_l0 n hn d (i + 1) (out ++ [(i : Int)]) (by omega) (by omega) (by simp; omega)
    simpa using this
theorem impl_upTo_ev (n : Nat) (hn : n ≤ 1000000) : Ev (fun k => impl_upTo.f k n) (run 0 n) := by
  unfold impl_upTo.f
  have := upTo_l0 n hn n 0 [] (by omega) (by omega) (by simp)
  simpa using this
def p1 (x : Nat) : Nat := ((x / 2) &&& 6148914691236517205) + (x &&& 6148914691236517205)
def p2 (x : Nat) : Nat := ((x / 4) &&& 3689348814741910323) + (x &&& 3689348814741910323)
def p3 (x : Nat) : Nat := (x / 16 + x) &&& 1085102592571150095
theorem and_split {a m : Nat} (b M : Nat) (ha : a < 256) (hm : m < 256) : (256 * b + a) &&& (256 * M + m) = 256 * (b &&& M) + (a &&& m) := by
  apply Nat.eq_of_testBit_eq
  intro i
  have h1 := Nat.testBit_two_pow_mul_add b (i := 8) ha i
  have h2 := Nat.testBit_two_pow_mul_add M (i := 8) hm i
  have h3 := Nat.testBit_two_pow_mul_add (b &&& M) (i := 8) (b := a &&& m) (Nat.lt_of_le_of_lt Nat.and_le_left ha) i
  simp only [show (2 : Nat) ^ 8 = 256 from rfl] at h1 h2 h3
  rw [Nat.testBit_and, h1, h2, h3]
  split <;> simp [Nat.testBit_and]
theorem p1_split (b a : Nat) (ha : a < 256) : p1 (256 * b + a) = 256 * (((b / 2) &&& 24019198012642645) + (b &&& 24019198012642645)) + p1 a := by
  have e1 : (256 * b + a) / 2 = 256 * (b / 2) + (128 * (b % 2) + a / 2) := by omega
  have e2 : ∀ c, c < 2 → ∀ a, a < 256 → (128 * c + a / 2) &&& 85 = (a / 2) &&& 6148914691236517205 := by decide +kernel
  have e3 : ∀ a, a < 256 → a &&& 85 = a &&& 6148914691236517205 := by decide +kernel
  unfold p1
  rw [e1, show (6148914691236517205 : Nat) = 256 * 24019198012642645 + 85 from rfl, and_split _ _ (by omega) (by decide), and_split _ _ ha (by decide), ← show (6148914691236517205 : Nat) = 256 * 24019198012642645 + 85 from rfl, e2 _ (Nat.mod_lt _ (by decide)) a ha, e3 a ha]
  omega
theorem p2_split (b a : Nat) (ha : a < 256) : p2 (256 * b + a) = 256 * (((b / 4) &&& 14411518807585587) + (b &&& 14411518807585587)) + p2 a := by
  have e1 : (256 * b + a) / 4 = 256 * (b / 4) + (64 * (b % 4) + a / 4) := by omega
  have e2 : ∀ c, c < 4 → ∀ a, a < 256 → (64 * c + a / 4) &&& 51 = (a / 4) &&& 3689348814741910323 := by decide +kernel
  have e3 : ∀ a, a < 256 → a &&& 51 = a &&& 3689348814741910323 := by decide +kernel
  unfold p2
  rw [e1, show (3689348814741910323 : Nat) = 256 * 14411518807585587 + 51 from rfl, and_split _ _ (by omega) (by decide), and_split _ _ ha (by decide), ← show (3689348814741910323 : Nat) = 256 * 14411518807585587 + 51 from rfl, e2 _ (Nat.mod_lt _ (by decide)) a ha, e3 a ha]
  omega
theorem p3_split (b a : Nat) (ha : a < 72) (hb : b % 16 ≤ 4) : p3 (256 * b + a) = 256 * ((b / 16 + b) &&& 4238682002231055) + p3 a := by
  have e1 : (256 * b + a) / 16 + (256 * b + a) = 256 * (b / 16 + b) + (16 * (b % 16) + a / 16 + a) := by omega
  have e2 : ∀ c, c < 5 → ∀ a, a < 72 → (16 * c + a / 16 + a) &&& 15 = (a / 16 + a) &&& 1085102592571150095 := by decide +kernel
  unfold p3
  rw [e1, show (1085102592571150095 : Nat) = 256 * 4238682002231055 + 15 from rfl, and_split _ _ (by omega) (by decide), ← show (1085102592571150095 : Nat) = 256 * 4238682002231055 + 15 from rfl, e2 _ (by omega) a ha]
theorem byte : ∀ a, a < 256 → p1 a < 256 ∧ p1 a % 4 ≤ 2 ∧ p2 (p1 a) < 72 ∧ p2 (p1 a) % 16 ≤ 4 ∧ p3 (p2 (p1 a)) = pop 8 a := by decide +kernel
theorem and_low {b M : Nat} (hb : b < 65536) : b &&& M = b &&& (M % 65536) := by
  have h := Nat.and_mod_two_pow (a := b) (b := M) (n := 16)
  simp only [show (2 : Nat) ^ 16 = 65536 from rfl] at h
  rw [Nat.mod_eq_of_lt hb, Nat.mod_eq_of_lt (Nat.lt_of_le_of_lt Nat.and_le_left hb)] at h
  exact h
theorem p1_hi {b : Nat} (hb : b < 65536) : ((b / 2) &&& 24019198012642645) + (b &&& 24019198012642645) = p1 b := by
  unfold p1
  rw [and_low (show b / 2 < 65536 by omega), and_low hb, and_low (M := 6148914691236517205) (show b / 2 < 65536 by omega), and_low (M := 6148914691236517205) hb]
theorem p2_hi {b : Nat} (hb : b < 65536) : ((b / 4) &&& 14411518807585587) + (b &&& 14411518807585587) = p2 b := by
  unfold p2
  rw [and_low (show b / 4 < 65536 by omega), and_low hb, and_low (M := 3689348814741910323) (show b / 4 < 65536 by omega), and_low (M := 3689348814741910323) hb]
theorem p3_hi {b : Nat} (hb : b < 61680) : (b / 16 + b) &&& 4238682002231055 = p3 b := by
  unfold p3
  rw [and_low (show b / 16 + b < 65536 by omega), and_low (M := 1085102592571150095) (show b / 16 + b < 65536 by omega)]
theorem p3_three {a b c : Nat} (ha : a < 256) (hb : b < 256) (hc : c < 256) : p3 (p2 (p1 (256 * (256 * c + b) + a))) = 256 * (256 * pop 8 c + pop 8 b) + pop 8 a := by
  obtain ⟨a1, _, a2, a3, a4⟩ := byte a ha
  obtain ⟨b1, _, b2, b3, b4⟩ := byte b hb
  obtain ⟨c1, _, c2, c3, c4⟩ := byte c hc
  rw [p1_split _ _ ha, p1_hi (by omega), p1_split _ _ hb, p1_hi (by omega)]
  rw [p2_split _ _ a1, p2_hi (by omega), p2_split _ _ b1, p2_hi (by omega)]
  rw [p3_split _ _ a2 (by omega), p3_hi (by omega), p3_split _ _ b2 c3, p3_hi (by omega), a4, b4, c4]
theorem pop24 (a b c : Nat) (ha : a < 256) (hb : b < 256) (hc : c < 256) : pop 24 (256 * (256 * c + b) + a) = pop 8 a + pop 8 b + pop 8 c := by
  rw [show 24 = 8 + (8 + 8) from rfl, pop_add, pop_add, show (2 : Nat) ^ 8 = 256 from rfl, show (256 * (256 * c + b) + a) / 256 = 256 * c + b by omega, show (256 * c + b) / 256 = c by omega]
  rw [← pop_mod 8 (256 * (256 * c + b) + a), ← pop_mod 8 (256 * c + b), show (2 : Nat) ^ 8 = 256 from rfl, show (256 * (256 * c + b) + a) % 256 = a by omega, show (256 * c + b) % 256 = b by omega, Nat.add_assoc]
theorem u64_small {n : Nat} (h : n < 18446744073709551616) : IntKind.u64.wrap (n : Int) = n := by
  rw [IntKind.wrap_u64]; omega
theorem u64_and {a b : Nat} (ha : a < 9223372036854775808) (hb : b < 9223372036854775808) : Go.bits .and .u64 a b = ((a &&& b : Nat) : Int) :=
  (bits_nat .u64 63 (by decide) (fun n h0 h1 => by rw [IntKind.wrap_u64]; omega) a b (by simpa using ha) (by simpa using hb)).1
def s1 (a : Int) : Int := IntKind.u64.wrap ((Go.bits .and .u64 (a / 2) 6148914691236517205) + (Go.bits .and .u64 a 6148914691236517205))
def s2 (a : Int) : Int := IntKind.u64.wrap ((Go.bits .and .u64 (a / 4) 3689348814741910323) + (Go.bits .and .u64 a 3689348814741910323))
def s3 (a : Int) : Int := Go.bits .and .u64 (IntKind.u64.wrap (a / 16 + a)) 1085102592571150095
def s4 (a : Int) : Int := IntKind.u64.wrap (a + a / 256)
def s5 (a : Int) : Int := IntKind.u64.wrap (a + a / 65536)
def s6 (a : Int) : Int := IntKind.u64.wrap (a + a / 4294967296)
theorem ones_steps (a : Int) : bits_OnesCount.f a = some (Go.bits .and .i64 (wrap64 (s6 (s5 (s4 (s3 (s2 (s1 a))))))) 127) := rfl
theorem s1_nat {a : Nat} (h : a < 16777216) : s1 (a : Int) = (p1 a : Int) := by
  unfold s1 p1
  rw [show ((a : Int) / 2) = ((a / 2 : Nat) : Int) by omega, show (6148914691236517205 : Int) = ((6148914691236517205 : Nat) : Int) from rfl, u64_and (by omega) (by decide), u64_and (by omega) (by decide)]
  have h1 : (a / 2 &&& 6148914691236517205) ≤ a / 2 := Nat.and_le_left
  have h2 : (a &&& 6148914691236517205) ≤ a := Nat.and_le_left
  rw [← Int.natCast_add, u64_small (by omega)]
theorem s2_nat {a : Nat} (h : a < 67108864) : s2 (a : Int) = (p2 a : Int) := by
  unfold s2 p2
  rw [show ((a : Int) / 4) = ((a / 4 : Nat) : Int) by omega, show (3689348814741910323 : Int) = ((3689348814741910323 : Nat) : Int) from rfl, u64_and (by omega) (by decide), u64_and (by omega) (by decide)]
  have h1 : (a / 4 &&& 3689348814741910323) ≤ a / 4 := Nat.and_le_left
  have h2 : (a &&& 3689348814741910323) ≤ a := Nat.and_le_left
  rw [← Int.natCast_add, u64_small (by omega)]
theorem s3_nat {a : Nat} (h : a < 268435456) : s3 (a : Int) = (p3 a : Int) := by
  unfold s3 p3
  rw [show ((a : Int) / 16 + a) = ((a / 16 + a : Nat) : Int) by omega, u64_small (by omega), show (1085102592571150095 : Int) = ((1085102592571150095 : Nat) : Int) from rfl, u64_and (by omega) (by decide)]
/-- The library's count of bits. -/
theorem ones_eq {s : Nat} (h : s < 16777216) : bits_OnesCount.f (s : Int) = some (pop 24 s : Int) := by
  rw [ones_steps]
  have h1 : p1 s < 67108864 := by
    unfold p1
    have h1 : (s / 2 &&& 6148914691236517205) ≤ s / 2 := Nat.and_le_left
    have h2 : (s &&& 6148914691236517205) ≤ s := Nat.and_le_left
    omega
  have h2 : p2 (p1 s) < 268435456 := by
    unfold p2
    have h3 : (p1 s / 4 &&& 3689348814741910323) ≤ p1 s / 4 := Nat.and_le_left
    have h4 : (p1 s &&& 3689348814741910323) ≤ p1 s := Nat.and_le_left
    omega
  rw [s1_nat h, s2_nat h1, s3_nat h2]
  obtain ⟨a, b, c, ha, hb, hc, rfl⟩ : ∃ a b c, a < 256 ∧ b < 256 ∧ c < 256 ∧ s = 256 * (256 * c + b) + a := ⟨s % 256, s / 256 % 256, s / 65536, by omega, by omega, by omega, by omega⟩
  rw [p3_three ha hb hc, pop24 _ _ _ ha hb hc]
  have qa := pop_le 8 a
  have qb := pop_le 8 b
  have qc := pop_le 8 c
  generalize pop 8 a = x at *
  generalize pop 8 b = y at *
  generalize pop 8 c = z at *
  have e4 : s4 ((256 * (256 * z + y) + x : Nat) : Int) = ((65536 * z + 256 * (y + z) + (x + y) : Nat) : Int) := by
    unfold s4
    rw [show (((256 * (256 * z + y) + x : Nat) : Int) + ((256 * (256 * z + y) + x : Nat) : Int) / 256) = ((65536 * z + 256 * (y + z) + (x + y) : Nat) : Int) by omega, u64_small (by omega)]
  have e5 : s5 ((65536 * z + 256 * (y + z) + (x + y) : Nat) : Int) = ((65536 * z + 256 * (y + z) + (x + y + z) : Nat) : Int) := by
    unfold s5
    rw [show (((65536 * z + 256 * (y + z) + (x + y) : Nat) : Int) + ((65536 * z + 256 * (y + z) + (x + y) : Nat) : Int) / 65536) = ((65536 * z + 256 * (y + z) + (x + y + z) : Nat) : Int) by omega, u64_small (by omega)]
  have e6 : s6 ((65536 * z + 256 * (y + z) + (x + y + z) : Nat) : Int) = ((65536 * z + 256 * (y + z) + (x + y + z) : Nat) : Int) := by
    unfold s6
    rw [show (((65536 * z + 256 * (y + z) + (x + y + z) : Nat) : Int) + ((65536 * z + 256 * (y + z) + (x + y + z) : Nat) : Int) / 4294967296) = ((65536 * z + 256 * (y + z) + (x + y + z) : Nat) : Int) by omega, u64_small (by omega)]
  rw [e4, e5, e6, wrap64_id (by omega) (by omega), show (127 : Int) = ((127 : Nat) : Int) from rfl, bits_and (by omega) (by decide)]
  congr 2
  rw [show (127 : Nat) = 2 ^ 7 - 1 from rfl, Nat.and_two_pow_sub_one_eq_mod]
  omega
theorem ones_eq' {n s : Nat} (hn : n ≤ 24) (h : s < 2 ^ n) : bits_OnesCount.f (s : Int) = some (pop n s : Int) := by
  rw [ones_eq (Nat.lt_of_lt_of_le h (Nat.pow_le_pow_right (by decide) hn)), pop_big h hn]
end Go.Proofs.Ytbeajmcjfhbcjaa.P
namespace Go.Proofs.Ytbeajmcjfhbcjaa.P
open Go.RowKit Go.Proofs.YtbeajmcjfhbcjaaW.PrintWords Go.Proofs.YtbeajmcjfhbcjaaW.PrintLast Go.Proofs.YtbeajmcjfhbcjaaW.PrintMore
attribute [local go_sem] max2_int min2_int max_two min_two max_three min_three max_four min_four   -- for this text's walks alone
set_option linter.unusedVariables false
set_option linter.unusedSimpArgs false

/-! ### impl_DistanceOf: function 162 -/
end Go.Proofs.Ytbeajmcjfhbcjaa.P
namespace Go.Proofs.Ytbeajmcjfhbcjaa.P
open Go.RowKit Go.Proofs.YtbeajmcjfhbcjaaW.PrintWords
set_option linter.unusedVariables false
set_option linter.unusedSimpArgs false

theorem run_zero (v : Nat) : run 0 v = ints (List.range v) := by
  unfold run ints
  exact List.map_congr_left fun t _ => by omega
theorem isCellI_nat {w h : Int} {c : Nat} (hc : c < cellsN w h) : isCellI w h c = true := by
  have := cellsN_cast w h
  unfold isCellI
  rw [decide_eq_true_eq]; omega
section
variable {w h : Int} {n : Nat} (hg : gridOk w h = true) (hn : n < 2 ^ gapsN w h)
include hg hn
theorem mazeOk_nat : mazeOk w h n = true := mazeOk_iff.2 ⟨hg, n, rfl, hn⟩
theorem impl_Reached_ev {s : Nat} (hs : s < cellsN w h) : Ev (fun k => impl_Reached.f k w h n s) (ints (reachN w h n s)) := by
  have h16 := cellsN_le w h
  unfold impl_Reached.f
  refine Ev.bnd0 (impl_isIn_one w h n s) (Ev.tt (by rw [mazeOk_nat hg hn, isCellI_nat hs]; rfl) ?_)
  refine Ev.bind (impl_distances_ev hg hn hs) ?_
  rw [dlist_length]
  refine Ev.bind (impl_upTo_ev _ (by omega)) (Ev.tt ?_ (Ev.ret ?_))
  · rw [List.all_eq_true]
    intro c hc
    have := mem_run.1 hc
    rw [decide_eq_true_eq]
    omega
  · rw [run_zero]
    unfold reachN ints
    rw [List.filter_map]
    congr 1
    refine List.filter_congr fun c hc => ?_
    rw [List.mem_range] at hc
    simp only [Function.comp]
    rw [rd_dlist hc]
    by_cases h1 : distN w h n s c < 0
    · rw [decide_eq_true h1, decide_eq_false (show ¬ 0 ≤ distN w h n s c by omega)]; rfl
    · rw [decide_eq_false h1, decide_eq_true (show 0 ≤ distN w h n s c by omega)]; rfl
omit hg hn in
theorem head_is {s : Nat} (hn : n < 2 ^ gapsN w h) (hs : s < cellsN w h) : 0 < ((ints (reachN w h n s)).length : Int) ∧ rd (ints (reachN w h n s)) 0 = labN w h n s := by
  obtain ⟨t, ht⟩ := reachN_head hn hs
  rw [ht]
  exact ⟨by simp [ints], rfl⟩
theorem impl_parts_l0 : ∀ (d c m : Nat), c + d = cellsN w h → m ≤ c → Ev (fun k => impl_CountParts.l0 k m c w h n) (((m + (cnt (fun i => labN w h n i == i) (cellsN w h) - cnt (fun i => labN w h n i == i) c) : Nat)) : Int)
  | 0, c, m, hd, hm => by
    have hcast := cellsN_cast w h
    refine Ev.step (fun _ => impl_CountParts.l0.eq_2 ..) (Ev.bnd0 (impl_isIn_one w h n c) (Ev.ff ?_ (Ev.ret ?_)))
    · have : isCellI w h c = false := by unfold isCellI; rw [decide_eq_false_iff_not]; omega
      rw [this]; simp
    · rw [show c = cellsN w h by omega, Nat.sub_self, Nat.add_zero]
  | d + 1, c, m, hd, hm => by
    have h16 := cellsN_le w h
    have hcv : c < cellsN w h := by omega
    obtain ⟨e1, e2⟩ := head_is hn hcv
    refine Ev.step (fun _ => impl_CountParts.l0.eq_2 ..) (Ev.bnd0 (impl_isIn_one w h n c) (Ev.tt (by rw [mazeOk_nat hg hn, isCellI_nat hcv]; rfl) ?_))
    refine Ev.bind (impl_Reached_ev hg hn hcv) (Ev.tt e1 ?_)
    rw [e2, wsucc (by omega), wsucc (by omega)]
    have hle : cnt (fun i => labN w h n i == i) (c + 1) ≤ cnt (fun i => labN w h n i == i) (cellsN w h) := by
      obtain ⟨x, hx⟩ := Nat.exists_eq_add_of_le (show c + 1 ≤ cellsN w h by omega)
      rw [hx]
      have : ∀ x, cnt (fun i => labN w h n i == i) (c + 1) ≤ cnt (fun i => labN w h n i == i) (c + 1 + x) := by
        intro x
        induction x with
        | zero => exact Nat.le_refl _
        | succ x ih => rw [← Nat.add_assoc]; simp only [cnt]; simp only [cnt] at ih; omega
      exact this x
    simp only [cnt] at hle
    refine Ev.ite (fun h1 => ?_) (fun h1 => ?_)
    · refine Ev.eq (impl_parts_l0 d (c + 1) (m + 1) (by omega) (by omega)) ?_
      have : (labN w h n c == c) = true := by rw [beq_iff_eq]; omega
      simp only [cnt, this, Bool.toNat_true] at hle ⊢
      omega
    · refine Ev.eq (impl_parts_l0 d (c + 1) m (by omega) (by omega)) ?_
      have : (labN w h n c == c) = false := by rw [beq_eq_false_iff_ne]; omega
      simp only [cnt, this, Bool.toNat_false] at hle ⊢
      omega
theorem impl_CountParts_ev : Ev (fun k => impl_CountParts.f k w h n) (partsN w h n : Int) := by
  unfold impl_CountParts.f
  refine Ev.eq (impl_parts_l0 hg hn (cellsN w h) 0 0 (by omega) (by omega)) ?_
  simp only [cnt, Nat.zero_add, Nat.sub_zero]
  rfl
end
end Go.Proofs.Ytbeajmcjfhbcjaa.P
namespace Go.Proofs.Ytbeajmcjfhbcjaa.P
open Go.RowKit Go.Proofs.YtbeajmcjfhbcjaaW.PrintWords
set_option linter.unusedVariables false
set_option linter.unusedSimpArgs false

section
variable {w h : Int} {n : Nat} (hg : gridOk w h = true) (hn : n < 2 ^ gapsN w h)
include hg hn
theorem impl_CountPassages_eq : impl_CountPassages.f w h n = some (pop (gapsN w h) n : Int) := by
  have hs := open_small hn
  unfold impl_CountPassages.f
  rw [impl_MazeOk_eq, Option.bind_some, if_pos (mazeOk_nat hg hn), u64_small (by omega), ones_eq' (gapsN_le w h) hn, Option.bind_some]
omit hn in
theorem perf_value : (if (decide (((partsN w h n : Nat) : Int) = 1)) = true then decide (((pop (gapsN w h) n : Nat) : Int) = wrap64 (cellsOf w h - 1)) else false) = perfN w h n := by
  have h16 := cellsN_le w h
  have hpos := cells_pos hg
  have hcast := cellsN_cast w h
  have hpop := pop_le (gapsN w h) n
  rw [wrap64_id (by omega) (by omega)]
  unfold perfN perf
  by_cases h1 : partsN w h n = 1
  · have h1' := h1
    unfold partsN at h1'
    rw [h1, h1']
    simp only [Int.natCast_one, decide_true, if_true, true_and]
    rw [decide_eq_decide]
    omega
  · have h1' := h1
    unfold partsN at h1'
    rw [if_neg (by simp; omega)]
    symm
    rw [decide_eq_false_iff_not]
    exact fun h2 => h1' h2.1
theorem impl_IsPerfect_ev : Ev (fun k => impl_IsPerfect.f k w h n) (perfN w h n) := by
  unfold impl_IsPerfect.f impl_IsConnected.f
  rw [← perf_value hg]
  refine Ev.bind (Ev.bind (impl_CountParts_ev hg hn) (Ev.ret rfl)) ?_
  refine Ev.ite (fun h1 => Ev.bnd0 (impl_CountPassages_eq hg hn) (Ev.bnd0 (impl_CountCells_eq w h) (Ev.ret ?_))) (fun h1 => Ev.ret ?_)
  · rw [if_pos (by simpa using h1)]
    rw [Bool.eq_iff_iff]
    simp
  · rw [if_neg (by simpa using h1)]
end
end Go.Proofs.Ytbeajmcjfhbcjaa.P
namespace Go.Proofs.Ytbeajmcjfhbcjaa.P
open Go.RowKit Go.Proofs.YtbeajmcjfhbcjaaW.PrintWords Go.Proofs.YtbeajmcjfhbcjaaW.PrintLast Go.Proofs.YtbeajmcjfhbcjaaW.PrintMore
attribute [local go_sem] max2_int min2_int max_two min_two max_three min_three max_four min_four   -- for this text's walks alone
set_option linter.unusedVariables false
set_option linter.unusedSimpArgs false

/-! ### spec_l05Tree: function 121 -/
/-! ### spec_DrawPerfect: function 62 -/
end Go.Proofs.Ytbeajmcjfhbcjaa.P
namespace Go.Proofs.Ytbeajmcjfhbcjaa.P
open Go Go.RowKit Go.Proofs.YtbeajmcjfhbcjaaW.PrintWords
set_option linter.unusedVariables false
set_option linter.unusedSimpArgs false

theorem bits_255 (x : Int) : 0 ≤ Go.bits .and .i64 x 255 ∧ Go.bits .and .i64 x 255 ≤ 255 := by
  have h : (BitVec.ofInt 64 x &&& BitVec.ofInt 64 255).toNat ≤ 255 := by
    rw [BitVec.toNat_and]
    exact Nat.and_le_right
  show 0 ≤ IntKind.i64.wrap ((BitVec.ofInt 64 x &&& BitVec.ofInt 64 255).toNat : Int) ∧ IntKind.i64.wrap ((BitVec.ofInt 64 x &&& BitVec.ofInt 64 255).toNat : Int) ≤ 255
  rw [wrap_small (by omega)]
  omega
section
variable {l : List Int}
theorem spec_New_l0 (hl : l.length ≤ 1048576) : ∀ (e i : Nat) (h : Int), l.length - i = e → ∃ h', Ev (fun k => spec_l01New.l0 k l h i) (l, 0, h')
  | 0, i, h, he => ⟨h, Ev.step (fun _ => spec_l01New.l0.eq_2 ..) (Ev.ff (by omega) (Ev.ret rfl))⟩
  | e + 1, i, h, he => by
    by_cases h4 : (i : Int) < 4000
    · obtain ⟨h', ih⟩ := spec_New_l0 hl e (i + 1) (Go.bits .and .i64 (wrap64 ((wrap64 ((wrap64 (h * 131)) + (wrap64 (rd l i)))) + 7)) 1073741823) (by omega)
      refine ⟨h', Ev.step (fun _ => spec_l01New.l0.eq_2 ..) (Ev.tt (by omega) (Ev.tt h4 (Ev.tt (by omega) ?_)))⟩
      rw [wsucc (by omega)]
      exact ih
    · exact ⟨h, Ev.step (fun _ => spec_l01New.l0.eq_2 ..) (Ev.tt (by omega) (Ev.ff h4 (Ev.ret rfl)))⟩
theorem spec_New_ev (hl : l.length ≤ 1048576) : ∃ h', Ev (fun k => spec_l01New.f k l) (l, 0, h') := spec_New_l0 hl l.length 0 _ rfl
theorem spec_Byte_eq (hl : l.length ≤ 1048576) {i : Int} (hi : 0 ≤ i) (h : Int) : ∃ b i' h', spec_l01Byte.f l i h = some (b, i', h') ∧ 0 ≤ b ∧ b ≤ 255 ∧ 0 ≤ i' := by
  unfold spec_l01Byte.f
  by_cases e : i < (l.length : Int)
  · rw [if_pos e, if_pos hi]
    exact ⟨_, _, _, rfl, (bits_255 _).1, (bits_255 _).2, by rw [wrap64_id (by omega) (by omega)]; omega⟩
  · rw [if_neg e]
    exact ⟨_, _, _, rfl, (bits_255 _).1, (bits_255 _).2, hi⟩
theorem spec_Below_eq (hl : l.length ≤ 1048576) {i : Int} (hi : 0 ≤ i) (h : Int) {n : Int} (h1 : 1 ≤ n) (h2 : n ≤ 256) : ∃ b i' h', spec_l01Below.f l i h n = some (b, i', h') ∧ 0 ≤ b ∧ b < n ∧ 0 ≤ i' := by
  obtain ⟨b, i', h', e, b0, b1, hi'⟩ := spec_Byte_eq hl hi h
  unfold spec_l01Below.f
  rw [if_neg (by omega), if_pos h2, e, Option.bind_some, if_neg (by omega)]
  exact ⟨_, _, _, rfl, Int.tmod_nonneg _ b0, Int.tmod_lt_of_pos _ (by omega), hi'⟩
theorem spec_Pick_eq (hl : l.length ≤ 1048576) {i : Int} (hi : 0 ≤ i) (h : Int) : ∃ (j : Nat) (i' h' : Int), spec_l01PickInt.f l i h [1, 2, 3, 3, 4] = some (rd [1, 2, 3, 3, 4] (j : Int), i', h') ∧ j < 5 ∧ 0 ≤ i' := by
  obtain ⟨b, i', h', e, b0, b1, hi'⟩ := spec_Below_eq hl hi h (n := 5) (by omega) (by omega)
  unfold spec_l01PickInt.f
  show ∃ (j : Nat) (i'' h'' : Int), (spec_l01Below.f l i h 5).bind _ = _ ∧ _
  rw [e, Option.bind_some, if_pos b0]
  refine ⟨b.toNat, i', h', ?_, by omega, hi'⟩
  rw [if_pos (show b < (([1, 2, 3, 3, 4] : List Int).length : Int) from b1), Int.toNat_of_nonneg b0]
theorem pick_ok {j : Nat} (hj : j < 5) : 1 ≤ rd [1, 2, 3, 3, 4] (j : Int) ∧ rd [1, 2, 3, 3, 4] (j : Int) ≤ 4 := by
  have : j = 0 ∨ j = 1 ∨ j = 2 ∨ j = 3 ∨ j = 4 := by omega
  rcases this with rfl | rfl | rfl | rfl | rfl <;> decide
theorem spec_Grid_eq (hl : l.length ≤ 1048576) {i : Int} (hi : 0 ≤ i) (h : Int) : ∃ w hh i' h', spec_l02Grid.f l i h = some (w, hh, i', h') ∧ gridOk w hh = true ∧ 0 ≤ i' := by
  obtain ⟨j, i1, h1, e1, hj, hi1⟩ := spec_Pick_eq hl hi h
  obtain ⟨j2, i2, h2, e2, hj2, hi2⟩ := spec_Pick_eq hl hi1 h1
  unfold spec_l02Grid.f
  rw [e1, Option.bind_some, e2, Option.bind_some]
  refine ⟨_, _, _, _, rfl, gridOk_iff.2 ?_, hi2⟩
  have := pick_ok hj
  have := pick_ok hj2
  omega
end
/-! The step that the draw takes -/
theorem spec_Common_ev : ∀ (b a : Nat), Ev (fun k => spec_l03Common.f k a b) (decide (Nat.gcd a b > 1)) := by
  intro b
  induction b using Nat.strongRecOn with
  | _ b ih =>
    intro a
    by_cases h0 : b = 0
    · subst h0
      refine Ev.step (g := fun k => spec_l03Common.f k a (0 : Nat)) (fun _ => spec_l03Common.l0.eq_2 ..) (Ev.ff (by omega) (Ev.ret ?_))
      rw [Nat.gcd_zero_right, decide_eq_decide]
      omega
    · refine Ev.step (g := fun k => spec_l03Common.f k a b) (fun _ => spec_l03Common.l0.eq_2 ..) (Ev.tt (by omega) (Ev.ff (by omega) ?_))
      rw [Int.tmod_eq_emod_of_nonneg (by omega), ← Int.natCast_emod]
      refine Ev.eq (ih (a % b) (Nat.mod_lt _ (by omega)) b) ?_
      rw [decide_eq_decide, Nat.gcd_comm b (a % b), ← Nat.gcd_rec, Nat.gcd_comm b a]
def coverB (n s : Nat) : Bool := (List.range n).all fun g => (List.range n).any fun k => decide ((k * s) % n = g)
theorem cover_all : (List.range 25).all (fun n => (List.range n).all fun s => decide (¬ Nat.gcd s n = 1) || coverB n s) = true := by decide +kernel
theorem cover {n step first : Nat} (hn : n < 25) (h0 : 0 < n) (hg : Nat.gcd step n ≤ 1) {g : Nat} (hgn : g < n) : ∃ k, k < n ∧ (first + k * step) % n = g := by
  have hs : step % n < n := Nat.mod_lt _ h0
  have h1 : Nat.gcd (step % n) n = 1 := by
    have e : Nat.gcd (step % n) n = Nat.gcd step n := by rw [Nat.gcd_comm step n, ← Nat.gcd_rec]
    rw [e]
    have : 0 < Nat.gcd step n := Nat.gcd_pos_of_pos_right _ h0
    omega
  have := List.all_eq_true.1 (List.all_eq_true.1 cover_all n (List.mem_range.2 hn)) (step % n) (List.mem_range.2 hs)
  simp only [Bool.or_eq_true, decide_eq_true_eq] at this
  have hc : coverB n (step % n) = true := this.resolve_left (fun h => h h1)
  unfold coverB at hc
  have hx : (g + (n - first % n)) % n < n := Nat.mod_lt _ h0
  have := List.all_eq_true.1 hc ((g + (n - first % n)) % n) (List.mem_range.2 hx)
  obtain ⟨k, hk, hkk⟩ := List.any_eq_true.1 this
  refine ⟨k, List.mem_range.1 hk, ?_⟩
  have hk2 := of_decide_eq_true hkk
  rw [Nat.mul_mod_mod] at hk2
  have hf : first % n < n := Nat.mod_lt _ h0
  rw [Nat.add_mod, hk2, Nat.add_mod_mod, ← Nat.mod_add_mod (first % n), Nat.mod_mod]
  rw [show first % n + (g + (n - first % n)) = g + n by omega, Nat.add_mod_right, Nat.mod_eq_of_lt hgn]
/-! Labels as a table -/
def tabL (P : Nat → Int) (V : Nat) : List Int := (List.range V).map P
theorem tabL_length (P : Nat → Int) (V : Nat) : (tabL P V).length = V := by simp [tabL]
theorem tabL_rd {P : Nat → Int} {V c : Nat} (h : c < V) : rd (tabL P V) (c : Int) = P c := by
  rw [rd_get (by rw [tabL_length]; exact h)]
  simp [tabL]
theorem tabL_congr {P Q : Nat → Int} {V : Nat} (h : ∀ x, x < V → P x = Q x) : tabL P V = tabL Q V := List.map_congr_left fun x hx => h x (List.mem_range.1 hx)
theorem tabL_set (P : Nat → Int) (V i : Nat) (v : Int) : (tabL P V).set i v = tabL (fun x => if x = i then v else P x) V := by
  refine List.ext_getElem (by simp [tabL]) fun j h1 h2 => ?_
  rw [List.getElem_set]
  simp only [tabL, List.getElem_map, List.getElem_range]
  by_cases e : i = j
  · subst e; simp
  · rw [if_neg e, if_neg (fun h => e h.symm)]
theorem KInv.weak {e : Nat → Nat × Nat} {V E : Nat} {d d' : Nat → Prop} {P : Nat → Int} {o : Nat} (K : KInv e V E d P o) (h : ∀ g, d' g → d g) : KInv e V E d' P o := ⟨K.lt, K.lab, K.fo, fun g hg hd => K.dn g hg (h g hd)⟩
end Go.Proofs.Ytbeajmcjfhbcjaa.P
namespace Go.Proofs.Ytbeajmcjfhbcjaa.P
open Go Go.RowKit Go.Proofs.YtbeajmcjfhbcjaaW.PrintWords
set_option linter.unusedVariables false
set_option linter.unusedSimpArgs false

section
variable {w h : Int} {xs : List Int} {i1 h1 : Int}
/-- The k-th gap that is looked at. -/
def gapN (n first step k : Nat) : Nat := (first + k * step) % n
theorem tree_l3 {n first step kk : Nat} {P : Nat → Int} {a : Nat} {old : Int} {o : Int} {r : Int × Int × Int × Int × Int} (ha : a < cellsN w h) (hne : ¬ P a = old)
    (hk : Ev (fun k => spec_l03Tree.l2 k n (tabL (fun x => if P x = old then P a else P x) (cellsN w h)) first step (wrap64 ((kk : Int) + 1)) xs i1 h1 w h w h o) r) : ∀ e i : Nat, i + e = cellsN w h →
    Ev (fun k => spec_l03Tree.l3 k n (tabL (fun x => if x < i ∧ P x = old then P a else P x) (cellsN w h)) first step kk a old i xs i1 h1 w h w h o) r
  | 0, i, he => by
    refine Ev.step (fun _ => spec_l03Tree.l3.eq_2 ..) (Ev.ff (by rw [tabL_length]; omega) ?_)
    rw [tabL_congr (Q := fun x => if P x = old then P a else P x) (fun x hx => by
      by_cases e : P x = old
      · rw [if_pos ⟨by omega, e⟩, if_pos e]
      · rw [if_neg (fun h => e h.2), if_neg e])]
    exact hk
  | e + 1, i, he => by
    have hl := cellsN_le w h
    have ih := tree_l3 (n := n) (first := first) (step := step) (kk := kk) (P := P) (old := old) (o := o) ha hne hk e (i + 1) (by omega)
    refine Ev.step (fun _ => spec_l03Tree.l3.eq_2 ..) (Ev.tt (by rw [tabL_length]; omega) (Ev.tt (by omega) ?_))
    rw [tabL_rd (show i < cellsN w h by omega), wsucc (show i < 4611686018427387904 by omega)]
    simp only [Nat.lt_irrefl, false_and, if_false]
    refine Ev.ite (fun e1 => ?_) (fun e1 => ?_)
    · refine Ev.tt (by omega) (Ev.tt (by rw [tabL_length]; omega) ?_)
      rw [tabL_rd ha, if_neg (fun h => hne h.2), Int.toNat_natCast, tabL_set]
      rw [tabL_congr (Q := fun x => if x < i + 1 ∧ P x = old then P a else P x) (fun x hx => by
        by_cases e2 : x = i
        · subst e2; rw [if_pos rfl, if_pos ⟨by omega, e1⟩]
        · rw [if_neg e2]
          by_cases e3 : x < i ∧ P x = old
          · rw [if_pos e3, if_pos ⟨by omega, e3.2⟩]
          · rw [if_neg e3, if_neg (fun h => e3 ⟨by omega, h.2⟩)])]
      exact ih
    · rw [tabL_congr (Q := fun x => if x < i + 1 ∧ P x = old then P a else P x) (fun x hx => by
        by_cases e3 : x < i ∧ P x = old
        · rw [if_pos e3, if_pos ⟨by omega, e3.2⟩]
        · rw [if_neg e3]
          by_cases e4 : x < i + 1 ∧ P x = old
          · have : x = i := by
              by_cases e5 : x < i
              · exact absurd ⟨e5, e4.2⟩ e3
              · omega
            subst this
            exact absurd e4.2 e1
          · rw [if_neg e4])]
      exact ih
theorem tree_l2 (hg : gridOk w h = true) {first step : Nat} (hf : first < 25) (hs : step < 100) : ∀ (e kk : Nat) (P : Nat → Int) (o : Nat), kk + e = gapsN w h →
    KInv (ends w h) (cellsN w h) (gapsN w h) (fun g => ∃ j, j < kk ∧ gapN (gapsN w h) first step j = g) P o →
    ∃ (P' : Nat → Int) (o' : Nat), KInv (ends w h) (cellsN w h) (gapsN w h) (fun g => ∃ j, j < gapsN w h ∧ gapN (gapsN w h) first step j = g) P' o' ∧
      Ev (fun k => spec_l03Tree.l2 k (gapsN w h : Nat) (tabL P (cellsN w h)) first step kk xs i1 h1 w h w h o) (w, h, (o' : Int), i1, h1)
  | 0, kk, P, o, he, K => by
    refine ⟨P, o, K.weak (fun g ⟨j, hj, e⟩ => ⟨j, by omega, e⟩), Ev.step (fun _ => spec_l03Tree.l2.eq_2 ..) (Ev.ff (by omega) (Ev.ret rfl))⟩
  | e + 1, kk, P, o, he, K => by
    have hgl := gapsN_le w h
    have hgc := gapsN_cast w h
    have hcl := cellsN_le w h
    have hgN : gapN (gapsN w h) first step kk < gapsN w h := Nat.mod_lt _ (by omega)
    have hkm : kk * step ≤ 24 * 100 := Nat.mul_le_mul (by omega) (by omega)
    have hgap : Int.tmod (wrap64 ((first : Int) + (wrap64 ((kk : Int) * (step : Int))))) (gapsN w h : Nat) = ((gapN (gapsN w h) first step kk : Nat) : Int) := by
      rw [show ((kk : Int) * (step : Int)) = ((kk * step : Nat) : Int) by rw [Int.natCast_mul], wrap64_id (x := ((kk * step : Nat) : Int)) (by omega) (by omega), wrap64_id (by omega) (by omega), Int.tmod_eq_emod_of_nonneg (by omega)]
      unfold gapN
      rw [Int.natCast_emod, Int.natCast_add]
    obtain ⟨f1, f2, f3⟩ := ends_facts hgN
    have hstep : ∀ {P' : Nat → Int} {o' : Nat}, KInv (ends w h) (cellsN w h) (gapsN w h) (fun j => (∃ j', j' < kk ∧ gapN (gapsN w h) first step j' = j) ∨ j = gapN (gapsN w h) first step kk) P' o' →
        KInv (ends w h) (cellsN w h) (gapsN w h) (fun g => ∃ j, j < kk + 1 ∧ gapN (gapsN w h) first step j = g) P' o' := fun K' => K'.weak (fun g ⟨j, hj, e2⟩ => by
          by_cases e3 : j < kk
          · exact Or.inl ⟨j, e3, e2⟩
          · have : j = kk := by omega
            subst this
            exact Or.inr e2.symm)
    by_cases he1 : P (ends w h (gapN (gapsN w h) first step kk)).1 = P (ends w h (gapN (gapsN w h) first step kk)).2
    · obtain ⟨P', o', K', ih⟩ := tree_l2 hg hf hs e (kk + 1) P o (by omega) (hstep (K.skip (gr_grid w h) hgN he1))
      refine ⟨P', o', K', Ev.step (fun _ => spec_l03Tree.l2.eq_2 ..) (Ev.tt (by omega) (Ev.ff (by omega) ?_))⟩
      rw [hgap, wsucc (show kk < 4611686018427387904 by omega)]
      refine Ev.bnd0 ((spec_EndsOf_eq w h _).trans (congrArg some f1)) ?_
      refine Ev.tt (by omega) (Ev.tt (by rw [tabL_length]; omega) (Ev.tt (by omega) (Ev.tt (by rw [tabL_length]; omega) ?_)))
      rw [tabL_rd (by omega), tabL_rd f3]
      exact Ev.tt he1 ih
    · obtain ⟨P', o', K', ih⟩ := tree_l2 hg hf hs e (kk + 1) _ (setB o (gapN (gapsN w h) first step kk) true) (by omega) (hstep (K.join (gr_grid w h) hgN he1))
      refine ⟨P', o', K', Ev.step (fun _ => spec_l03Tree.l2.eq_2 ..) (Ev.tt (by omega) (Ev.ff (by omega) ?_))⟩
      rw [hgap]
      refine Ev.bnd0 ((spec_EndsOf_eq w h _).trans (congrArg some f1)) ?_
      refine Ev.tt (by omega) (Ev.tt (by rw [tabL_length]; omega) (Ev.tt (by omega) (Ev.tt (by rw [tabL_length]; omega) ?_)))
      rw [tabL_rd (show (ends w h (gapN (gapsN w h) first step kk)).1 < cellsN w h by omega), tabL_rd f3]
      refine Ev.ff he1 (Ev.tt (by omega) ?_)
      have ho := open_small K.lt
      have hpw : 2 ^ gapN (gapsN w h) first step kk ≤ 2 ^ 24 := Nat.pow_le_pow_right (by decide) (by omega)
      rw [shl_pow (by omega), bits_or (by omega) (by omega), show o ||| 2 ^ gapN (gapsN w h) first step kk = setB o (gapN (gapsN w h) first step kk) true from rfl]
      have := tree_l3 (w := w) (h := h) (xs := xs) (i1 := i1) (h1 := h1) (n := gapsN w h) (first := first) (step := step) (kk := kk) (P := P) (a := (ends w h (gapN (gapsN w h) first step kk)).1) (old := P (ends w h (gapN (gapsN w h) first step kk)).2)
        (o := ((setB o (gapN (gapsN w h) first step kk) true : Nat) : Int)) (r := (w, h, (o' : Int), i1, h1)) (by omega) he1 (by rw [wsucc (show kk < 4611686018427387904 by omega)]; exact ih) (cellsN w h) 0 (by omega)
      rw [tabL_congr (Q := P) (fun x hx => if_neg (fun h => absurd h.1 (by omega)))] at this
      exact this
theorem tree_l1 (hg : gridOk w h = true) (h0 : 0 < gapsN w h) {first : Nat} (hf : first < 25) {P : Nat → Int} {o : Nat} (K : KInv (ends w h) (cellsN w h) (gapsN w h) (fun _ => False) P o) : ∀ d step : Nat, step + d = 2 * gapsN w h + 1 →
    ∃ o' : Nat, o' < 2 ^ gapsN w h ∧ perfN w h o' = true ∧ Ev (fun k => spec_l03Tree.l1 k (gapsN w h : Nat) (tabL P (cellsN w h)) first step xs i1 h1 w h w h o) (w, h, (o' : Int), i1, h1) := by
  have hgl := gapsN_le w h
  have fin : ∀ step : Nat, step < 100 → Nat.gcd step (gapsN w h) ≤ 1 → ∃ o' : Nat, o' < 2 ^ gapsN w h ∧ perfN w h o' = true ∧ Ev (fun k => spec_l03Tree.l1 k (gapsN w h : Nat) (tabL P (cellsN w h)) first step xs i1 h1 w h w h o) (w, h, (o' : Int), i1, h1) := by
    intro step hs hgcd
    obtain ⟨P', o', K', hEv⟩ := tree_l2 (xs := xs) (i1 := i1) (h1 := h1) hg hf hs (gapsN w h) 0 P o (by omega) (K.weak (fun g ⟨j, hj, _⟩ => absurd hj (by omega)))
    refine ⟨o', K'.lt, ?_, Ev.step (fun _ => spec_l03Tree.l1.eq_2 ..) (Ev.bind (spec_Common_ev (gapsN w h) step) (Ev.ff (by rw [decide_eq_true_eq]; omega) hEv))⟩
    exact K'.perfect (cells_pos hg) (fun g hgg => cover (by omega) h0 hgcd hgg) (full := 2 ^ gapsN w h - 1) (by have := Nat.two_pow_pos (gapsN w h); omega) (full_conn hg (fun g hgg => by rw [Nat.testBit_two_pow_sub_one]; simp [hgg]))
  intro d
  induction d with
  | zero =>
    intro step hst
    refine fin step (by omega) ?_
    have : Nat.gcd step (gapsN w h) = 1 := by
      rw [show step = 1 + gapsN w h * 2 by omega, Nat.gcd_add_mul_left_left, Nat.gcd_one_left]
    omega
  | succ d ih =>
    intro step hst
    by_cases hc : Nat.gcd step (gapsN w h) > 1
    · obtain ⟨o', ho, hp, hEv⟩ := ih (step + 1) (by omega)
      refine ⟨o', ho, hp, Ev.step (fun _ => spec_l03Tree.l1.eq_2 ..) (Ev.bind (spec_Common_ev (gapsN w h) step) (Ev.tt (by rw [decide_eq_true_eq]; exact hc) ?_))⟩
      rw [wsucc (by omega)]
      exact hEv
    · exact fin step (by omega) (by omega)
theorem tree_l0 (hg : gridOk w h = true) (hl : xs.length ≤ 1048576) (hi : 0 ≤ i1) : ∀ e i : Nat, i + e = cellsN w h →
    ∃ (o' : Nat) (i2 h2 : Int), 0 ≤ i2 ∧ o' < 2 ^ gapsN w h ∧ perfN w h o' = true ∧ Ev (fun k => spec_l03Tree.l0 k (gapsN w h : Nat) (tabL (fun x => if x < i then (x : Int) else 0) (cellsN w h)) i xs i1 h1 w h w h (0 : Nat)) (w, h, (o' : Int), i2, h2)
  | 0, i, he => by
    have hgl := gapsN_le w h
    have hgc := gapsN_cast w h
    have hK : KInv (ends w h) (cellsN w h) (gapsN w h) (fun _ => False) (fun x => (x : Int)) 0 := KInv.start (fun x => rfl)
    have ht : tabL (fun x => if x < i then (x : Int) else 0) (cellsN w h) = tabL (fun x => (x : Int)) (cellsN w h) := tabL_congr (fun x hx => if_pos (by omega))
    rw [ht]
    by_cases h0 : gapsN w h = 0
    · refine ⟨0, i1, h1, hi, Nat.two_pow_pos _, ?_, Ev.step (fun _ => spec_l03Tree.l0.eq_2 ..) (Ev.ff (by rw [tabL_length]; omega) (Ev.tt (by omega) (Ev.ret rfl)))⟩
      exact hK.perfect (cells_pos hg) (fun g hgg => absurd hgg (by omega)) (full := 0) (Nat.two_pow_pos _) (full_conn hg (fun g hgg => absurd hgg (by omega)))
    · obtain ⟨b, i2, h2, e1, b0, b1, hi2⟩ := spec_Below_eq hl hi h1 (n := (gapsN w h : Nat)) (by omega) (by omega)
      obtain ⟨c, i3, h3, e2, c0, c1, hi3⟩ := spec_Below_eq hl hi2 h2 (n := (gapsN w h : Nat)) (by omega) (by omega)
      obtain ⟨b', rfl⟩ := Int.eq_ofNat_of_zero_le b0
      obtain ⟨c', rfl⟩ := Int.eq_ofNat_of_zero_le c0
      obtain ⟨o', ho, hp, hEv⟩ := tree_l1 (xs := xs) (i1 := i3) (h1 := h3) hg (by omega) (first := b') (by omega) hK (2 * gapsN w h - c') (1 + c') (by omega)
      refine ⟨o', i3, h3, hi3, ho, hp, Ev.step (fun _ => spec_l03Tree.l0.eq_2 ..) (Ev.ff (by rw [tabL_length]; omega) (Ev.ff (by omega) (Ev.bnd0 e1 (Ev.bnd0 e2 ?_))))⟩
      rw [show wrap64 (1 + (c' : Int)) = ((1 + c' : Nat) : Int) by rw [wrap64_id (by omega) (by omega)]; omega]
      exact hEv
  | e + 1, i, he => by
    have hcl := cellsN_le w h
    obtain ⟨o', i2, h2, hq, ho, hp, ih⟩ := tree_l0 hg hl hi e (i + 1) (by omega)
    refine ⟨o', i2, h2, hq, ho, hp, Ev.step (fun _ => spec_l03Tree.l0.eq_2 ..) (Ev.tt (by rw [tabL_length]; omega) (Ev.tt (by omega) ?_))⟩
    rw [wsucc (show i < 4611686018427387904 by omega), Int.toNat_natCast, tabL_set]
    rw [tabL_congr (Q := fun x => if x < i + 1 then (x : Int) else 0) (fun x hx => by
      by_cases e2 : x = i
      · subst e2; rw [if_pos rfl, if_pos (by omega)]
      · rw [if_neg e2]
        by_cases e3 : x < i
        · rw [if_pos e3, if_pos (by omega)]
        · rw [if_neg e3, if_neg (by omega)])]
    exact ih
theorem spec_Tree_ev2 (hg : gridOk w h = true) (hl : xs.length ≤ 1048576) (hi : 0 ≤ i1) : ∃ (o' : Nat) (i2 h2 : Int), 0 ≤ i2 ∧ o' < 2 ^ gapsN w h ∧ perfN w h o' = true ∧ Ev (fun k => spec_l03Tree.f k xs i1 h1 w h) (w, h, (o' : Int), i2, h2) := by
  have hgc := gapsN_cast w h
  have hcc := cellsN_cast w h
  have hcl := cellsN_le w h
  obtain ⟨o', i2, h2, hq, ho, hp, hEv⟩ := tree_l0 (h1 := h1) hg hl hi (cellsN w h) 0 (by omega)
  refine ⟨o', i2, h2, hq, ho, hp, ?_⟩
  unfold spec_l03Tree.f
  refine Ev.bnd0 (spec_CountGaps_eq ..) (Ev.bnd0 (spec_CountCells_eq ..) (Ev.tt (by omega) (Ev.tt (by omega) ?_)))
  rw [← hgc, show (cellsOf w h).toNat = cellsN w h from rfl]
  rw [show List.replicate (cellsN w h) (0 : Int) = tabL (fun x => if x < 0 then (x : Int) else 0) (cellsN w h) by
    refine List.ext_getElem (by simp [tabL]) fun j hj1 hj2 => ?_
    simp [tabL]]
  exact hEv
end
end Go.Proofs.Ytbeajmcjfhbcjaa.P
namespace Go.Proofs.Ytbeajmcjfhbcjaa.P
open Go Go.RowKit Go.Proofs.YtbeajmcjfhbcjaaW.PrintWords
set_option linter.unusedVariables false
set_option linter.unusedSimpArgs false

theorem shl_pow' {n : Nat} (h : n < 25) : shl .i64 1 (n : Int) = ((2 ^ n : Nat) : Int) := by
  have : ∀ m : Nat, m < 25 → shl .i64 1 (m : Int) = ((2 ^ m : Nat) : Int) := by decide +kernel
  exact this n h
theorem drawz_l0 {w h : Int} {xs : List Int} (hg : gridOk w h = true) (hl : xs.length ≤ 1048576) (h0 : 0 < gapsOf w h) : ∀ (d : Nat) (n : Nat) (i1 h1 : Int), d ≤ 1000 → n < 2 ^ gapsN w h → 0 ≤ i1 →
    ∃ (m : Nat) (i2 h2 : Int), m < 2 ^ gapsN w h ∧ Ev (fun k => spec_l03Maze.l0 k (gapsOf w h) ((d : Int) - 1) xs i1 h1 w h n) (w, h, (m : Int), i2, h2)
  | 0, n, i1, h1, hd, hn, hi => ⟨n, i1, h1, hn, Ev.step (fun _ => spec_l03Maze.l0.eq_2 ..) (Ev.ff (by omega) (Ev.ret rfl))⟩
  | d + 1, n, i1, h1, hd, hn, hi => by
    have hgc := gapsN_cast w h
    have h24 := gapsN_le w h
    obtain ⟨b, i2, h2, e1, b0, b1, hi2⟩ := spec_Below_eq hl hi h1 (n := gapsOf w h) (by omega) (by omega)
    obtain ⟨x, rfl⟩ := Int.eq_ofNat_of_zero_le b0
    have hx : x < gapsN w h := by omega
    have hs := open_small hn
    have h2x : 2 ^ x < 2 ^ gapsN w h := Nat.pow_lt_pow_right (by decide) hx
    have hx24 : 2 ^ x ≤ 2 ^ 24 := Nat.pow_le_pow_right (by decide) (by omega)
    have hxor : n ^^^ 2 ^ x < 2 ^ gapsN w h := Nat.xor_lt_two_pow hn h2x
    obtain ⟨m, i3, h3, hm, ev⟩ := drawz_l0 hg hl h0 d (n ^^^ 2 ^ x) i2 h2 (by omega) hxor hi2
    refine ⟨m, i3, h3, hm, Ev.step (fun _ => spec_l03Maze.l0.eq_2 ..) (Ev.tt (by omega) (Ev.bnd0 e1 (Ev.tt (by omega) ?_)))⟩
    rw [shl_pow' (by omega), bits_xor (by omega) (by omega), wrap64_id (by omega) (by omega), show ((d + 1 : Nat) : Int) - 1 - 1 = (d : Int) - 1 by omega]
    exact ev
theorem spec_DrawMaze_ev {l : List Int} (hl : l.length ≤ 1048576) : ∃ (w h : Int) (n : Nat), gridOk w h = true ∧ n < 2 ^ gapsN w h ∧ Ev (fun k => spec_DrawMaze.f k l) (w, h, (n : Int)) := by
  obtain ⟨h', e1⟩ := spec_New_ev hl
  obtain ⟨w, h, i2, h2, e2, hg, hi2⟩ := spec_Grid_eq hl (i := 0) (by omega) h'
  obtain ⟨o', i3, h3, hi3, ho, hp, e3⟩ := spec_Tree_ev2 (xs := l) (i1 := i2) (h1 := h2) hg hl hi2
  have hj : ∀ (i4 h4 : Int), Ev (fun k => spec_l03Maze.j0 k (gapsOf w h) false l i4 h4 w h o') (w, h, (o' : Int), i4, h4) := fun i4 h4 => Ev.step (fun _ => spec_l03Maze.j0.eq_2 ..) (Ev.ff (by decide) (Ev.ret rfl))
  have key : ∃ (m : Nat) (i4 h4 : Int), m < 2 ^ gapsN w h ∧ Ev (fun k => spec_l03Maze.f k l 0 h') (w, h, (m : Int), i4, h4) := by
    unfold spec_l03Maze.f
    by_cases h0 : gapsOf w h > 0
    · obtain ⟨b, i4, h4, f1, b0, b1, hi4⟩ := spec_Below_eq hl hi3 h3 (n := 2) (by omega) (by omega)
      have hon : spec_l01Once.f l i3 h3 2 = some (b == 0, i4, h4) := by
        unfold spec_l01Once.f
        rw [f1]; rfl
      cases hb : (b == 0)
      · refine ⟨o', i4, h4, ho, Ev.bnd0 e2 (Ev.bind e3 (Ev.bnd0 (spec_CountGaps_eq w h) (Ev.tt h0 (Ev.bnd0 hon ?_))))⟩
        rw [hb]
        exact hj i4 h4
      · obtain ⟨c, i5, h5, f2, c0, c1, hi5⟩ := spec_Below_eq hl hi4 h4 (n := 4) (by omega) (by omega)
        obtain ⟨c', rfl⟩ := Int.eq_ofNat_of_zero_le c0
        obtain ⟨m, i6, h6, hm, ev⟩ := drawz_l0 (xs := l) hg hl h0 (c' + 1) o' i5 h5 (by omega) ho hi5
        refine ⟨m, i6, h6, hm, Ev.bnd0 e2 (Ev.bind e3 (Ev.bnd0 (spec_CountGaps_eq w h) (Ev.tt h0 (Ev.bnd0 hon ?_))))⟩
        rw [hb]
        refine Ev.step (fun _ => spec_l03Maze.j0.eq_2 ..) (Ev.tt rfl (Ev.bnd0 f2 ?_))
        rw [show ((c' + 1 : Nat) : Int) - 1 = (c' : Int) by omega] at ev
        exact ev
    · exact ⟨o', i3, h3, ho, Ev.bnd0 e2 (Ev.bind e3 (Ev.bnd0 (spec_CountGaps_eq w h) (Ev.ff h0 (hj i3 h3))))⟩
  obtain ⟨m, i4, h4, hm, ev⟩ := key
  refine ⟨w, h, m, hg, hm, ?_⟩
  unfold spec_DrawMaze.f
  exact Ev.bind e1 (Ev.bind ev (Ev.ret rfl))
end Go.Proofs.Ytbeajmcjfhbcjaa.P
namespace Go.Proofs.Ytbeajmcjfhbcjaa.P
open Go.RowKit Go.Proofs.YtbeajmcjfhbcjaaW.PrintWords Go.Proofs.Ytbeajmcjfhbcjaa.Sup
set_option linter.unusedVariables false
set_option linter.unusedSimpArgs false

def leastN (w h : Int) (n : Nat) : Nat := min (min (min n (turnN w h n)) (mirN w h n)) (mirN w h (turnN w h n))
theorem pick_least (w h : Int) (n a b c : Nat) : pickFrom [⟨⟨w, h⟩, (a : Int)⟩, ⟨⟨w, h⟩, (b : Int)⟩, ⟨⟨w, h⟩, (c : Int)⟩] 3 0 (w, h, (n : Int)) = (w, h, ((min (min (min n a) b) c : Nat) : Int)) := by
  have s : ∀ x y : Nat, pickS ⟨⟨w, h⟩, (x : Int)⟩ (w, h, (y : Int)) = (w, h, ((min y x : Nat) : Int)) := fun x y => by
    unfold pickS
    simp only
    split
    · congr 2; omega
    · congr 2; omega
  show pickS ⟨⟨w, h⟩, (c : Int)⟩ (pickS ⟨⟨w, h⟩, (b : Int)⟩ (pickS ⟨⟨w, h⟩, (a : Int)⟩ (w, h, (n : Int)))) = _
  rw [s, s, s]
theorem impl_LeastForm_ev {w h : Int} {n : Nat} (hg : gridOk w h = true) (hn : n < 2 ^ gapsN w h) : Ev (fun k => impl_LeastForm.f k w h n) (w, h, ((leastN w h n : Nat) : Int)) := by
  have hm := mazeOk_iff.2 ⟨hg, n, rfl, hn⟩
  have ht := moved_lt (turn_moves hg) n
  unfold leastN turnN mirN
  rw [← pick_least]
  unfold impl_LeastForm.f
  refine Ev.bnd0 (impl_MazeOk_eq ..) (Ev.tt hm (Ev.bind (impl_TurnMaze_ev hg hn) (Ev.bind (impl_MirrorMaze_ev hg hn) (Ev.bind (impl_TurnMaze_ev hg hn) (Ev.bind (impl_MirrorMaze_ev hg ht) (Ev.bnd0 rfl ?_))))))
  exact impl_Least_l0 _ rfl 3 0 (w, h, (n : Int)) rfl
theorem least_turn {w h : Int} {n : Nat} (hg : gridOk w h = true) (hn : n < 2 ^ gapsN w h) : leastN w h (turnN w h n) = leastN w h n := by
  unfold leastN
  rw [turn_turn hg hn]
  omega
theorem least_mir {w h : Int} {n : Nat} (hg : gridOk w h = true) (hn : n < 2 ^ gapsN w h) : leastN w h (mirN w h n) = leastN w h n := by
  unfold leastN
  rw [turn_mir hg hn, mir_mir hg hn, mir_mir hg (turn_lt hg n)]
  omega
theorem FnTurned_pure (l : List Int) (hy : l.length ≤ 140737488351232) (hz : ∀ x ∈ l, 0 ≤ x ∧ x ≤ 255) : ∃ k, laws_FnTurned.f k l = some true := by
  refine Ev.rounds ?_
  unfold laws_FnTurned.f
  refine Ev.bnd0 rfl (Ev.ite (fun _ => Ev.ret rfl) (fun hb => ?_))
  have hl : l.length ≤ 1048576 := by simp only [decide_eq_true_eq] at hb; omega
  obtain ⟨w, h, n, hg, hn, ed⟩ := spec_DrawMaze_ev hl
  have hT : ∀ {m : Nat}, m < 2 ^ gapsN w h → Ev (fun k => impl_TurnMaze.f k w h m) (w, h, ((turnN w h m : Nat) : Int)) := fun hm => impl_TurnMaze_ev hg hm
  have hM : ∀ {m : Nat}, m < 2 ^ gapsN w h → Ev (fun k => impl_MirrorMaze.f k w h m) (w, h, ((mirN w h m : Nat) : Int)) := fun hm => impl_MirrorMaze_ev hg hm
  have hF : Ev (fun k => impl_FlipMaze.f k w h n) (h, w, ((flipN w h n : Nat) : Int)) := impl_FlipMaze_ev hg hn
  have hF2 : Ev (fun k => impl_FlipMaze.f k h w (flipN w h n : Nat)) (w, h, ((flipN h w (flipN w h n) : Nat) : Int)) := impl_FlipMaze_ev (gridOk_flip hg) (flip_lt hg n)
  have ht := turn_lt hg n
  have hm := mir_lt hg n
  have hf := flip_lt hg n
  have e1 := turn_turn hg hn
  have e2 := mir_mir hg hn
  have e3 := flip_flip hg hn
  have e4 := turn_mir hg hn
  have hI : Ev (fun k => impl_IsTurned.f k w h n) ((w == w && (h == h)) && (((turnN w h n : Nat) : Int) == (n : Int))) := by
    unfold impl_IsTurned.f
    exact Ev.bnd0 (impl_MazeOk_eq ..) (Ev.tt (mazeOk_iff.2 ⟨hg, n, rfl, hn⟩) (Ev.bind (hT hn) (Ev.ret rfl)))
  have hle : ((leastN w h n : Nat) : Int) ≤ (n : Int) := by unfold leastN; omega
  refine Ev.bind ed (Ev.bind (hT hn) (Ev.bind (hM hn) (Ev.bind hF (Ev.bind (impl_IsPerfect_ev hg hn) (Ev.bind (impl_LeastForm_ev hg hn) (Ev.bind (hT ht) ?_))))))
  refine Ev.tt (by rw [e1]; simp) (Ev.bind (hM hm) (Ev.tt (by rw [e2]; simp) (Ev.bind hF2 (Ev.tt (by rw [e3]; simp) (Ev.bind (hT hm) (Ev.bind (hM ht) (Ev.tt (by rw [e4]; simp) ?_)))))))
  refine Ev.bind (impl_IsPerfect_ev hg ht) (Ev.tt (by rw [perf_turn hg hn]; simp) (Ev.bind (impl_IsPerfect_ev hg hm) (Ev.tt (by rw [perf_mir hg hn]; simp) (Ev.bind (impl_IsPerfect_ev (gridOk_flip hg) hf) (Ev.tt (by rw [perf_flip hg hn]; simp) ?_)))))
  refine Ev.bind (impl_LeastForm_ev hg ht) (Ev.tt (by rw [least_turn hg hn]; simp) (Ev.bind (impl_LeastForm_ev hg hm) (Ev.tt (by rw [least_mir hg hn]; simp) (Ev.tt hle ?_))))
  refine Ev.bnd0 (impl_CountPassages_eq (gridOk_flip hg) hf) (Ev.bnd0 (impl_CountPassages_eq hg hn) (Ev.tt (by rw [flip_pop hg hn]) (Ev.bind hI (Ev.ret ?_))))
  simp
end Go.Proofs.Ytbeajmcjfhbcjaa.P
namespace Go.Proofs.Ytbeajmcjfhbcjaa.fnTurned
open Go.ChangeShapes Go.WideShapes Go.ChangeAt Go.RowKit Go.Proofs.YtbeajmcjfhbcjaaW.PrintWords Go.Proofs.Ytbeajmcjfhbcjaa.Sup
open Go.ChangeMaps (open_string shut_string)
set_option linter.unusedVariables false
theorem own : ownKnob Try.prog.godebug = none := by kernel_rfl
theorem laidOut : laidOutB Try.prog = true := by kernel_rfl
set_option maxRecDepth 100000 in
theorem lifted (os : Os) (started : os.Started) (H : Type) (enc : TypeId × Value → H) :
    ReturnsInHanded {} Try.checked os 13 .any (Rows.fnTurnedSpec.pre6 enc Try.prog Try.f13 Rows.fnTurnedRow.domain false) (Rows.fnTurnedSpec.post enc Try.prog Try.f13 false true false false) := by
  refine returnsInHanded_of_change_sized (C := Try.checked) own started (by kernel_rfl) Try.func13
    (ChangeSpec.witness6 (enc := enc) (C := Try.checked) false ⟨#[], #[.slice none 0 0], []⟩ 8 (by kernel_rfl) (by kernel_rfl) (by kernel_rfl) (by kernel_rfl)) ?_
  intro W base args ds gs before hval0 hW hcnd hsz0 _
  have hsz : (DataW.weightsEach Try.prog (Try.f13.params.toList ++ Rows.fnTurnedSpec.plain.varTypes Try.prog) (ds ++ gs)).all (· ≤ reachBytes) = true := hsz0
  have hval : ∀ (j : Nat) t v, Try.f13.params[j]? = some t → args[j]? = some v → Value.okWide Try.prog W .any base t v := hval0
  have hW' := hW
  obtain ⟨p, q, hA0, hV, rfl, hfz, hnd⟩ := hW
  have hA : DataW.TrodAll enc Try.prog W 0 (fun _ => true) true Try.f13.params.toList args.toList ds p := hA0
  rw [Try.params13] at hA hval hsz
  obtain ⟨v0, vs0, d0, ds0, p0, q0, hargs, rfl, rfl, h0, r0⟩ := trodAll_cons hA
  obtain ⟨rfl, rfl, rfl⟩ := trodAll_nil r0
  obtain rfl : args = #[v0] := by cases args; simp_all
  obtain ⟨rfl, rfl⟩ := trodVars_none hV
  obtain ⟨a0, len0, cap0, rfl⟩ := okWide_slice Try.underlying22 (hval 0 22 v0 rfl rfl)
  have k0 := h0
  have lt0 : ∀ x ∈ p0, x.block < W.heap.size := by obtain ⟨m, hm⟩ := k0; exact DataW.trod_lt m _ _ _ hm
  obtain ⟨z0, w0⟩ : ∃ zs, IsRow .u8 W a0 len0 cap0 zs := by
    obtain ⟨fuel, hf⟩ := h0
    rcases open_ints Try.underlying22 Try.underlying5 (by kernel_rfl) hf with ⟨hcs, _⟩ | ⟨x, l, c, zs, hcs, _, hl, hm, hz, _, hcell, hwz⟩
    · simp [Value.cells] at hcs
      obtain ⟨rfl, rfl, rfl⟩ := hcs
      exact ⟨[], .inl ⟨rfl, rfl, rfl, rfl⟩⟩
    · simp [Value.cells] at hcs
      obtain ⟨rfl, rfl, rfl⟩ := hcs
      exact ⟨zs, .inr ⟨_, rfl, hl, hm, by simpa using hz, hcell, hwz⟩⟩
  have y0 : len0 * 1 ≤ 140737488351232 := sized_ints hsz (j := 0) (t := 22) rfl rfl Try.underlying22 Try.underlying5 (by kernel_rfl) (by kernel_rfl) h0
  obtain ⟨l0, rfl, hr0, hm0, hw0, hc0⟩ := ReadsInt.ofRowC w0
  clear hA0 hval0 hsz0 hsz
  obtain ⟨k, hf⟩ := P.FnTurned_pure l0 (by omega) (fun x hx => u8_of_wf (hw0 x hx))
  refine (P.laws_FnTurned.calls k _ _ l0 true W (Kd.C_of_reads (d := (0 : Int)) (h1 := fun _ => rfl) hr0) hc0 hf).mono fun e W' ⟨he, bel0⟩ => ?_
  have bel : Below W.heap.size W W' := bel0
  subst he
  exact ⟨_, rfl, _, _, _, [], _, [], hW', trodAll_mk1 (shut_bool Try.underlying4 _), (trodAll_cons_mk (Below.trod laidOut (by kernel_rfl) (of_decide_eq_true (by kernel_rfl)) k0 bel lt0) trodAll_mk0), rfl, bel.frame _, fun h => by cases h⟩
theorem over : Rows.fnTurnedRow.holds Try.pinned (OpenSpec.ofChange Rows.fnTurnedSpec) :=
  OpenClaim.holds_of_wide 13 Try.f13 rfl rfl rfl rfl rfl rfl rfl ⟨rfl, rfl, rfl, rfl, rfl⟩ rfl rfl rfl rfl rfl (by kernel_rfl) Try.func13 (by kernel_rfl)
    (of_decide_eq_true (by kernel_rfl)) (by unfold Func.isWrapper; first | (rw [if_pos (by decide +kernel)]; kernel_rfl) | (rw [if_neg (by decide +kernel)]; exact ⟨rfl, rfl⟩))
    (fun os started H enc _ => lifted os started H enc)
theorem proved : Rows.FnTurnedSaid := over
end Go.Proofs.Ytbeajmcjfhbcjaa.fnTurned
namespace Go.Proofs.Ytbeajmcjfhbcjaa
/-- The row, under a short name, for the claim. -/
theorem fnTurned_holds : Rows.FnTurnedSaid := fnTurned.proved
#print axioms fnTurned_holds
end Go.Proofs.Ytbeajmcjfhbcjaa
