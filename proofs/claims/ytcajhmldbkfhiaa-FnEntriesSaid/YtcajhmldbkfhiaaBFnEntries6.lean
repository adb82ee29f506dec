/- The statement FnEntries of the seat, out of its plain form (FnEntries_pure) and the walk of its Go function. Part 6 of 6: each Go function's walk, then the plain lemmas, then the row. No condition: it holds for every input. -/
import Derived.Test.YtcajhmldbkfhiaaBFnEntries5
import Derived.Test.YtcajhmldbkfhiaaRows
import Derived.Below
import Derived.ChangeOld
import Derived.Deep.Matrix
import Derived.Lib.SmallJoins
import Derived.OpenShut
import Derived.ProofKit
import Derived.ShutString
import Derived.SizedLaws
import Derived.WalkKit
namespace Go.Proofs.Ytcajhmldbkfhiaa.Sup
open Go.ChangeShapes Go.WideShapes Go.ChangeAt Go.RowKit Go.Joins Go.Proofs.YtcajhmldbkfhiaaW.PrintWords
set_option linter.unusedVariables false
set_option linter.unusedSimpArgs false

theorem u8_of_wf {a : Int} (h : (Lit.int .u8 a).wf = true) : 0 ≤ a ∧ a ≤ 255 := by
  simp only [Lit.wf, IntKind.min, IntKind.max, IntKind.signed, IntKind.bits, Bool.and_eq_true, decide_eq_true_eq] at h
  simp at h
  omega

section
variable {H : Type} {enc : TypeId × Value → H} {P : Program} {w : World} {base : Nat} {spare : Nat → Bool} {held : Bool}

end

def IsRow (k : IntKind) (w : World) (a : Option Addr) (len cap : Nat) (zs : List Int) : Prop :=
  (a = none ∧ len = 0 ∧ cap = 0 ∧ zs = []) ∨
  ∃ x, a = some x ∧ len ≤ cap ∧ cap ≤ maxLen ∧ zs.length = cap ∧ (∀ i, i < zs.length → w.cell? (x.add i) = some (.int k (zs.getD i 0))) ∧ ∀ n ∈ zs, (Lit.int k n).wf = true

end Go.Proofs.Ytcajhmldbkfhiaa.Sup
namespace Go.Proofs.Ytcajhmldbkfhiaa.P
open Go.RowKit Go.Proofs.YtcajhmldbkfhiaaW.PrintWords
set_option linter.unusedVariables false
set_option linter.unusedSimpArgs false

theorem l01In_eq (a b c : Int) : spec_l01In.f a b c = some (decide (b ≤ a ∧ a ≤ c)) := by
  unfold spec_l01In.f
  by_cases h : a ≥ b
  · rw [if_pos h]; congr 1; simp; omega
  · rw [if_neg h]; congr 1; simp; omega

end Go.Proofs.Ytcajhmldbkfhiaa.P
namespace Go.Proofs.Ytcajhmldbkfhiaa.P
open Go.RowKit Go.Proofs.YtcajhmldbkfhiaaW.PrintWords Go.Proofs.Ytcajhmldbkfhiaa.Sup
set_option linter.unusedVariables false
set_option linter.unusedSimpArgs false

theorem spec_GridOk_eq (w h : Int) : spec_GridOk.f w h = some (gridOk w h) := by
  unfold spec_GridOk.f
  simp only [l01In_eq, Option.bind_some]
  unfold gridOk
  by_cases h1 : 1 ≤ w ∧ w ≤ 4
  · simp only [h1, and_self, decide_true, if_true, true_and]
  · have : ¬ (1 ≤ w ∧ w ≤ 4 ∧ 1 ≤ h ∧ h ≤ 4) := by omega
    rw [decide_eq_false h1, decide_eq_false this]; simp
theorem impl_GridOk_eq (w h : Int) : impl_GridOk.f w h = some (gridOk w h) := by
  unfold impl_GridOk.f gridOk
  repeat' split
  all_goals congr 1
  all_goals first | (rw [decide_eq_decide]; omega) | (symm; rw [decide_eq_false_iff_not]; omega)

theorem impl_CountCells_eq (w h : Int) : impl_CountCells.f w h = some (cellsOf w h) := by
  unfold impl_CountCells.f
  rw [impl_GridOk_eq, Option.bind_some]
  have := cellsOf_range w h
  unfold cellsOf at *
  by_cases hg : gridOk w h = true
  · rw [if_pos hg] at *
    rw [if_pos hg, wrap64_id (by omega) (by omega)]
  · rw [if_neg hg, if_neg hg]
theorem spec_CountCells_eq (w h : Int) : spec_CountCells.f w h = some (cellsOf w h) := by
  unfold spec_CountCells.f
  rw [spec_GridOk_eq, Option.bind_some]
  have := cellsOf_range w h
  unfold cellsOf at *
  by_cases hg : gridOk w h = true
  · rw [if_pos hg] at *
    rw [if_pos hg, wrap64_id (by omega) (by omega)]
  · rw [if_neg hg, if_neg hg]
theorem impl_CountGaps_eq (w h : Int) : impl_CountGaps.f w h = some (gapsOf w h) := by
  unfold impl_CountGaps.f
  rw [impl_GridOk_eq, Option.bind_some]
  unfold gapsOf
  by_cases hg : gridOk w h = true
  · rw [if_pos hg, if_pos hg]
    obtain ⟨h1 | h1 | h1 | h1, h2 | h2 | h2 | h2⟩ := grid_cases hg <;> subst h1 <;> subst h2 <;> simp [wrap64, eastOf]
  · rw [if_neg hg, if_neg hg]
theorem spec_l02East_eq {w h : Int} (hg : gridOk w h = true) : spec_l02East.f w h = some (eastOf w h) := by
  unfold spec_l02East.f eastOf
  obtain ⟨h1 | h1 | h1 | h1, h2 | h2 | h2 | h2⟩ := grid_cases hg <;> subst h1 <;> subst h2 <;> simp [wrap64, eastOf]
theorem spec_CountGaps_eq (w h : Int) : spec_CountGaps.f w h = some (gapsOf w h) := by
  unfold spec_CountGaps.f
  rw [spec_GridOk_eq, Option.bind_some]
  unfold gapsOf
  by_cases hg : gridOk w h = true
  · rw [if_pos hg, if_pos hg, spec_l02East_eq hg, Option.bind_some]
    obtain ⟨h1 | h1 | h1 | h1, h2 | h2 | h2 | h2⟩ := grid_cases hg <;> subst h1 <;> subst h2 <;> simp [wrap64, eastOf]
  · rw [if_neg hg, if_neg hg]

/-- 2 to the power of a small number. -/
theorem shl_one {n : Int} (h0 : 0 ≤ n) (h1 : n ≤ 24) : shl .i64 1 n = 2 ^ n.toNat := by
  obtain ⟨m, rfl⟩ := Int.eq_ofNat_of_zero_le h0
  have : m ≤ 24 := by omega
  clear h0 h1
  revert m
  decide +kernel
end Go.Proofs.Ytcajhmldbkfhiaa.P
namespace Go.Proofs.Ytcajhmldbkfhiaa.P
open Go.RowKit Go.Proofs.YtcajhmldbkfhiaaW.PrintWords
set_option linter.unusedVariables false
set_option linter.unusedSimpArgs false

theorem impl_isCell_eq (w h c : Int) : impl_isCell.f w h c = some (isCellI w h c) := by
  unfold impl_isCell.f isCellI
  rw [impl_CountCells_eq]
  by_cases hc : c ≥ 0
  · rw [if_pos hc, Option.bind_some]; congr 1; rw [decide_eq_decide]; omega
  · rw [if_neg hc]; congr 1; symm; rw [decide_eq_false_iff_not]; omega
theorem impl_Neighbor_ev (w h c d : Int) : Ev (fun k => impl_Neighbor.f k w h c d) (nbI w h c d) := by
  unfold impl_Neighbor.f nbI
  refine Ev.bnd0 (impl_isCell_eq w h c) ?_
  unfold isCellI
  by_cases hc : 0 ≤ c ∧ c < cellsOf w h
  · rw [if_pos hc]
    obtain ⟨hg, hcw⟩ := cellsOf_valid hc.1 hc.2
    have hcr := cellsOf_range w h
    have hgr := gridOk_iff.1 hg
    refine Ev.tt (by simpa using hc) (Ev.ff (by omega) ?_)
    have hx0 : 0 ≤ c % w := Int.emod_nonneg _ (by omega)
    have hx1 : c % w < w := Int.emod_lt_of_pos _ (by omega)
    have hy0 : 0 ≤ c / w := Int.ediv_nonneg hc.1 (by omega)
    have hy1 : c / w ≤ c := Int.ediv_le_self _ hc.1
    rw [Int.tmod_eq_emod_of_nonneg hc.1, Int.tdiv_eq_ediv_of_nonneg hc.1, wrap64_id (x := c / w) (by omega) (by omega)]
    generalize c % w = x at *
    generalize c / w = y at *
    have j2 : ∀ b : Bool, (d ≠ 0 ∨ ¬ 0 < y) → (d ≠ 1 ∨ ¬ x < w - 1) → (b = true ↔ d = 2 ∧ y < h - 1) → Ev (fun k => impl_Neighbor.j2 k c d x b w h) (if d = 2 ∧ y < h - 1 then c + w else if d = 3 ∧ 0 < x then c - 1 else -1) := by
      intro b _ _ hb
      refine Ev.step (fun _ => impl_Neighbor.j2.eq_2 ..) ?_
      refine Ev.ite (fun e => ?_) (fun e => ?_)
      · rw [if_pos (hb.1 e), wrap64_id (by omega) (by omega)]; exact Ev.ret rfl
      · rw [if_neg (fun h => e (hb.2 h))]
        refine Ev.ite (fun e3 => Ev.ite (fun e4 => ?_) (fun e4 => ?_)) (fun e3 => ?_)
        · rw [if_pos ⟨e3, e4⟩, wrap64_id (by omega) (by omega)]; exact Ev.ret rfl
        · rw [if_neg (fun h => e4 h.2)]; exact Ev.ret rfl
        · rw [if_neg (fun h => e3 h.1)]; exact Ev.ret rfl
    have j1 : ∀ b : Bool, (d ≠ 0 ∨ ¬ 0 < y) → (b = true ↔ d = 1 ∧ x < w - 1) → Ev (fun k => impl_Neighbor.j1 k c d x y b w h) (if d = 1 ∧ x < w - 1 then c + 1 else if d = 2 ∧ y < h - 1 then c + w else if d = 3 ∧ 0 < x then c - 1 else -1) := by
      intro b h0 hb
      refine Ev.step (fun _ => impl_Neighbor.j1.eq_2 ..) ?_
      refine Ev.ite (fun e => ?_) (fun e => ?_)
      · rw [if_pos (hb.1 e), wrap64_id (by omega) (by omega)]; exact Ev.ret rfl
      · have hn : ¬ (d = 1 ∧ x < w - 1) := fun h => e (hb.2 h)
        rw [if_neg hn]
        refine Ev.ite (fun e2 => ?_) (fun e2 => ?_)
        · refine j2 _ h0 (by omega) ?_
          rw [wrap64_id (by omega) (by omega)]
          simp [e2]
        · exact j2 _ h0 (by omega) (by simp [e2])
    have j0 : ∀ b : Bool, (b = true ↔ d = 0 ∧ 0 < y) → Ev (fun k => impl_Neighbor.j0 k c d x y b w h) (if d = 0 ∧ 0 < y then c - w else if d = 1 ∧ x < w - 1 then c + 1 else if d = 2 ∧ y < h - 1 then c + w else if d = 3 ∧ 0 < x then c - 1 else -1) := by
      intro b hb
      refine Ev.step (fun _ => impl_Neighbor.j0.eq_2 ..) ?_
      refine Ev.ite (fun e => ?_) (fun e => ?_)
      · rw [if_pos (hb.1 e), wrap64_id (by omega) (by omega)]; exact Ev.ret rfl
      · have hn : ¬ (d = 0 ∧ 0 < y) := fun h => e (hb.2 h)
        rw [if_neg hn]
        refine Ev.ite (fun e2 => ?_) (fun e2 => ?_)
        · refine j1 _ (by omega) ?_
          rw [wrap64_id (by omega) (by omega)]
          simp [e2]
        · exact j1 _ (by omega) (by simp [e2])
    refine Ev.ite (fun e => ?_) (fun e => ?_)
    · exact j0 _ (by simp [e])
    · exact j0 _ (by simp [e])
  · rw [if_neg hc]
    exact Ev.ff (by simpa using hc) (Ev.ret rfl)
theorem spec_Neighbor_ev (w h c d : Int) : Ev (fun k => spec_Neighbor.f k w h c d) (nbI w h c d) := by
  unfold spec_Neighbor.f nbI
  refine Ev.bnd0 (spec_CountCells_eq w h) ?_
  have hcr := cellsOf_range w h
  rw [wrap64_id (by omega) (by omega)]
  refine Ev.bnd0 (l01In_eq ..) ?_
  by_cases hc : 0 ≤ c ∧ c < cellsOf w h
  · rw [if_pos hc]
    obtain ⟨hg, hcw⟩ := cellsOf_valid hc.1 hc.2
    have hgr := gridOk_iff.1 hg
    refine Ev.tt (by simp; omega) (Ev.ff (by omega) ?_)
    have hx0 : 0 ≤ c % w := Int.emod_nonneg _ (by omega)
    have hx1 : c % w < w := Int.emod_lt_of_pos _ (by omega)
    have hy0 : 0 ≤ c / w := Int.ediv_nonneg hc.1 (by omega)
    have hy1 : c / w ≤ c := Int.ediv_le_self _ hc.1
    have hxy : c / w * w + c % w = c := by rw [Int.mul_comm]; exact Int.mul_ediv_add_emod c w
    have hy2 : c / w < h := by
      rw [hcw] at hc
      exact Int.ediv_lt_of_lt_mul (by omega) (by rw [Int.mul_comm]; exact hc.2)
    rw [Int.tmod_eq_emod_of_nonneg hc.1, Int.tdiv_eq_ediv_of_nonneg hc.1, wrap64_id (x := c / w) (by omega) (by omega)]
    generalize c % w = x at *
    generalize c / w = y at *
    have j0 : ∀ (a b r : Int), (r = if 0 ≤ a ∧ a ≤ w - 1 ∧ 0 ≤ b ∧ b ≤ h - 1 then b * w + a else -1) → Ev (fun k => spec_Neighbor.j0 k a b w h) r := by
      intro a b r hr
      subst hr
      refine Ev.step (fun _ => spec_Neighbor.j0.eq_2 ..) ?_
      refine Ev.bnd0 (l01In_eq ..) ?_
      rw [wrap64_id (x := w - 1) (by omega) (by omega), wrap64_id (x := h - 1) (by omega) (by omega)]
      by_cases h1 : 0 ≤ a ∧ a ≤ w - 1
      · refine Ev.tt (by simpa using h1) (Ev.bnd0 (l01In_eq ..) ?_)
        by_cases h2 : 0 ≤ b ∧ b ≤ h - 1
        · refine Ev.tt (by simpa using h2) (Ev.ret ?_)
          rw [if_pos (by omega)]
          have hb4 : b * w ≤ 3 * 4 := Int.mul_le_mul (by omega) (by omega) (by omega) (by omega)
          have hb0 : 0 ≤ b * w := Int.mul_nonneg (by omega) (by omega)
          rw [wrap64_id (x := b * w) (by omega) (by omega), wrap64_id (by omega) (by omega)]
        · refine Ev.ff (by simpa using h2) (Ev.ret ?_)
          rw [if_neg (by omega)]
      · refine Ev.ff (by simpa using h1) (Ev.ret ?_)
        rw [if_neg (by omega)]
    have hm1 : (y - 1) * w + x = c - w := by rw [Int.sub_mul]; omega
    have hp1 : (y + 1) * w + x = c + w := by rw [Int.add_mul]; omega
    refine Ev.ite (fun e => ?_) (fun e => Ev.ite (fun e => ?_) (fun e => Ev.ite (fun e => ?_) (fun e => Ev.ite (fun e => ?_) (fun e => Ev.ret ?_))))
    · rw [wrap64_id (by omega) (by omega)]
      refine j0 _ _ _ ?_
      subst e
      by_cases h0 : 0 < y
      · rw [if_pos ⟨rfl, h0⟩, if_pos (by omega), hm1]
      · rw [if_neg (by omega), if_neg (by omega), if_neg (by omega), if_neg (by omega), if_neg (by omega)]
    · rw [wrap64_id (by omega) (by omega)]
      refine j0 _ _ _ ?_
      subst e
      rw [if_neg (by omega)]
      by_cases h0 : x < w - 1
      · rw [if_pos ⟨rfl, h0⟩, if_pos (by omega)]; omega
      · rw [if_neg (by omega), if_neg (by omega), if_neg (by omega), if_neg (by omega)]
    · rw [wrap64_id (by omega) (by omega)]
      refine j0 _ _ _ ?_
      subst e
      rw [if_neg (by omega), if_neg (by omega)]
      by_cases h0 : y < h - 1
      · rw [if_pos ⟨rfl, h0⟩, if_pos (by omega), hp1]
      · rw [if_neg (by omega), if_neg (by omega), if_neg (by omega)]
    · rw [wrap64_id (by omega) (by omega)]
      refine j0 _ _ _ ?_
      subst e
      rw [if_neg (by omega), if_neg (by omega), if_neg (by omega)]
      by_cases h0 : 0 < x
      · rw [if_pos ⟨rfl, h0⟩, if_pos (by omega)]; omega
      · rw [if_neg (by omega), if_neg (by omega)]
    · rw [if_neg (by omega), if_neg (by omega), if_neg (by omega), if_neg (by omega)]
  · rw [if_neg hc]
    exact Ev.ff (by simp; omega) (Ev.ret rfl)
end Go.Proofs.Ytcajhmldbkfhiaa.P
namespace Go.Proofs.Ytcajhmldbkfhiaa.P
open Go.RowKit Go.Proofs.YtcajhmldbkfhiaaW.PrintWords Go.Proofs.YtcajhmldbkfhiaaW.PrintLast Go.Proofs.YtcajhmldbkfhiaaW.PrintMore
attribute [local go_sem] max2_int min2_int max_two min_two max_three min_three max_four min_four   -- for this text's walks alone
set_option linter.unusedVariables false
set_option linter.unusedSimpArgs false

/-! ### impl_isGap: function 100 -/
end Go.Proofs.Ytcajhmldbkfhiaa.P
namespace Go.Proofs.Ytcajhmldbkfhiaa.P
open Go.RowKit Go.Proofs.YtcajhmldbkfhiaaW.PrintWords
set_option linter.unusedVariables false
set_option linter.unusedSimpArgs false

theorem spec_MazeOk_eq (w h o : Int) : spec_MazeOk.f w h o = some (mazeOk w h o) := by
  have hc := gapsOf_range w h
  have hp := pow_le hc.1 hc.2
  unfold spec_MazeOk.f mazeOk gapsN
  rw [spec_GridOk_eq, Option.bind_some]
  cases hg : gridOk w h
  · simp
  · rw [if_pos rfl, spec_CountGaps_eq, Option.bind_some, if_pos hc.1, shl_one hc.1 hc.2, l01In_eq, Option.bind_some, wrap64_id (by omega) (by omega)]
    simp only [Bool.true_and]
    congr 1
    rw [decide_eq_decide]
    omega
theorem impl_MazeOk_eq (w h o : Int) : impl_MazeOk.f w h o = some (mazeOk w h o) := by
  have hc := gapsOf_range w h
  unfold impl_MazeOk.f mazeOk gapsN
  rw [impl_GridOk_eq, Option.bind_some]
  cases hg : gridOk w h
  · simp
  · rw [if_pos rfl, impl_CountGaps_eq, Option.bind_some, if_pos hc.1, shl_one hc.1 hc.2]
    simp only [Bool.true_and]
    split
    · congr 1; rw [decide_eq_decide]; omega
    · congr 1; symm; rw [decide_eq_false_iff_not]; omega
theorem impl_isOpen_eq (w h : Int) {n : Nat} (hn : n < 16777216) (g : Int) : impl_isOpen.f w h n g = some (openI n g) := by
  unfold impl_isOpen.f openI
  by_cases hg : g ≥ 0
  · rw [if_pos hg, if_pos hg]
    obtain ⟨m, rfl⟩ := Int.eq_ofNat_of_zero_le hg
    rw [bit_one (by omega)]
    simp
  · rw [if_neg hg]
    simp; omega
theorem spec_l03Bit_eq {n : Nat} (hn : n < 16777216) {g : Int} (hg : 0 ≤ g) : spec_l03Bit.f n g = some (openI n g) := by
  unfold spec_l03Bit.f openI
  rw [if_pos hg]
  obtain ⟨m, rfl⟩ := Int.eq_ofNat_of_zero_le hg
  rw [bit_one (by omega)]
  simp
/-! Sixteen small graphs: facts that are looked through -/
end Go.Proofs.Ytcajhmldbkfhiaa.P
namespace Go.Proofs.Ytcajhmldbkfhiaa.P
open Go.RowKit Go.Proofs.YtcajhmldbkfhiaaW.PrintWords Go.Proofs.Ytcajhmldbkfhiaa.Sup
set_option linter.unusedVariables false
set_option linter.unusedSimpArgs false

theorem impl_isIn_one (w h o c : Int) : impl_isIn.f w h o [c] = some (mazeOk w h o && isCellI w h c) := by
  unfold impl_isIn.f
  rw [impl_MazeOk_eq, Option.bind_some]
  cases hm : mazeOk w h o
  · simp
  · rw [if_pos rfl]
    simp [impl_isCell_eq]
theorem spec_l04Has_eq (w h o c : Int) : spec_l04Has.f w h o c = some (mazeOk w h o && isCellI w h c) := by
  have hr := cellsOf_range w h
  unfold spec_l04Has.f isCellI
  rw [spec_MazeOk_eq, Option.bind_some]
  cases hm : mazeOk w h o
  · simp
  · rw [if_pos rfl, spec_CountCells_eq, Option.bind_some, wrap64_id (by omega) (by omega), l01In_eq, Option.bind_some]
    simp only [Bool.true_and]
    congr 1
    rw [decide_eq_decide]
    omega
end Go.Proofs.Ytcajhmldbkfhiaa.P
namespace Go.Proofs.Ytcajhmldbkfhiaa.P
open Go.RowKit Go.Proofs.YtcajhmldbkfhiaaW.PrintWords
set_option linter.unusedVariables false
set_option linter.unusedSimpArgs false

theorem impl_GapAt_ev (w h c d : Int) : Ev (fun k => impl_GapAt.f k w h c d) (gapI w h c d) := by
  unfold impl_GapAt.f gapI
  refine Ev.bind (impl_Neighbor_ev w h c d) ?_
  by_cases hn : nbI w h c d < 0
  · rw [if_pos hn, if_pos hn]
    exact Ev.ret rfl
  · rw [if_neg hn, if_neg hn]
    obtain ⟨hd, h0, h1⟩ := nb_dir (by omega : 0 ≤ nbI w h c d)
    obtain ⟨hg, hcw⟩ := cellsOf_valid h0 h1
    have hcr := cellsOf_range w h
    have hgr := gridOk_iff.1 hg
    have hlt := nb_lt (w := w) (h := h) (c := c) (d := d)
    have hmn : mn c (nbI w h c d) = min c (nbI w h c d) := by unfold mn; omega
    rw [hmn]
    have hm0 : 0 ≤ min c (nbI w h c d) := by omega
    have hm1 : min c (nbI w h c d) ≤ 15 := by omega
    generalize min c (nbI w h c d) = m at *
    have ha0 : 0 ≤ m / w := Int.ediv_nonneg hm0 (by omega)
    have ha1 : m / w ≤ m := Int.ediv_le_self _ hm0
    have hb0 : 0 ≤ m % w := Int.emod_nonneg _ (by omega)
    have hb1 : m % w < w := Int.emod_lt_of_pos _ (by omega)
    have hp0 : 0 ≤ m / w * (w - 1) := Int.mul_nonneg ha0 (by omega)
    have hp1 : m / w * (w - 1) ≤ 15 * 3 := Int.mul_le_mul (by omega) (by omega) (by omega) (by omega)
    have hq0 : 0 ≤ (w - 1) * h := Int.mul_nonneg (by omega) (by omega)
    have hq1 : (w - 1) * h ≤ 3 * 4 := Int.mul_le_mul (by omega) (by omega) (by omega) (by omega)
    rw [Int.tmod_eq_emod_of_nonneg hm0, Int.tdiv_eq_ediv_of_nonneg hm0, wrap64_id (x := m / w) (by omega) (by omega), wrap64_id (x := w - 1) (by omega) (by omega), wrap64_id (x := m / w * (w - 1)) (by omega) (by omega), wrap64_id (x := m / w * (w - 1) + m % w) (by omega) (by omega)]
    refine Ev.ite (fun e => Ev.ff (by omega) ?_) (fun e => Ev.ite (fun e3 => Ev.ff (by omega) ?_) (fun e3 => ?_))
    · rw [if_pos (.inl e)]; exact Ev.ret rfl
    · rw [if_pos (.inr e3)]; exact Ev.ret rfl
    · rw [if_neg (by omega)]
      rw [wrap64_id (x := (w - 1) * h) (by omega) (by omega), wrap64_id (by omega) (by omega)]
      exact Ev.ret rfl
/-- The directions from d on in which s leads somewhere. -/
def waysFrom (s : Int → Int) (d : Nat) : List Int := ([0, 1, 2, 3].drop d).filter fun x => decide (0 ≤ s x)
theorem waysFrom_succ (s : Int → Int) {d : Nat} (hd : d < 4) : waysFrom s d = if 0 ≤ s d then (d : Int) :: waysFrom s (d + 1) else waysFrom s (d + 1) := by
  have : d = 0 ∨ d = 1 ∨ d = 2 ∨ d = 3 := by omega
  rcases this with rfl | rfl | rfl | rfl <;> simp [waysFrom, List.filter_cons]
def waysI (w h : Int) (n : Nat) (c : Int) : List Int := waysFrom (stepI w h n c) 0
theorem impl_Step_ev {w h : Int} {n : Nat} (hg : gridOk w h = true) (hn : n < 2 ^ gapsN w h) (c d : Int) : Ev (fun k => impl_Step.f k w h n c d) (stepI w h n c d) := by
  unfold impl_Step.f stepI
  refine Ev.bnd0 (impl_MazeOk_eq w h n) (Ev.tt (mazeOk_iff.2 ⟨hg, n, rfl, hn⟩) ?_)
  refine Ev.bind (impl_GapAt_ev w h c d) (Ev.bnd0 (impl_isOpen_eq w h (open_small hn) _) ?_)
  by_cases ho : openI n (gapI w h c d) = true
  · rw [if_pos ho]
    exact Ev.tt ho (Ev.bind (impl_Neighbor_ev w h c d) (Ev.ret rfl))
  · rw [if_neg ho]
    exact Ev.ff ho (Ev.ret rfl)
theorem impl_Ways_l0 (w h : Int) (o c : Int) (s : Int → Int) (hs : ∀ d, Ev (fun k => impl_Step.f k w h o c d) (s d)) : ∀ (e d : Nat) (out : List Int), 4 - d = e → d ≤ 4 → out.length ≤ d →
    Ev (fun k => impl_WaysFrom.l0 k c out d w h o) (out ++ waysFrom s d)
  | 0, d, out, he, hd, hl => by
    refine Ev.step (fun _ => impl_WaysFrom.l0.eq_2 ..) ?_
    refine Ev.ff (by omega) (Ev.ret ?_)
    obtain rfl : d = 4 := by omega
    simp [waysFrom]
  | e + 1, d, out, he, hd, hl => by
    refine Ev.step (fun _ => impl_WaysFrom.l0.eq_2 ..) ?_
    refine Ev.tt (by omega) (Ev.bind (hs d) ?_)
    rw [wsucc (by omega), waysFrom_succ s (show d < 4 by omega)]
    refine Ev.ite (fun h1 => Ev.tt (by omega) ?_) (fun h1 => ?_)
    · rw [if_pos (by omega)]
      have := impl_Ways_l0 w h o c s hs e (d + 1) (out ++ [(d : Int)]) (by omega) (by omega) (by simp; omega)
      simpa using this
    · rw [if_neg (by omega)]
      exact impl_Ways_l0 w h o c s hs e (d + 1) out (by omega) (by omega) (by omega)
theorem impl_Ways_ev {w h : Int} {n : Nat} (hg : gridOk w h = true) (hn : n < 2 ^ gapsN w h) (c : Int) : Ev (fun k => impl_WaysFrom.f k w h n c) (waysI w h n c) := by
  unfold impl_WaysFrom.f waysI
  have := impl_Ways_l0 w h n c _ (fun d => impl_Step_ev hg hn c d) 4 0 [] (by omega) (by omega) (by simp)
  simpa using this
theorem spec_GapAt_ev (w h c d : Int) : Ev (fun k => spec_GapAt.f k w h c d) (gapI w h c d) := by
  unfold spec_GapAt.f gapI
  refine Ev.bind (spec_Neighbor_ev w h c d) ?_
  by_cases hn : nbI w h c d < 0
  · rw [if_pos hn, if_pos hn]
    exact Ev.ret rfl
  · rw [if_neg hn, if_neg hn]
    obtain ⟨hd, h0, h1⟩ := nb_dir (by omega : 0 ≤ nbI w h c d)
    obtain ⟨hg, hcw⟩ := cellsOf_valid h0 h1
    have hcr := cellsOf_range w h
    have hgr := gridOk_iff.1 hg
    have hlt := nb_lt (w := w) (h := h) (c := c) (d := d)
    have hmn : mn c (nbI w h c d) = min c (nbI w h c d) := by unfold mn; omega
    rw [hmn]
    have hm0 : 0 ≤ min c (nbI w h c d) := by omega
    have hm1 : min c (nbI w h c d) ≤ 15 := by omega
    generalize min c (nbI w h c d) = m at *
    have ha0 : 0 ≤ m / w := Int.ediv_nonneg hm0 (by omega)
    have ha1 : m / w ≤ m := Int.ediv_le_self _ hm0
    have hb0 : 0 ≤ m % w := Int.emod_nonneg _ (by omega)
    have hb1 : m % w < w := Int.emod_lt_of_pos _ (by omega)
    have hp0 : 0 ≤ m / w * (w - 1) := Int.mul_nonneg ha0 (by omega)
    have hp1 : m / w * (w - 1) ≤ 15 * 3 := Int.mul_le_mul (by omega) (by omega) (by omega) (by omega)
    have hq0 : 0 ≤ (w - 1) * h := Int.mul_nonneg (by omega) (by omega)
    have hq1 : (w - 1) * h ≤ 3 * 4 := Int.mul_le_mul (by omega) (by omega) (by omega) (by omega)
    rw [Int.tmod_eq_emod_of_nonneg hm0, Int.tdiv_eq_ediv_of_nonneg hm0, wrap64_id (x := m / w) (by omega) (by omega), wrap64_id (x := w - 1) (by omega) (by omega), wrap64_id (x := m / w * (w - 1)) (by omega) (by omega), wrap64_id (x := m / w * (w - 1) + m % w) (by omega) (by omega)]
    refine Ev.ite (fun e => Ev.ff (by omega) ?_) (fun e => Ev.ite (fun e3 => Ev.ff (by omega) ?_) (fun e3 => ?_))
    · rw [if_pos (.inl e)]; exact Ev.ret rfl
    · rw [if_pos (.inr e3)]; exact Ev.ret rfl
    · rw [if_neg (by omega)]
      refine Ev.bnd0 (spec_l02East_eq hg) (Ev.ret ?_)
      unfold eastOf
      rw [wrap64_id (by omega) (by omega)]
theorem spec_IsPassage_eq {w h : Int} {n : Nat} (hg : gridOk w h = true) (hn : n < 2 ^ gapsN w h) (g : Int) : spec_IsPassage.f w h n g = some (openI n g) := by
  have hr := gapsOf_range w h
  unfold spec_IsPassage.f
  rw [spec_MazeOk_eq, Option.bind_some, if_pos (mazeOk_iff.2 ⟨hg, n, rfl, hn⟩), spec_CountGaps_eq, Option.bind_some, wrap64_id (by omega) (by omega), l01In_eq, Option.bind_some]
  by_cases hc : 0 ≤ g ∧ g < gapsOf w h
  · rw [if_pos (by simp; omega), spec_l03Bit_eq (open_small hn) hc.1]
    rfl
  · rw [if_neg (by simp; omega)]
    congr 1
    symm
    rw [Bool.eq_false_iff]
    intro ho
    have := open_isGap hn ho
    unfold isGapI at this
    simp at this
    omega
theorem spec_Step_ev {w h : Int} {n : Nat} (hg : gridOk w h = true) (hn : n < 2 ^ gapsN w h) (c d : Int) : Ev (fun k => spec_Step.f k w h n c d) (stepI w h n c d) := by
  unfold spec_Step.f stepI
  refine Ev.bnd0 (spec_MazeOk_eq w h n) (Ev.tt (mazeOk_iff.2 ⟨hg, n, rfl, hn⟩) ?_)
  refine Ev.bind (spec_GapAt_ev w h c d) (Ev.bnd0 (spec_IsPassage_eq hg hn _) ?_)
  by_cases ho : openI n (gapI w h c d) = true
  · rw [if_pos ho]
    exact Ev.tt ho (Ev.bind (spec_Neighbor_ev w h c d) (Ev.ret rfl))
  · rw [if_neg ho]
    exact Ev.ff ho (Ev.ret rfl)
theorem spec_Ways_l0 (w h : Int) (o c : Int) (s : Int → Int) (hs : ∀ d, Ev (fun k => spec_Step.f k w h o c d) (s d)) : ∀ (e d : Nat) (out : List Int), 4 - d = e → d ≤ 4 → out.length ≤ d →
    Ev (fun k => spec_WaysFrom.l0 k c out d w h o) (out ++ waysFrom s d)
  | 0, d, out, he, hd, hl => by
    refine Ev.step (fun _ => spec_WaysFrom.l0.eq_2 ..) ?_
    refine Ev.ff (by omega) (Ev.ret ?_)
    obtain rfl : d = 4 := by omega
    simp [waysFrom]
  | e + 1, d, out, he, hd, hl => by
    refine Ev.step (fun _ => spec_WaysFrom.l0.eq_2 ..) ?_
    refine Ev.tt (by omega) (Ev.bind (hs d) ?_)
    rw [wsucc (by omega), waysFrom_succ s (show d < 4 by omega)]
    refine Ev.ite (fun h1 => Ev.tt (by omega) ?_) (fun h1 => ?_)
    · rw [if_pos (by omega)]
      have := spec_Ways_l0 w h o c s hs e (d + 1) (out ++ [(d : Int)]) (by omega) (by omega) (by simp; omega)
      simpa using this
    · rw [if_neg (by omega)]
      exact spec_Ways_l0 w h o c s hs e (d + 1) out (by omega) (by omega) (by omega)
theorem spec_Ways_ev {w h : Int} {n : Nat} (hg : gridOk w h = true) (hn : n < 2 ^ gapsN w h) (c : Int) : Ev (fun k => spec_WaysFrom.f k w h n c) (waysI w h n c) := by
  unfold spec_WaysFrom.f waysI
  have := spec_Ways_l0 w h n c _ (fun d => spec_Step_ev hg hn c d) 4 0 [] (by omega) (by omega) (by simp)
  simpa using this
end Go.Proofs.Ytcajhmldbkfhiaa.P
namespace Go.Proofs.Ytcajhmldbkfhiaa.P
open Go.RowKit Go.Proofs.YtcajhmldbkfhiaaW.PrintWords Go.Proofs.YtcajhmldbkfhiaaW.PrintLast Go.Proofs.YtcajhmldbkfhiaaW.PrintMore
attribute [local go_sem] max2_int min2_int max_two min_two max_three min_three max_four min_four   -- for this text's walks alone
set_option linter.unusedVariables false
set_option linter.unusedSimpArgs false

/-! ### spec_CellsOn: function 40 -/
end Go.Proofs.Ytcajhmldbkfhiaa.P
namespace Go.Proofs.Ytcajhmldbkfhiaa.P
open Go.RowKit Go.Proofs.YtcajhmldbkfhiaaW.PrintWords
set_option linter.unusedVariables false
set_option linter.unusedSimpArgs false

/-- The cells that a way leads to, one a step; none where it ends. -/
def wk (s : Int → Int → Int) : Int → List Int → Option (List Int)
  | _, [] => some []
  | c, d :: ds => if s c d < 0 then none else (wk s (s c d) ds).map (s c d :: ·)
theorem wk_len {s : Int → Int → Int} : ∀ {ds : List Int} {c : Int} {l : List Int}, wk s c ds = some l → l.length = ds.length
  | [], c, l, h => by cases h; rfl
  | d :: ds, c, l, h => by
    unfold wk at h
    by_cases e : s c d < 0
    · rw [if_pos e] at h; cases h
    · rw [if_neg e] at h
      obtain ⟨l', h', rfl⟩ := Option.map_eq_some_iff.1 h
      rw [List.length_cons, List.length_cons, wk_len h']
def cellsN' (w h : Int) (n : Nat) (c : Int) (way : List Int) : List Int := match (if isCellI w h c = true ∧ way.length ≤ 400 then wk (stepI w h n) c way else none) with | none => [] | some l => c :: l
theorem cellsN'_len (w h : Int) (n : Nat) (c : Int) (way : List Int) : (cellsN' w h n c way).length ≤ 401 := by
  unfold cellsN'
  by_cases e : isCellI w h c = true ∧ way.length ≤ 400
  · rw [if_pos e]
    cases hk : wk (stepI w h n) c way with
    | none => simp
    | some l => have := wk_len hk; simp only [List.length_cons]; omega
  · rw [if_neg e]; simp
section
variable {w h : Int} {n : Nat}
theorem impl_Cells_l0 (hg : gridOk w h = true) (hn : n < 2 ^ gapsN w h) (way : List Int) (hw : way.length ≤ 400) : ∀ (e i : Nat) (c : Int) (out : List Int), way.length - i = e → i ≤ way.length → out.length ≤ i + 1 →
    Ev (fun k => impl_CellsOn.l0 k c out way way.length i w h n) (match wk (stepI w h n) c (way.drop i) with | none => [] | some l => out ++ l)
  | 0, i, c, out, he, hi, ho => by
    refine Ev.step (fun _ => impl_CellsOn.l0.eq_2 ..) (Ev.ff (by omega) (Ev.ret ?_))
    rw [List.drop_eq_nil_of_le (by omega)]
    simp [wk]
  | e + 1, i, c, out, he, hi, ho => by
    refine Ev.step (fun _ => impl_CellsOn.l0.eq_2 ..) (Ev.tt (by omega) (Ev.tt (by omega) (Ev.tt (by omega) (Ev.bind (impl_Step_ev hg hn _ _) ?_))))
    rw [rd_get (show i < way.length by omega), List.drop_eq_getElem_cons (show i < way.length by omega)]
    unfold wk
    refine Ev.ite (fun e1 => ?_) (fun e1 => ?_)
    · rw [if_pos e1]; exact Ev.ret rfl
    · rw [if_neg e1, wsucc (by omega)]
      refine Ev.tt (by omega) ?_
      refine Ev.eq (impl_Cells_l0 hg hn way hw e (i + 1) (stepI w h n c way[i]) (out ++ [stepI w h n c way[i]]) (by omega) (by omega) (by simp; omega)) ?_
      cases wk (stepI w h n) (stepI w h n c way[i]) (way.drop (i + 1)) <;> simp
theorem impl_CellsOn_ev (hg : gridOk w h = true) (hn : n < 2 ^ gapsN w h) (c : Int) (way : List Int) : Ev (fun k => impl_CellsOn.f k w h n c way) (cellsN' w h n c way) := by
  unfold impl_CellsOn.f cellsN'
  refine Ev.bnd0 (impl_isIn_one ..) ?_
  rw [mazeOk_iff.2 ⟨hg, n, rfl, hn⟩, Bool.true_and]
  by_cases hc : isCellI w h c = true
  · refine Ev.tt hc (Ev.step (fun _ => impl_CellsOn.j0.eq_2 ..) ?_)
    by_cases hw : way.length ≤ 400
    · rw [if_pos ⟨hc, hw⟩]
      refine Ev.ff (by rw [decide_eq_true_eq]; omega) ?_
      refine Ev.eq (impl_Cells_l0 hg hn way hw way.length 0 c [c] (by omega) (by omega) (by simp)) ?_
      rw [List.drop_zero]
      cases wk (stepI w h n) c way <;> simp
    · rw [if_neg (fun h => hw h.2)]
      exact Ev.tt (by rw [decide_eq_true_eq]; omega) (Ev.ret rfl)
  · rw [if_neg (fun h => hc h.1)]
    exact Ev.ff hc (Ev.step (fun _ => impl_CellsOn.j0.eq_2 ..) (Ev.tt rfl (Ev.ret rfl)))
end
end Go.Proofs.Ytcajhmldbkfhiaa.P
namespace Go.Proofs.Ytcajhmldbkfhiaa.P
open Go.RowKit Go.Proofs.YtcajhmldbkfhiaaW.PrintWords
set_option linter.unusedVariables false
set_option linter.unusedSimpArgs false

theorem idxOf_is {l : List Int} {x : Int} {i : Nat} (h : i < l.length) (hx : l[i] = x) (hn : ∀ j, (hj : j < i) → l[j] ≠ x) : l.idxOf x = i := by
  unfold List.idxOf
  rw [List.findIdx_eq h]
  exact ⟨by simp [hx], fun j hj => by simp [hn j hj]⟩
theorem index_l0 (l : List Int) (x : Int) (hl : l.length ≤ 4611686018427387903) : ∀ (d i : Nat), l.length - i = d → i ≤ l.length → (∀ j, j < i → rd l j ≠ x) →
    Ev (fun k => slices_Index_int_int.l0 k l x l.length i) (if x ∈ l then (l.idxOf x : Int) else -1)
  | 0, i, hd, hi, hn => by
    refine Ev.step (fun _ => slices_Index_int_int.l0.eq_2 ..) ?_
    refine Ev.ff (by omega) (Ev.ret ?_)
    rw [if_neg]
    intro hx
    obtain ⟨j, hj, rfl⟩ := List.getElem_of_mem hx
    exact hn j (by omega) (rd_get hj)
  | d + 1, i, hd, hi, hn => by
    refine Ev.step (fun _ => slices_Index_int_int.l0.eq_2 ..) ?_
    refine Ev.tt (by omega) (Ev.tt (by omega) (Ev.tt (by omega) ?_))
    have hlt : i < l.length := by omega
    refine Ev.ite (fun e => ?_) (fun e => ?_)
    · refine Ev.ret ?_
      have hm : x ∈ l := by rw [e, rd_get hlt]; exact List.getElem_mem hlt
      rw [if_pos hm]
      rw [idxOf_is hlt (by rw [e, rd_get hlt]) (fun j hj => by have := hn j hj; rwa [rd_get (by omega)] at this)]
    · rw [wsucc (by omega)]
      refine index_l0 l x hl d (i + 1) (by omega) (by omega) fun j hj => ?_
      by_cases h : j = i
      · subst h; exact fun e' => e e'.symm
      · exact hn j (by omega)
theorem index_ev (l : List Int) (x : Int) (hl : l.length ≤ 4611686018427387903) : Ev (fun k => slices_Index_int_int.f k l x) (if x ∈ l then (l.idxOf x : Int) else -1) := by
  unfold slices_Index_int_int.f
  exact index_l0 l x hl l.length 0 (by omega) (by omega) (fun j hj => by omega)

def fullN (w h : Int) : Nat := 2 ^ gapsN w h - 1
theorem fullN_lt (w h : Int) : fullN w h < 2 ^ gapsN w h := by unfold fullN; have := Nat.two_pow_pos (gapsN w h); omega
theorem full_val {w h : Int} : wrap64 ((shl .i64 1 (gapsOf w h)) - 1) = ((fullN w h : Nat) : Int) := by
  have hc := gapsOf_range w h
  have hp := pow_le hc.1 hc.2
  rw [shl_one hc.1 hc.2, wrap64_id (by omega) (by omega)]
  unfold fullN gapsN
  have h1 := Nat.two_pow_pos (gapsOf w h).toNat
  have h2 := Int.natCast_pow 2 (gapsOf w h).toNat
  simp only [Int.cast_ofNat_Int] at h2
  omega
theorem impl_FullMaze_eq {w h : Int} (hg : gridOk w h = true) : impl_FullMaze.f w h = some (w, h, ((fullN w h : Nat) : Int)) := by
  unfold impl_FullMaze.f
  rw [impl_GridOk_eq, Option.bind_some, if_pos hg, impl_CountGaps_eq, Option.bind_some, if_pos (gapsOf_range w h).1, full_val]
theorem spec_FullMaze_eq {w h : Int} (hg : gridOk w h = true) : spec_FullMaze.f w h = some (w, h, ((fullN w h : Nat) : Int)) := by
  unfold spec_FullMaze.f
  rw [spec_GridOk_eq, Option.bind_some, if_pos hg, spec_CountGaps_eq, Option.bind_some, if_pos (gapsOf_range w h).1, full_val]
end Go.Proofs.Ytcajhmldbkfhiaa.P
namespace Go.Proofs.Ytcajhmldbkfhiaa.P
open Go.RowKit Go.Proofs.YtcajhmldbkfhiaaW.PrintWords Go.Proofs.YtcajhmldbkfhiaaW.PrintLast Go.Proofs.YtcajhmldbkfhiaaW.PrintMore
attribute [local go_sem] max2_int min2_int max_two min_two max_three min_three max_four min_four   -- for this text's walks alone
set_option linter.unusedVariables false
set_option linter.unusedSimpArgs false

/-! ### spec_CountPassages: function 66 -/
/-! ### spec_l04Distances: function 92 -/
/-! ### spec_Reached: function 143 -/
/-! ### spec_CountParts: function 132 -/
/-! ### spec_IsConnected: function 93 -/
end Go.Proofs.Ytcajhmldbkfhiaa.P
namespace Go.Proofs.Ytcajhmldbkfhiaa.P
open Go.RowKit Go.Proofs.YtcajhmldbkfhiaaW.PrintWords
set_option linter.unusedVariables false
set_option linter.unusedSimpArgs false

/-- Connected by the edges of n. -/
inductive Cn (e : Nat → Nat × Nat) (n : Nat) : Nat → Nat → Prop
  | refl (x : Nat) : Cn e n x x
  | fwd {x : Nat} (k : Nat) : n.testBit k = true → Cn e n x (e k).1 → Cn e n x (e k).2
  | bwd {x : Nat} (k : Nat) : n.testBit k = true → Cn e n x (e k).2 → Cn e n x (e k).1
theorem Cn.trans {e : Nat → Nat × Nat} {n x y z : Nat} (h : Cn e n x y) (g : Cn e n y z) : Cn e n x z := by
  induction g with
  | refl => exact h
  | fwd k hk _ ih => exact .fwd k hk ih
  | bwd k hk _ ih => exact .bwd k hk ih
theorem Cn.edge {e : Nat → Nat × Nat} {n k : Nat} (h : n.testBit k = true) : Cn e n (e k).1 (e k).2 := .fwd k h (.refl _)
theorem Cn.edge' {e : Nat → Nat × Nat} {n k : Nat} (h : n.testBit k = true) : Cn e n (e k).2 (e k).1 := .bwd k h (.refl _)
theorem Cn.symm {e : Nat → Nat × Nat} {n x y : Nat} (h : Cn e n x y) : Cn e n y x := by
  induction h with
  | refl => exact .refl _
  | fwd k hk _ ih => exact (Cn.edge' hk).trans ih
  | bwd k hk _ ih => exact (Cn.edge hk).trans ih
theorem Cn.mono {e : Nat → Nat × Nat} {n m x y : Nat} (hm : ∀ i, n.testBit i = true → m.testBit i = true) (h : Cn e n x y) : Cn e m x y := by
  induction h with
  | refl => exact .refl _
  | fwd k hk _ ih => exact .fwd k (hm k hk) ih
  | bwd k hk _ ih => exact .bwd k (hm k hk) ih
theorem Cn_add {e : Nat → Nat × Nat} {n k x y : Nat} : Cn e (setB n k true) x y ↔ Cn e n x y ∨ (Cn e n x (e k).1 ∧ Cn e n (e k).2 y) ∨ (Cn e n x (e k).2 ∧ Cn e n (e k).1 y) := by
  have hm : ∀ i, n.testBit i = true → (setB n k true).testBit i = true := fun i hi => by rw [testBit_setB]; split <;> simp [hi]
  have hk : (setB n k true).testBit k = true := by rw [testBit_setB]; simp
  constructor
  · intro h
    induction h with
    | refl => exact .inl (.refl _)
    | fwd j hj _ ih =>
      rw [testBit_setB] at hj
      by_cases e1 : j = k
      · subst e1
        rcases ih with ih | ⟨h1, h2⟩ | ⟨h1, h2⟩
        · exact .inr (.inl ⟨ih, .refl _⟩)
        · exact .inr (.inl ⟨h1, .refl _⟩)
        · exact .inl h1
      · rw [if_neg e1] at hj
        rcases ih with ih | ⟨h1, h2⟩ | ⟨h1, h2⟩
        · exact .inl (.fwd j hj ih)
        · exact .inr (.inl ⟨h1, .fwd j hj h2⟩)
        · exact .inr (.inr ⟨h1, .fwd j hj h2⟩)
    | bwd j hj _ ih =>
      rw [testBit_setB] at hj
      by_cases e1 : j = k
      · subst e1
        rcases ih with ih | ⟨h1, h2⟩ | ⟨h1, h2⟩
        · exact .inr (.inr ⟨ih, .refl _⟩)
        · exact .inl h1
        · exact .inr (.inr ⟨h1, .refl _⟩)
      · rw [if_neg e1] at hj
        rcases ih with ih | ⟨h1, h2⟩ | ⟨h1, h2⟩
        · exact .inl (.bwd j hj ih)
        · exact .inr (.inl ⟨h1, .bwd j hj h2⟩)
        · exact .inr (.inr ⟨h1, .bwd j hj h2⟩)
  · rintro (h | ⟨h1, h2⟩ | ⟨h1, h2⟩)
    · exact h.mono hm
    · exact ((h1.mono hm).trans (Cn.edge hk)).trans (h2.mono hm)
    · exact ((h1.mono hm).trans (Cn.edge' hk)).trans (h2.mono hm)
theorem Cn_zero {e : Nat → Nat × Nat} {x y : Nat} : Cn e 0 x y ↔ x = y := by
  constructor
  · intro h
    induction h with
    | refl => rfl
    | fwd k hk => simp at hk
    | bwd k hk => simp at hk
  · rintro rfl; exact .refl _
/-- The first k bits of n. -/
def low (n k : Nat) : Nat := n % 2 ^ k
theorem testBit_low (n k i : Nat) : (low n k).testBit i = (decide (i < k) && n.testBit i) := Nat.testBit_mod_two_pow ..
theorem low_all {n k : Nat} (h : n < 2 ^ k) : low n k = n := Nat.mod_eq_of_lt h
theorem low_succ_set {n k : Nat} (h : n.testBit k = true) : low n (k + 1) = setB (low n k) k true := by
  apply Nat.eq_of_testBit_eq
  intro i
  rw [testBit_setB, testBit_low, testBit_low]
  by_cases e : i = k
  · subst e; simp [h]
  · rw [if_neg e]
    congr 1
    rw [decide_eq_decide]; omega
theorem low_succ_not {n k : Nat} (h : n.testBit k = false) : low n (k + 1) = low n k := by
  apply Nat.eq_of_testBit_eq
  intro i
  rw [testBit_low, testBit_low]
  by_cases e : i = k
  · subst e; simp [h]
  · congr 1
    rw [decide_eq_decide]; omega
/-- The least vertex of the part of v, by the first k edges. -/
def lab (e : Nat → Nat × Nat) (n : Nat) : Nat → Nat → Nat
  | 0, v => v
  | k + 1, v =>
    if n.testBit k = true then
      (if lab e n k v = max (lab e n k (e k).1) (lab e n k (e k).2) then min (lab e n k (e k).1) (lab e n k (e k).2) else lab e n k v)
    else lab e n k v
theorem lab_facts (e : Nat → Nat × Nat) (n : Nat) : ∀ k, (∀ v, lab e n k v ≤ v ∧ lab e n k (lab e n k v) = lab e n k v) ∧ ∀ x y, lab e n k x = lab e n k y ↔ Cn e (low n k) x y
  | 0 => by
    refine ⟨fun v => ⟨Nat.le_refl _, rfl⟩, fun x y => ?_⟩
    have : low n 0 = 0 := by unfold low; simp [Nat.mod_one]
    rw [this, Cn_zero]
    rfl
  | k + 1 => by
    obtain ⟨h1, h2⟩ := lab_facts e n k
    cases hb : n.testBit k with
    | false =>
      simp only [lab, hb, Bool.false_eq_true, if_false]
      rw [low_succ_not hb]
      exact ⟨h1, h2⟩
    | true =>
      simp only [lab, hb, if_true]
      rw [low_succ_set hb]
      refine ⟨fun v => ?_, fun x y => ?_⟩
      · have a1 := h1 v
        have a2 := h1 (e k).1
        have a3 := h1 (e k).2
        grind
      · rw [Cn_add, ← h2, ← h2, ← h2, ← h2, ← h2]
        grind
/-- Tells whether a vertex is the least of its part. -/
theorem lab_le (e : Nat → Nat × Nat) (n k v : Nat) : lab e n k v ≤ v := ((lab_facts e n k).1 v).1
theorem lab_lab (e : Nat → Nat × Nat) (n k v : Nat) : lab e n k (lab e n k v) = lab e n k v := ((lab_facts e n k).1 v).2
theorem lab_iff {e : Nat → Nat × Nat} {n k : Nat} (hn : n < 2 ^ k) (x y : Nat) : lab e n k x = lab e n k y ↔ Cn e n x y := by
  have := (lab_facts e n k).2 x y
  rwa [low_all hn] at this
theorem lab_least {e : Nat → Nat × Nat} {n k : Nat} (hn : n < 2 ^ k) {x y : Nat} (h : Cn e n x y) : lab e n k x ≤ y := by
  rw [(lab_iff hn x y).2 h]
  exact lab_le ..
theorem lab_cn {e : Nat → Nat × Nat} {n k : Nat} (hn : n < 2 ^ k) (x : Nat) : Cn e n x (lab e n k x) := (lab_iff hn _ _).1 (lab_lab ..).symm
/-- How many of the numbers under v. -/
def cnt (p : Nat → Bool) : Nat → Nat
  | 0 => 0
  | v + 1 => cnt p v + (p v).toNat
theorem cnt_congr {p q : Nat → Bool} {v : Nat} (h : ∀ i, i < v → p i = q i) : cnt p v = cnt q v := by
  induction v with
  | zero => rfl
  | succ n ih => simp only [cnt]; rw [ih (fun i hi => h i (by omega)), h n (by omega)]
theorem cnt_one {p q : Nat → Bool} {v m : Nat} (hm : m < v) (h1 : p m = true) (h2 : q m = false) (h : ∀ i, i < v → i ≠ m → p i = q i) : cnt p v = cnt q v + 1 := by
  induction v with
  | zero => omega
  | succ n ih =>
    simp only [cnt]
    by_cases e : m = n
    · subst e
      rw [cnt_congr (q := q) (fun i hi => h i (by omega) (by omega)), h1, h2]
      simp
    · rw [ih (by omega) (fun i hi hne => h i (by omega) hne), h n (by omega) (fun e' => e e'.symm)]
      omega
/-- The number of parts of v vertices, by k edges. -/
def parts (e : Nat → Nat × Nat) (v k n : Nat) : Nat := cnt (fun c => lab e n k c == c) v
theorem parts_zero (e : Nat → Nat × Nat) (v k : Nat) : parts e v k 0 = v := by
  have : ∀ k c, lab e 0 k c = c := by
    intro k
    induction k with
    | zero => intro c; rfl
    | succ k ih => intro c; simp [lab, ih]
  unfold parts
  simp only [this, beq_self_eq_true]
  induction v with
  | zero => rfl
  | succ n ih => simp only [cnt]; rw [ih]; rfl
theorem pop_setB {m n j : Nat} (hj : j < m) (h : n.testBit j = false) : pop m (setB n j true) = pop m n + 1 := by
  induction m with
  | zero => omega
  | succ m ih =>
    simp only [pop]
    by_cases e : j = m
    · subst e
      rw [pop_congr (t := n) (fun i hi => by rw [testBit_setB, if_neg (by omega)]), testBit_setB, if_pos rfl, h]
      simp
    · rw [ih (by omega), testBit_setB, if_neg (by omega)]
      omega
/-- A graph: the ends of its edges are vertices. -/
def Gr (e : Nat → Nat × Nat) (v k : Nat) : Prop := ∀ j, j < k → (e j).1 < v ∧ (e j).2 < v
theorem lt_of_testBit {n k j : Nat} (hn : n < 2 ^ k) (h : n.testBit j = true) : j < k := by
  rcases Nat.lt_or_ge j k with h1 | h1
  · exact h1
  · rw [Nat.testBit_lt_two_pow (Nat.lt_of_lt_of_le hn (Nat.pow_le_pow_right (by decide) h1))] at h
    cases h
/-- One part: all are connected. -/
theorem parts_one {e : Nat → Nat × Nat} {v k n : Nat} (hn : n < 2 ^ k) (hv : 0 < v) : parts e v k n = 1 ↔ ∀ x, x < v → Cn e n 0 x := by
  have h0 : (lab e n k 0 == 0) = true := by have := lab_le e n k 0; rw [beq_iff_eq]; omega
  have hq : cnt (fun c => c == 0) v = 1 := by
    obtain ⟨v, rfl⟩ : ∃ u, v = u + 1 := ⟨v - 1, by omega⟩
    clear hv
    induction v with
    | zero => rfl
    | succ v ih => simp only [cnt] at *; rw [ih]; simp
  constructor
  · intro h x hx
    have hl := lab_lab e n k x
    have hle := lab_le e n k x
    have hxc := lab_cn (e := e) hn x
    by_cases hz : lab e n k x = 0
    · rw [hz] at hxc; exact hxc.symm
    · exfalso
      unfold parts at h
      have : 2 ≤ cnt (fun c => lab e n k c == c) v := by
        have h2 : cnt (fun c => c == 0 || c == lab e n k x) v = cnt (fun c => c == 0) v + 1 := cnt_one (m := lab e n k x) (by omega) (by simp) (by simpa using hz) (fun i hi hne => by simp [hne])
        have hmono : ∀ (p q : Nat → Bool) (u : Nat), (∀ i, p i = true → q i = true) → cnt p u ≤ cnt q u := by
          intro p q u hpq
          induction u with
          | zero => exact Nat.le_refl _
          | succ u ih =>
            simp only [cnt]
            have := hpq u
            cases hp : p u <;> cases hq : q u <;> simp_all <;> omega
        have h3 := hmono (fun c => c == 0 || c == lab e n k x) (fun c => lab e n k c == c) v (fun i hi => by
          simp at hi
          rcases hi with rfl | rfl
          · exact h0
          · simpa using hl)
        omega
      omega
  · intro h
    unfold parts
    rw [← hq]
    refine cnt_congr fun c hc => ?_
    have := lab_least hn (h c hc).symm
    rw [Bool.eq_iff_iff, beq_iff_eq, beq_iff_eq]
    constructor
    · intro h1; omega
    · rintro rfl; omega
def upd (D : Nat → Int) (y : Nat) (v : Int) : Nat → Int := fun c => if c = y then v else D c
/-- One direction of one cell. -/
def relax (s : Nat → Nat → Int) (x d : Nat) (S : (Nat → Int) × List Nat) : (Nat → Int) × List Nat :=
  if 0 ≤ s x d ∧ S.1 (s x d).toNat < 0 then (upd S.1 (s x d).toNat (S.1 x + 1), S.2 ++ [(s x d).toNat]) else S
def bround (s : Nat → Nat → Int) (x : Nat) (S : (Nat → Int) × List Nat) : (Nat → Int) × List Nat := relax s x 3 (relax s x 2 (relax s x 1 (relax s x 0 S)))
def bfsF (s : Nat → Nat → Int) : Nat → (Nat → Int) × List Nat → Nat → (Nat → Int)
  | 0, S, _ => S.1
  | f + 1, S, i => match S.2[i]? with
    | none => S.1
    | some x => bfsF s f (bround s x S) (i + 1)
/-- The distances from a cell, or -1. -/
def bfsD (s : Nat → Nat → Int) (v src : Nat) : Nat → Int := bfsF s (v + 1) (upd (fun _ => -1) src 0, [src]) 0
/-- Steps stay among v cells. -/
def Rng (s : Nat → Nat → Int) (v : Nat) : Prop := ∀ x d, x < v → d < 4 → s x d = -1 ∨ (0 ≤ s x d ∧ s x d < (v : Int))

structure BInv (s : Nat → Nat → Int) (v src : Nat) (S : (Nat → Int) × List Nat) (i : Nat) (m : Nat) : Prop where
  src0 : S.1 src = 0
  zero : ∀ c, S.1 c = 0 → c = src
  srcq : src ∈ S.2
  inr : ∀ c ∈ S.2, c < v
  nodup : S.2.Nodup
  neg : ∀ c, S.1 c = -1 ∨ 0 ≤ S.1 c
  mem : ∀ c, 0 ≤ S.1 c ↔ c ∈ S.2
  sorted : S.2.Pairwise (fun a b => S.1 a ≤ S.1 b)
  top : ∀ x, S.2[i]? = some x → ∀ c ∈ S.2, S.1 c ≤ S.1 x + 1
  done : ∀ j x, S.2[j]? = some x → ∀ d, d < 4 → (j < i ∨ (j = i ∧ d < m)) → 0 ≤ s x d → 0 ≤ S.1 (s x d).toNat ∧ S.1 (s x d).toNat ≤ S.1 x + 1
  pred : ∀ c ∈ S.2, c = src ∨ ∃ c' d, c' ∈ S.2 ∧ d < 4 ∧ s c' d = (c : Int) ∧ S.1 c = S.1 c' + 1
theorem BInv.start {s : Nat → Nat → Int} {v src : Nat} (h : src < v) : BInv s v src (upd (fun _ => -1) src 0, [src]) 0 0 where
  src0 := by simp [upd]
  zero := fun c => by simp only [upd]; split <;> simp_all
  srcq := by simp
  inr := by simpa using h
  nodup := by simp
  neg := fun c => by simp only [upd]; split <;> simp
  mem := fun c => by
    simp only [upd, List.mem_singleton]
    split
    · rename_i e; simp [e]
    · rename_i e; simp [e]
  sorted := by simp
  top := fun x hx c hc => by
    simp at hx hc
    subst hx hc
    omega
  done := fun j x hx d hd hj => by omega
  pred := fun c hc => .inl (by simpa using hc)
theorem BInv.relax {s : Nat → Nat → Int} {v src : Nat} (hs : Rng s v) {S : (Nat → Int) × List Nat} {i m x : Nat} (hm : m < 4) (hx : S.2[i]? = some x) (I : BInv s v src S i m) :
    BInv s v src (relax s x m S) i (m + 1) ∧ (relax s x m S).2[i]? = some x := by
  have hxq : x ∈ S.2 := List.mem_of_getElem? hx
  have hi : i < S.2.length := by
    rcases Nat.lt_or_ge i S.2.length with h | h
    · exact h
    · rw [List.getElem?_eq_none h] at hx; cases hx
  have hxv := I.inr x hxq
  have hx0 := (I.mem x).2 hxq
  unfold Go.Proofs.Ytcajhmldbkfhiaa.P.relax
  by_cases hc : 0 ≤ s x m ∧ S.1 (s x m).toNat < 0
  · rw [if_pos hc]
    obtain ⟨y, hy⟩ : ∃ y : Nat, s x m = y := ⟨(s x m).toNat, by omega⟩
    have hyv : y < v := by have := hs x m hxv hm; omega
    rw [hy] at hc ⊢
    simp only [Int.toNat_natCast] at hc ⊢
    have hyq : y ∉ S.2 := fun h => by have := (I.mem y).2 h; omega
    have keep : ∀ c, c ∈ S.2 → upd S.1 y (S.1 x + 1) c = S.1 c := by
      intro c h
      unfold upd
      rw [if_neg]
      rintro rfl
      exact hyq h
    have uy : upd S.1 y (S.1 x + 1) y = S.1 x + 1 := by unfold upd; rw [if_pos rfl]
    have idx : ∀ j z, (S.2 ++ [y])[j]? = some z → S.2[j]? = some z ∨ (j = S.2.length ∧ z = y) := by
      intro j z h
      rcases Nat.lt_or_ge j S.2.length with h1 | h1
      · rw [List.getElem?_append_left h1] at h; exact .inl h
      · rw [List.getElem?_append_right h1] at h
        have : j - S.2.length = 0 := by
          rcases Nat.eq_zero_or_pos (j - S.2.length) with h2 | h2
          · exact h2
          · rw [List.getElem?_eq_none (by simp only [List.length_singleton]; omega)] at h; cases h
        rw [this] at h
        simp at h
        exact .inr ⟨by omega, h.symm⟩
    have I0 : ∀ c, (upd S.1 y (S.1 x + 1), S.2 ++ [y]).1 c = 0 → c = src := by
      intro c
      show upd _ _ _ c = 0 → _
      unfold upd
      split
      · intro h; omega
      · exact I.zero c
    refine ⟨{ src0 := ?_, zero := I0, srcq := ?_, inr := ?_, nodup := ?_, neg := ?_, mem := ?_, sorted := ?_, top := ?_, done := ?_, pred := ?_ }, by rw [List.getElem?_append_left hi]; exact hx⟩
    · show upd _ _ _ src = 0
      rw [keep _ I.srcq]; exact I.src0
    · exact List.mem_append_left _ I.srcq
    · intro c hcq
      rcases List.mem_append.1 hcq with h | h
      · exact I.inr c h
      · simp at h; omega
    · rw [List.nodup_append]
      refine ⟨I.nodup, by simp, ?_⟩
      intro a ha b hb hab
      simp at hb
      subst hab hb
      exact hyq ha
    · intro c
      show upd _ _ _ c = -1 ∨ 0 ≤ upd _ _ _ c
      by_cases e : c = y
      · subst e; rw [uy]; omega
      · rw [show upd S.1 y (S.1 x + 1) c = S.1 c from if_neg e]; exact I.neg c
    · intro c
      rw [List.mem_append, List.mem_singleton]
      show 0 ≤ upd _ _ _ c ↔ _
      unfold upd
      by_cases e : c = y
      · rw [if_pos e]; exact ⟨fun _ => .inr e, fun _ => by omega⟩
      · rw [if_neg e, I.mem]; simp [e]
    · rw [List.pairwise_append]
      refine ⟨I.sorted.imp_of_mem fun {a b} ha hb h => ?_, by simp, ?_⟩
      · show upd _ _ _ a ≤ upd _ _ _ b
        rw [keep a ha, keep b hb]; exact h
      · intro a ha b hb
        simp at hb
        subst hb
        show upd _ _ _ a ≤ upd _ _ _ b
        rw [keep a ha, uy]
        exact I.top x hx a ha
    · intro z hz c hcq
      rw [List.getElem?_append_left hi, hx] at hz
      obtain rfl := Option.some.inj hz
      show upd _ _ _ c ≤ upd _ _ _ x + 1
      rw [keep x hxq]
      rcases List.mem_append.1 hcq with h | h
      · rw [keep c h]; exact I.top x hx c h
      · simp at h; subst h; rw [uy]; omega
    · intro j z hz d hd hj h0
      rcases idx j z hz with h | ⟨h, _⟩
      · have hzq : z ∈ S.2 := List.mem_of_getElem? h
        show 0 ≤ upd _ _ _ _ ∧ upd _ _ _ _ ≤ upd _ _ _ z + 1
        rw [keep z hzq]
        by_cases e : j = i ∧ d = m
        · obtain ⟨rfl, rfl⟩ := e
          rw [hx] at h
          obtain rfl := Option.some.inj h
          rw [hy, Int.toNat_natCast, uy]
          omega
        · have := I.done j z h d hd (by omega) h0
          have h1 := (I.mem _).1 this.1
          rw [keep _ h1]
          exact this
      · omega
    · intro c hcq
      rcases List.mem_append.1 hcq with h | h
      · rcases I.pred c h with h1 | ⟨c', d, h1, h2, h3, h4⟩
        · exact .inl h1
        · refine .inr ⟨c', d, List.mem_append_left _ h1, h2, h3, ?_⟩
          show upd _ _ _ c = upd _ _ _ c' + 1
          rw [keep c h, keep c' h1]; exact h4
      · simp at h
        subst h
        refine .inr ⟨x, m, List.mem_append_left _ hxq, hm, hy, ?_⟩
        show upd _ _ _ c = upd _ _ _ x + 1
        rw [uy, keep x hxq]
  · rw [if_neg hc]
    refine ⟨{ I with done := ?_ }, hx⟩
    intro j z hz d hd hj h0
    by_cases e : j = i ∧ d = m
    · obtain ⟨rfl, rfl⟩ := e
      rw [hx] at hz
      obtain rfl := Option.some.inj hz
      have h1 : 0 ≤ S.1 (s x d).toNat := by
        have := I.neg (s x d).toNat
        omega
      exact ⟨h1, I.top x hx _ ((I.mem _).1 h1)⟩
    · exact I.done j z hz d hd (by omega) h0
theorem BInv.next {s : Nat → Nat → Int} {v src : Nat} {S : (Nat → Int) × List Nat} {i x : Nat} (hx : S.2[i]? = some x) (I : BInv s v src S i 4) : BInv s v src S (i + 1) 0 :=
  { I with
    top := fun z hz c hc => by
      have h1 := I.top x hx c hc
      have h2 := List.pairwise_iff_getElem.1 I.sorted i (i + 1)
      obtain ⟨a, rfl⟩ := List.getElem?_eq_some_iff.1 hx
      obtain ⟨b, rfl⟩ := List.getElem?_eq_some_iff.1 hz
      have := h2 a b (by omega)
      omega
    done := fun j z hz d hd hj h0 => I.done j z hz d hd (by omega) h0 }
theorem BInv.round {s : Nat → Nat → Int} {v src : Nat} (hs : Rng s v) {S : (Nat → Int) × List Nat} {i x : Nat} (hx : S.2[i]? = some x) (I : BInv s v src S i 0) : BInv s v src (bround s x S) (i + 1) 0 := by
  obtain ⟨I1, h1⟩ := I.relax hs (by omega) hx
  obtain ⟨I2, h2⟩ := I1.relax hs (by omega) h1
  obtain ⟨I3, h3⟩ := I2.relax hs (by omega) h2
  obtain ⟨I4, h4⟩ := I3.relax hs (by omega) h3
  exact I4.next h4
theorem nodup_len {v : Nat} : ∀ {q : List Nat}, q.Nodup → (∀ c ∈ q, c < v) → q.length ≤ v := by
  induction v with
  | zero =>
    intro q _ h
    cases q with
    | nil => simp
    | cons a l => have := h a (by simp); omega
  | succ v ih =>
    intro q hn h
    have h1 := ih (q := q.erase v) (hn.erase v) (fun c hc => by
      have h1 := h c (List.mem_of_mem_erase hc)
      have : c ≠ v := by rintro rfl; exact absurd hc (List.Nodup.not_mem_erase hn)
      omega)
    have h2 := List.length_erase (a := v) (l := q)
    split at h2 <;> omega
theorem BInv.len {s : Nat → Nat → Int} {v src : Nat} {S : (Nat → Int) × List Nat} {i m : Nat} (I : BInv s v src S i m) : S.2.length ≤ v := nodup_len I.nodup I.inr
/-- What distances are. -/
structure Dist (s : Nat → Nat → Int) (v src : Nat) (D : Nat → Int) : Prop where
  src0 : D src = 0
  zero : ∀ c, D c = 0 → c = src
  neg : ∀ c, D c = -1 ∨ 0 ≤ D c
  inr : ∀ c, 0 ≤ D c → c < v
  lip : ∀ x d, d < 4 → 0 ≤ D x → 0 ≤ s x d → 0 ≤ D (s x d).toNat ∧ D (s x d).toNat ≤ D x + 1
  pred : ∀ c, 0 < D c → ∃ c' d, d < 4 ∧ s c' d = (c : Int) ∧ 0 ≤ D c' ∧ D c = D c' + 1
theorem BInv.dist {s : Nat → Nat → Int} {v src : Nat} {S : (Nat → Int) × List Nat} {i : Nat} (hi : S.2[i]? = none) (I : BInv s v src S i 0) : Dist s v src S.1 where
  src0 := I.src0
  zero := I.zero
  neg := I.neg
  inr := fun c h => I.inr c ((I.mem c).1 h)
  lip := fun x d hd hx h0 => by
    obtain ⟨j, hj⟩ := List.mem_iff_getElem?.1 ((I.mem x).1 hx)
    refine I.done j x hj d hd (.inl ?_) h0
    rcases Nat.lt_or_ge j i with h | h
    · exact h
    · rw [List.getElem?_eq_none_iff] at hi
      rw [List.getElem?_eq_none (by omega)] at hj
      cases hj
  pred := fun c h => by
    rcases I.pred c ((I.mem c).1 (by omega)) with h1 | ⟨c', d, h1, h2, h3, h4⟩
    · rw [h1, I.src0] at h; omega
    · exact ⟨c', d, h2, h3, (I.mem c').2 h1, h4⟩
theorem bfsF_dist {s : Nat → Nat → Int} {v src : Nat} (hs : Rng s v) : ∀ (f : Nat) (S : (Nat → Int) × List Nat) (i : Nat), BInv s v src S i 0 → i ≤ S.2.length → v + 1 - i ≤ f → Dist s v src (bfsF s f S i)
  | 0, S, i, I, hi, hf => by have := I.len; omega
  | f + 1, S, i, I, hi, hf => by
    simp only [bfsF]
    cases h : S.2[i]? with
    | none => exact I.dist h
    | some x =>
      have I2 := I.round hs h
      have hl : S.2.length ≤ (bround s x S).2.length := by
        have h1 : ∀ m T, T.2.length ≤ (Go.Proofs.Ytcajhmldbkfhiaa.P.relax s x m T).2.length := by
          intro m T
          unfold Go.Proofs.Ytcajhmldbkfhiaa.P.relax
          split <;> simp
        exact Nat.le_trans (h1 0 S) (Nat.le_trans (h1 1 _) (Nat.le_trans (h1 2 _) (h1 3 _)))
      have h2 := (List.getElem?_eq_some_iff.1 h).1
      exact bfsF_dist hs f _ (i + 1) I2 (by omega) (by omega)
theorem bfsD_dist {s : Nat → Nat → Int} {v src : Nat} (hs : Rng s v) (h : src < v) : Dist s v src (bfsD s v src) := bfsF_dist hs _ _ 0 (BInv.start h) (by simp) (by omega)
/-- Steps are the edges of n. -/
structure Net (s : Nat → Nat → Int) (e : Nat → Nat × Nat) (v n : Nat) : Prop where
  rng : Rng s v
  edge : ∀ x d, x < v → d < 4 → 0 ≤ s x d → ∃ k, n.testBit k = true ∧ (e k = (x, (s x d).toNat) ∨ e k = ((s x d).toNat, x))
  lt : ∀ k, n.testBit k = true → (e k).1 < v ∧ (e k).2 < v
  fwd : ∀ k, n.testBit k = true → ∃ d, d < 4 ∧ s (e k).1 d = ((e k).2 : Int)
  bwd : ∀ k, n.testBit k = true → ∃ d, d < 4 ∧ s (e k).2 d = ((e k).1 : Int)
theorem Dist.cn {s : Nat → Nat → Int} {e : Nat → Nat × Nat} {v n src : Nat} {D : Nat → Int} (N : Net s e v n) (I : Dist s v src D) (c : Nat) : 0 ≤ D c ↔ Cn e n src c := by
  constructor
  · intro h
    obtain ⟨m, hm⟩ : ∃ m : Nat, D c = m := ⟨(D c).toNat, by omega⟩
    clear h
    induction m using Nat.strongRecOn generalizing c with
    | _ m ih =>
      by_cases h0 : 0 < D c
      · obtain ⟨c', d, hd, h1, h2, h3⟩ := I.pred c h0
        have := ih (D c').toNat (by omega) c' (by omega)
        obtain ⟨k, hk, hk2⟩ := N.edge c' d (I.inr _ h2) hd (by omega)
        rw [h1] at hk2
        simp only [Int.toNat_natCast] at hk2
        rcases hk2 with h | h
        · have e1 := Cn.edge (e := e) hk
          rw [h] at e1
          exact this.trans e1
        · have e1 := Cn.edge' (e := e) hk
          rw [h] at e1
          exact this.trans e1
      · rw [I.zero c (by omega)]
        exact .refl _
  · intro h
    induction h with
    | refl => rw [I.src0]; omega
    | fwd k hk _ ih =>
      obtain ⟨d, hd, h1⟩ := N.fwd k hk
      have := I.lip _ d hd ih (by omega)
      rw [h1] at this
      simpa using this.1
    | bwd k hk _ ih =>
      obtain ⟨d, hd, h1⟩ := N.bwd k hk
      have := I.lip _ d hd ih (by omega)
      rw [h1] at this
      simpa using this.1
def cellsN (w h : Int) : Nat := (cellsOf w h).toNat
theorem cellsN_cast (w h : Int) : ((cellsN w h : Nat) : Int) = cellsOf w h := by have := cellsOf_range w h; unfold cellsN; omega
theorem cellsN_le (w h : Int) : cellsN w h ≤ 16 := by have := cellsOf_range w h; unfold cellsN; omega
def ends (w h : Int) (g : Nat) : Nat × Nat := ((endsI w h g).1.toNat, (endsI w h g).2.toNat)
def st (w h : Int) (n : Nat) (c d : Nat) : Int := stepI w h n c d
theorem ends_facts {w h : Int} {g : Nat} (hg : g < gapsN w h) : endsI w h g = (((ends w h g).1 : Int), ((ends w h g).2 : Int)) ∧ (ends w h g).1 < (ends w h g).2 ∧ (ends w h g).2 < cellsN w h := by
  have hc := gapsN_cast w h
  have hc2 := cellsN_cast w h
  obtain ⟨h1, h2, h3, _⟩ := end_facts (w := w) (h := h) (g := g) (by omega) (by omega)
  unfold ends
  refine ⟨?_, by simp only; omega, by simp only; omega⟩
  apply Prod.ext
  · simp only; omega
  · simp only; omega
theorem step_open {w h : Int} {n : Nat} {c d : Int} (hn : n < 2 ^ gapsN w h) (h0 : 0 ≤ stepI w h n c d) : ∃ g : Nat, g < gapsN w h ∧ gapI w h c d = g ∧ n.testBit g = true ∧ stepI w h n c d = nbI w h c d ∧ endsI w h g = (min c (nbI w h c d), max c (nbI w h c d)) := by
  have hc := gapsN_cast w h
  unfold stepI at *
  by_cases ho : openI n (gapI w h c d) = true
  · rw [if_pos ho] at *
    rcases step_facts w h c d with ⟨h1, _⟩ | ⟨h1, h2, h3, h4, h5, h6, _⟩
    · omega
    · refine ⟨(gapI w h c d).toNat, by omega, by omega, ?_, rfl, ?_⟩
      · unfold openI at ho
        simp only [Bool.and_eq_true] at ho
        exact ho.2
      · rw [show (((gapI w h c d).toNat : Nat) : Int) = gapI w h c d by omega]; exact h6
  · rw [if_neg ho] at h0; omega
theorem net_grid {w h : Int} {n : Nat} (hn : n < 2 ^ gapsN w h) : Net (st w h n) (ends w h) (cellsN w h) n where
  rng := fun x d _ _ => by
    have := cellsN_cast w h
    unfold st
    rcases step_lt (w := w) (h := h) (c := x) (d := d) (n := n) with h1 | h1
    · exact .inl h1
    · exact .inr (by omega)
  edge := fun x d hx hd h0 => by
    unfold st at *
    obtain ⟨g, h1, h2, h3, h4, h5⟩ := step_open hn h0
    refine ⟨g, h3, ?_⟩
    unfold ends
    rw [h5, h4]
    rw [h4] at h0
    rcases Int.le_total x (nbI w h x d) with hl | hl
    · left
      rw [Int.min_eq_left hl, Int.max_eq_right hl]; rfl
    · right
      rw [Int.min_eq_right hl, Int.max_eq_left hl]; rfl
  lt := fun k hk => by
    have := ends_facts (lt_of_testBit hn hk)
    omega
  fwd := fun k hk => by
    have hkg := lt_of_testBit hn hk
    have hc := gapsN_cast w h
    obtain ⟨e1, e2, e3⟩ := ends_facts hkg
    obtain ⟨_, _, _, h4⟩ := end_facts (w := w) (h := h) (g := k) (by omega) (by omega)
    rw [e1] at h4
    simp only at h4
    have ho : openI n (k : Int) = true := by unfold openI; simp [hk]
    rcases h4 with ⟨a, b⟩ | ⟨a, b⟩
    · exact ⟨1, by omega, by unfold st stepI; rw [show ((1 : Nat) : Int) = 1 from rfl, b, if_pos ho, a]⟩
    · exact ⟨2, by omega, by unfold st stepI; rw [show ((2 : Nat) : Int) = 2 from rfl, b, if_pos ho, a]⟩
  bwd := fun k hk => by
    have hkg := lt_of_testBit hn hk
    have hc := gapsN_cast w h
    obtain ⟨e1, e2, e3⟩ := ends_facts hkg
    obtain ⟨_, _, _, h4⟩ := end_facts (w := w) (h := h) (g := k) (by omega) (by omega)
    rw [e1] at h4
    simp only at h4
    have ho : openI n (k : Int) = true := by unfold openI; simp [hk]
    rcases h4 with ⟨a, b⟩ | ⟨a, b⟩
    · rcases step_facts w h (ends w h k).1 1 with ⟨q, _⟩ | ⟨q1, q2, q3, q4, q5, q6, q7, q8⟩
      · omega
      · rw [a] at q7 q8
        exact ⟨3, by omega, by unfold st stepI; rw [show ((3 : Nat) : Int) = (1 + 2) % 4 from rfl, q8, b, if_pos ho, q7]⟩
    · rcases step_facts w h (ends w h k).1 2 with ⟨q, _⟩ | ⟨q1, q2, q3, q4, q5, q6, q7, q8⟩
      · omega
      · rw [a] at q7 q8
        exact ⟨0, by omega, by unfold st stepI; rw [show ((0 : Nat) : Int) = (2 + 2) % 4 from rfl, q8, b, if_pos ho, q7]⟩
/-- The distance from a cell, or -1. -/
def distN (w h : Int) (n s : Nat) : Nat → Int := bfsD (st w h n) (cellsN w h) s
theorem distN_dist {w h : Int} {n s : Nat} (hn : n < 2 ^ gapsN w h) (hs : s < cellsN w h) : Dist (st w h n) (cellsN w h) s (distN w h n s) := bfsD_dist (net_grid hn).rng hs
theorem distN_cn {w h : Int} {n s : Nat} (hn : n < 2 ^ gapsN w h) (hs : s < cellsN w h) (c : Nat) : 0 ≤ distN w h n s c ↔ Cn (ends w h) n s c := (distN_dist hn hs).cn (net_grid hn) c
theorem pop_full (n : Nat) : pop n (2 ^ n - 1) = n := by
  have : ∀ m, m ≤ n → pop m (2 ^ n - 1) = m := by
    intro m
    induction m with
    | zero => intro _; rfl
    | succ m ih =>
      intro h
      simp only [pop]
      rw [ih (by omega), Nat.testBit_two_pow_sub_one]
      simp
      omega
  exact this n (Nat.le_refl n)
end Go.Proofs.Ytcajhmldbkfhiaa.P
namespace Go.Proofs.Ytcajhmldbkfhiaa.P
open Go.RowKit Go.Proofs.YtcajhmldbkfhiaaW.PrintWords
set_option linter.unusedVariables false
set_option linter.unusedSimpArgs false

def dl (x y : Nat) : Int := if x = y then 1 else 0
/-- An edge as a vector over the vertices that stand for their parts, without the root. -/
def vg (l : Nat → Nat) (r : Nat) (e : Nat × Nat) (x : Nat) : Int := if x = r then 0 else dl x (l e.1) - dl x (l e.2)
section
variable {e : Nat → Nat × Nat} {E : Nat} {l : Nat → Nat} {r : Nat} {U : Nat → Bool} {g P Q : Nat}
variable (hl : ∀ x, l (l x) = l x) (hr : l r = r) (hg : g < E) (hU : U g = true) (hP : P = l (e g).1 ∧ Q = l (e g).2 ∨ P = l (e g).2 ∧ Q = l (e g).1) (hPQ : P ≠ Q)
include hl hr hg hU hP hPQ
end
end Go.Proofs.Ytcajhmldbkfhiaa.P
namespace Go.Proofs.Ytcajhmldbkfhiaa.P
open Go.RowKit Go.Proofs.YtcajhmldbkfhiaaW.PrintWords
set_option linter.unusedVariables false
set_option linter.unusedSimpArgs false

/-- One part, and no loop. -/
def perf (e : Nat → Nat × Nat) (V E t : Nat) : Bool := decide (parts e V E t = 1 ∧ pop E t + 1 = V)
theorem perf_iff {e : Nat → Nat × Nat} {V E t : Nat} : perf e V E t = true ↔ parts e V E t = 1 ∧ pop E t + 1 = V := by unfold perf; rw [decide_eq_true_eq]
theorem filter_head {p : Nat → Bool} {m v : Nat} (hm : m < v) (hp : p m = true) (h : ∀ i, i < m → p i = false) : ∃ t, (List.range v).filter p = m :: t := by
  obtain ⟨d, rfl⟩ : ∃ d, v = m + (d + 1) := ⟨v - m - 1, by omega⟩
  rw [List.range_add, List.filter_append]
  have h1 : (List.range m).filter p = [] := by
    rw [List.filter_eq_nil_iff]
    intro a ha
    rw [h a (List.mem_range.1 ha)]
    simp
  rw [h1, List.nil_append, List.range_succ_eq_map, List.map_cons, Nat.add_zero, List.filter_cons, if_pos hp]
  exact ⟨_, rfl⟩
/-- The cells that are reached, in ascending order. -/
def reachN (w h : Int) (n s : Nat) : List Nat := (List.range (cellsN w h)).filter fun c => decide (0 ≤ distN w h n s c)
/-- The least cell of the part of a cell. -/
def labN (w h : Int) (n c : Nat) : Nat := lab (ends w h) n (gapsN w h) c
theorem reachN_head {w h : Int} {n s : Nat} (hn : n < 2 ^ gapsN w h) (hs : s < cellsN w h) : ∃ t, reachN w h n s = labN w h n s :: t := by
  have hle := lab_le (ends w h) n (gapsN w h) s
  refine filter_head (show labN w h n s < cellsN w h by unfold labN; omega) ?_ ?_
  · rw [decide_eq_true_eq, distN_cn hn hs]
    exact lab_cn hn s
  · intro i hi
    rw [decide_eq_false_iff_not, distN_cn hn hs]
    intro hc
    have := lab_least hn hc
    unfold labN at hi
    omega
def partsN (w h : Int) (n : Nat) : Nat := parts (ends w h) (cellsN w h) (gapsN w h) n
def perfN (w h : Int) (n : Nat) : Bool := perf (ends w h) (cellsN w h) (gapsN w h) n
theorem cells_pos {w h : Int} (hg : gridOk w h = true) : 1 ≤ cellsN w h := by
  unfold cellsN cellsOf
  rw [if_pos hg]
  obtain ⟨h1 | h1 | h1 | h1, h2 | h2 | h2 | h2⟩ := grid_cases hg <;> subst h1 <;> subst h2 <;> decide
end Go.Proofs.Ytcajhmldbkfhiaa.P
namespace Go.Proofs.Ytcajhmldbkfhiaa.P
open Go.RowKit Go.Proofs.YtcajhmldbkfhiaaW.PrintWords
set_option linter.unusedVariables false
set_option linter.unusedSimpArgs false

def ints (q : List Nat) : List Int := q.map fun (x : Nat) => (x : Int)
theorem ints_length (q : List Nat) : (ints q).length = q.length := by simp [ints]
theorem ints_app (q : List Nat) (y : Nat) : ints (q ++ [y]) = ints q ++ [(y : Int)] := by simp [ints]
theorem rd_ints {q : List Nat} {i x : Nat} (h : q[i]? = some x) : rd (ints q) (i : Int) = x := by
  rw [rd_nat, List.getD_eq_getElem?_getD]
  simp [ints, h]
/-- A function on the numbers under v as a list. -/
def dlist (v : Nat) (D : Nat → Int) : List Int := (List.range v).map D
theorem dlist_length (v : Nat) (D : Nat → Int) : (dlist v D).length = v := by simp [dlist]
theorem rd_dlist {v : Nat} {D : Nat → Int} {c : Nat} (h : c < v) : rd (dlist v D) (c : Int) = D c := by
  rw [rd_get (by rw [dlist_length]; exact h)]
  simp [dlist]
theorem dlist_set {v : Nat} {D : Nat → Int} {y : Nat} {a : Int} (h : y < v) : (dlist v D).set y a = dlist v (upd D y a) := by
  refine List.ext_getElem (by simp [dlist]) fun i h1 h2 => ?_
  rw [List.getElem_set]
  simp only [dlist, upd, List.getElem_map, List.getElem_range]
  by_cases e : y = i
  · rw [if_pos e, if_pos e.symm]
  · rw [if_neg e, if_neg (fun e' => e e'.symm)]
/-- What is kept while the search goes on. -/
structure SI (v : Nat) (S : (Nat → Int) × List Nat) : Prop where
  le : ∀ c, S.1 c ≤ S.2.length
  low : ∀ c, -1 ≤ S.1 c
  lt : ∀ c ∈ S.2, c < v
theorem SI.relax {v : Nat} {s : Nat → Nat → Int} (hs : Rng s v) {S : (Nat → Int) × List Nat} (I : SI v S) {x d : Nat} (hx : x < v) (hd : d < 4) : SI v (relax s x d S) ∧ (relax s x d S).2.length ≤ S.2.length + 1 ∧ ∀ (i z : Nat), S.2[i]? = some z → (relax s x d S).2[i]? = some z := by
  unfold Go.Proofs.Ytcajhmldbkfhiaa.P.relax
  split
  · rename_i hc
    refine ⟨⟨fun c => ?_, fun c => ?_, fun c hcq => ?_⟩, by simp, fun i z hz => ?_⟩
    · have := I.le c
      have := I.le x
      show upd _ _ _ c ≤ _
      unfold upd
      simp only [List.length_append, List.length_singleton]
      split <;> omega
    · have := I.low c
      have := I.low x
      show _ ≤ upd _ _ _ c
      unfold upd
      split <;> omega
    · rcases List.mem_append.1 hcq with h | h
      · exact I.lt c h
      · simp at h
        have := hs x d hx hd
        omega
    · have hi := (List.getElem?_eq_some_iff.1 hz).1
      rw [List.getElem?_append_left hi]; exact hz
  · exact ⟨I, by omega, fun i z hz => hz⟩
def relaxL (s : Nat → Nat → Int) (x : Nat) : List Nat → (Nat → Int) × List Nat → (Nat → Int) × List Nat
  | [], S => S
  | d :: ds, S => relaxL s x ds (relax s x d S)
theorem relaxL_filter (s : Nat → Nat → Int) (x : Nat) : ∀ l S, relaxL s x (l.filter fun d => decide (0 ≤ s x d)) S = relaxL s x l S
  | [], S => rfl
  | d :: ds, S => by
    rw [List.filter_cons]
    by_cases h : 0 ≤ s x d
    · simp only [h, decide_true, if_true, relaxL]
      exact relaxL_filter s x ds _
    · simp only [h, decide_false, Bool.false_eq_true, if_false, relaxL]
      rw [relaxL_filter s x ds S, show relax s x d S = S from if_neg fun hc => h hc.1]
theorem bround_eq (s : Nat → Nat → Int) (x : Nat) (S : (Nat → Int) × List Nat) : bround s x S = relaxL s x [0, 1, 2, 3] S := rfl
theorem waysI_ints (w h : Int) (n c : Nat) : waysI w h n c = ints ([0, 1, 2, 3].filter fun d => decide (0 ≤ st w h n c d)) := by
  unfold waysI waysFrom st ints
  simp only [List.drop_zero, List.filter_cons, List.filter_nil]
  by_cases a : 0 ≤ stepI w h n c 0 <;> by_cases b : 0 ≤ stepI w h n c 1 <;> by_cases c' : 0 ≤ stepI w h n c 2 <;> by_cases d : 0 ≤ stepI w h n c 3 <;> simp [a, b, c', d]
section
variable {w h : Int} {n : Nat} (hg : gridOk w h = true) (hn : n < 2 ^ gapsN w h)
include hg hn
theorem impl_dist_l1 {x i : Nat} (W : List Nat) (hW : ∀ d ∈ W, d < 4 ∧ 0 ≤ st w h n x d) (hW4 : W.length ≤ 4) (res : List Int) :
    ∀ (e j : Nat) (S : (Nat → Int) × List Nat), j + e = W.length → SI (cellsN w h) S → S.2[i]? = some x → S.2.length ≤ 100 + j →
      (∀ S', S' = relaxL (st w h n) x (W.drop j) S → SI (cellsN w h) S' → Ev (fun k => impl_distances.l0 k (dlist (cellsN w h) S'.1) (ints S'.2) ((i + 1 : Nat) : Int) w h n) res) →
      Ev (fun k => impl_distances.l1 k (dlist (cellsN w h) S.1) (ints S.2) i (ints W) ((ints W).length : Int) j w h n) res
  | 0, j, S, hj, I, hx, hl, next => by
    have hi := (List.getElem?_eq_some_iff.1 hx).1
    refine Ev.step (fun _ => impl_distances.l1.eq_2 ..) (Ev.ff (by rw [ints_length]; omega) ?_)
    rw [wsucc (by omega)]
    exact next S (by rw [List.drop_eq_nil_of_le (by omega)]; rfl) I
  | e + 1, j, S, hj, I, hx, hl, next => by
    have hcast := cellsN_cast w h
    have hi := (List.getElem?_eq_some_iff.1 hx).1
    have hxv := I.lt x (List.mem_of_getElem? hx)
    have hjW : j < W.length := by omega
    obtain ⟨hd4, hd0⟩ := hW _ (List.getElem_mem hjW)
    have hdrop : W.drop j = W[j] :: W.drop (j + 1) := List.drop_eq_getElem_cons hjW
    have hwj : rd (ints W) (j : Int) = (W[j] : Nat) := rd_ints (List.getElem?_eq_getElem hjW)
    have hrng := (net_grid hn).rng x W[j] hxv hd4
    obtain ⟨y, hy⟩ : ∃ y : Nat, st w h n x W[j] = y := ⟨(st w h n x W[j]).toNat, by omega⟩
    have hyv : y < cellsN w h := by omega
    obtain ⟨I', hl', hk'⟩ := I.relax (net_grid hn).rng hxv hd4
    have ih := impl_dist_l1 W hW hW4 res e (j + 1) (relax (st w h n) x W[j] S) (by omega) I' (hk' i x hx) (by omega) (fun S' hS' I'' => next S' (by rw [hS', hdrop]; rfl) I'')
    refine Ev.step (fun _ => impl_distances.l1.eq_2 ..) ?_
    refine Ev.tt (by rw [ints_length]; omega) (Ev.tt (by omega) (Ev.tt (by rw [ints_length]; omega) (Ev.tt (by omega) (Ev.tt (by rw [ints_length]; omega) ?_))))
    rw [hwj, rd_ints hx]
    refine Ev.bind (impl_Step_ev hg hn x (W[j] : Nat)) ?_
    rw [show stepI w h n x (W[j] : Nat) = y from hy, wsucc (by omega)]
    refine Ev.tt (by omega) (Ev.tt (by rw [dlist_length]; omega) ?_)
    rw [rd_dlist hyv, rd_dlist hxv]
    refine Ev.ite (fun h1 => ?_) (fun h1 => ?_)
    · refine Ev.tt (by omega) (Ev.tt (by rw [dlist_length]; omega) (Ev.tt (by rw [ints_length]; omega) ?_))
      have hb1 := I.le x
      have hb2 : 0 ≤ S.1 x ∨ S.1 x < 0 := by omega
      have hrel : relax (st w h n) x W[j] S = (upd S.1 y (S.1 x + 1), S.2 ++ [y]) := by
        unfold relax
        rw [hy, Int.toNat_natCast, if_pos ⟨by omega, h1⟩]
      rw [hrel] at ih
      rw [Int.toNat_natCast, dlist_set hyv, ← ints_app]
      have := I.low x
      rw [wrap64_id (by omega) (by omega)]
      exact ih
    · have hrel : relax (st w h n) x W[j] S = S := by
        unfold relax
        rw [hy, Int.toNat_natCast, if_neg (fun hc => h1 hc.2)]
      rw [hrel] at ih
      exact ih
theorem impl_dist_l0 {src : Nat} (hs : src < cellsN w h) : ∀ (f i : Nat) (S : (Nat → Int) × List Nat), BInv (st w h n) (cellsN w h) src S i 0 → SI (cellsN w h) S → i ≤ S.2.length → cellsN w h + 1 - i ≤ f →
    Ev (fun k => impl_distances.l0 k (dlist (cellsN w h) S.1) (ints S.2) i w h n) (dlist (cellsN w h) (bfsF (st w h n) f S i))
  | 0, i, S, B, I, hi, hf => by have := B.len; omega
  | f + 1, i, S, B, I, hi, hf => by
    have h16 := cellsN_le w h
    have hlen := B.len
    refine Ev.step (fun _ => impl_distances.l0.eq_2 ..) ?_
    simp only [bfsF]
    cases hx : S.2[i]? with
    | none =>
      rw [List.getElem?_eq_none_iff] at hx
      exact Ev.ff (by rw [ints_length]; omega) (Ev.ret rfl)
    | some x =>
      have hil := (List.getElem?_eq_some_iff.1 hx).1
      have hxv := I.lt x (List.mem_of_getElem? hx)
      refine Ev.tt (by rw [ints_length]; omega) (Ev.tt (by omega) ?_)
      rw [rd_ints hx]
      refine Ev.bind (impl_Ways_ev hg hn _) ?_
      rw [waysI_ints]
      have hW : ∀ d ∈ ([0, 1, 2, 3].filter fun d => decide (0 ≤ st w h n x d)), d < 4 ∧ 0 ≤ st w h n x d := fun d hd => by
        rw [List.mem_filter] at hd
        refine ⟨?_, of_decide_eq_true hd.2⟩
        have := hd.1
        simp at this
        omega
      refine impl_dist_l1 hg hn (i := i) (x := x) _ hW (List.length_filter_le _ _) _ _ 0 S (Nat.zero_add _) I hx (by omega) (fun S' hS' I' => ?_)
      rw [List.drop_zero, relaxL_filter, ← bround_eq] at hS'
      subst hS'
      have B' := B.round (net_grid hn).rng hx
      refine impl_dist_l0 hs f (i + 1) _ B' I' ?_ (by omega)
      have h1 : ∀ m T, T.2.length ≤ (relax (st w h n) x m T).2.length := by
        intro m T
        unfold relax
        split <;> simp
      have := Nat.le_trans (h1 0 S) (Nat.le_trans (h1 1 _) (Nat.le_trans (h1 2 _) (h1 3 _)))
      show i + 1 ≤ (bround (st w h n) x S).2.length
      unfold bround
      omega
omit hg hn in
theorem SI.start {v src : Nat} (h : src < v) : SI v (upd (fun _ => -1) src 0, [src]) where
  le := fun c => by simp only [upd]; split <;> simp
  low := fun c => by simp only [upd]; split <;> omega
  lt := fun c hc => by simp at hc; omega
theorem impl_distances_ev {src : Nat} (hs : src < cellsN w h) : Ev (fun k => impl_distances.f k w h n src) (dlist (cellsN w h) (distN w h n src)) := by
  have h16 := cellsN_le w h
  have hcast := cellsN_cast w h
  unfold impl_distances.f
  refine Ev.bnd0 (impl_CountCells_eq w h) (Ev.bnd0 (a := dlist (cellsN w h) fun _ => -1) ?_ ?_)
  · unfold slices_Repeat_int_int.f
    rw [if_pos ⟨by simp, by omega, by omega⟩]
    congr 1
    refine List.ext_getElem (by simp [dlist]; omega) fun i h1 h2 => ?_
    simp [dlist, rd]
  · refine Ev.tt (by omega) (Ev.tt (by rw [dlist_length]; omega) ?_)
    rw [Int.toNat_natCast, dlist_set hs]
    exact impl_dist_l0 hg hn hs _ 0 _ (BInv.start hs) (SI.start hs) (by simp) (by omega)
end
end Go.Proofs.Ytcajhmldbkfhiaa.P
namespace Go.Proofs.Ytcajhmldbkfhiaa.P
open Go.RowKit Go.Proofs.YtcajhmldbkfhiaaW.PrintWords
set_option linter.unusedVariables false
set_option linter.unusedSimpArgs false

/-- i, i + 1, .. : d of them. -/
def run (i d : Nat) : List Int := (List.range d).map fun t => ((i + t : Nat) : Int)
theorem run_succ (i d : Nat) : run i (d + 1) = (i : Int) :: run (i + 1) d := by
  simp only [run, List.range_succ_eq_map, List.map_cons, List.map_map, Nat.add_zero]
  congr 1
  apply List.map_congr_left
  intro t _
  simp only [Function.comp, Nat.succ_eq_add_one]
  congr 1
  omega
theorem mem_run {i d : Nat} {x : Int} : x ∈ run i d ↔ (i : Int) ≤ x ∧ x < ((i + d : Nat) : Int) := by
  simp only [run, List.mem_map, List.mem_range]
  constructor
  · rintro ⟨t, ht, rfl⟩
    omega
  · intro ⟨h1, h2⟩
    exact ⟨(x - i).toNat, by omega, by omega⟩
theorem upTo_l0 (n : Nat) (hn : n ≤ 1000000) : ∀ (d i : Nat) (out : List Int), n - i = d → i ≤ n → out.length ≤ i → Ev (fun k => impl_upTo.l0 k n out i) (out ++ run i d)
  | 0, i, out, hd, hi, ho => by
    refine Ev.step (fun _ => impl_upTo.l0.eq_2 ..) (Ev.ff (by omega) (Ev.ret ?_))
    simp [run]
  | d + 1, i, out, hd, hi, ho => by
    refine Ev.step (fun _ => impl_upTo.l0.eq_2 ..) (Ev.tt (by omega) (Ev.tt (by omega) ?_))
    rw [wsucc (by omega), run_succ]
    have := upTo_l0 n hn d (i + 1) (out ++ [(i : Int)]) (by omega) (by omega) (by simp; omega)
    simpa using this
theorem impl_upTo_ev (n : Nat) (hn : n ≤ 1000000) : Ev (fun k => impl_upTo.f k n) (run 0 n) := by
  unfold impl_upTo.f
  have := upTo_l0 n hn n 0 [] (by omega) (by omega) (by simp)
  simpa using this
def p1 (x : Nat) : Nat := ((x / 2) &&& 6148914691236517205) + (x &&& 6148914691236517205)
def p2 (x : Nat) : Nat := ((x / 4) &&& 3689348814741910323) + (x &&& 3689348814741910323)
def p3 (x : Nat) : Nat := (x / 16 + x) &&& 1085102592571150095
theorem and_split {a m : Nat} (b M : Nat) (ha : a < 256) (hm : m < 256) : (256 * b + a) &&& (256 * M + m) = 256 * (b &&& M) + (a &&& m) := by
  apply Nat.eq_of_testBit_eq
  intro i
  have h1 := Nat.testBit_two_pow_mul_add b (i := 8) ha i
  have h2 := Nat.testBit_two_pow_mul_add M (i := 8) hm i
  have h3 := Nat.testBit_two_pow_mul_add (b &&& M) (i := 8) (b := a &&& m) (Nat.lt_of_le_of_lt Nat.and_le_left ha) i
  simp only [show (2 : Nat) ^ 8 = 256 from rfl] at h1 h2 h3
  rw [Nat.testBit_and, h1, h2, h3]
  split <;> simp [Nat.testBit_and]
theorem p1_split (b a : Nat) (ha : a < 256) : p1 (256 * b + a) = 256 * (((b / 2) &&& 24019198012642645) + (b &&& 24019198012642645)) + p1 a := by
  have e1 : (256 * b + a) / 2 = 256 * (b / 2) + (128 * (b % 2) + a / 2) := by omega
  have e2 : ∀ c, c < 2 → ∀ a, a < 256 → (128 * c + a / 2) &&& 85 = (a / 2) &&& 6148914691236517205 := by decide +kernel
  have e3 : ∀ a, a < 256 → a &&& 85 = a &&& 6148914691236517205 := by decide +kernel
  unfold p1
  rw [e1, show (6148914691236517205 : Nat) = 256 * 24019198012642645 + 85 from rfl, and_split _ _ (by omega) (by decide), and_split _ _ ha (by decide), ← show (6148914691236517205 : Nat) = 256 * 24019198012642645 + 85 from rfl, e2 _ (Nat.mod_lt _ (by decide)) a ha, e3 a ha]
  omega
theorem p2_split (b a : Nat) (ha : a < 256) : p2 (256 * b + a) = 256 * (((b / 4) &&& 14411518807585587) + (b &&& 14411518807585587)) + p2 a := by
  have e1 : (256 * b + a) / 4 = 256 * (b / 4) + (64 * (b % 4) + a / 4) := by omega
  have e2 : ∀ c, c < 4 → ∀ a, a < 256 → (64 * c + a / 4) &&& 51 = (a / 4) &&& 3689348814741910323 := by decide +kernel
  have e3 : ∀ a, a < 256 → a &&& 51 = a &&& 3689348814741910323 := by decide +kernel
  unfold p2
  rw [e1, show (3689348814741910323 : Nat) = 256 * 14411518807585587 + 51 from rfl, and_split _ _ (by omega) (by decide), and_split _ _ ha (by decide), ← show (3689348814741910323 : Nat) = 256 * 14411518807585587 + 51 from rfl, e2 _ (Nat.mod_lt _ (by decide)) a ha, e3 a ha]
  omega
theorem p3_split (b a : Nat) (ha : a < 72) (hb : b % 16 ≤ 4) : p3 (256 * b + a) = 256 * ((b / 16 + b) &&& 4238682002231055) + p3 a := by
  have e1 : (256 * b + a) / 16 + (256 * b + a) = 256 * (b / 16 + b) + (16 * (b % 16) + a / 16 + a) := by omega
  have e2 : ∀ c, c < 5 → ∀ a, a < 72 → (16 * c + a / 16 + a) &&& 15 = (a / 16 + a) &&& 1085102592571150095 := by decide +kernel
  unfold p3
  rw [e1, show (1085102592571150095 : Nat) = 256 * 4238682002231055 + 15 from rfl, and_split _ _ (by omega) (by decide), ← show (1085102592571150095 : Nat) = 256 * 4238682002231055 + 15 from rfl, e2 _ (by omega) a ha]
theorem byte : ∀ a, a < 256 → p1 a < 256 ∧ p1 a % 4 ≤ 2 ∧ p2 (p1 a) < 72 ∧ p2 (p1 a) % 16 ≤ 4 ∧ p3 (p2 (p1 a)) = pop 8 a := by decide +kernel
theorem and_low {b M : Nat} (hb : b < 65536) : b &&& M = b &&& (M % 65536) := by
  have h := Nat.and_mod_two_pow (a := b) (b := M) (n := 16)
  simp only [show (2 : Nat) ^ 16 = 65536 from rfl] at h
  rw [Nat.mod_eq_of_lt hb, Nat.mod_eq_of_lt (Nat.lt_of_le_of_lt Nat.and_le_left hb)] at h
  exact h
theorem p1_hi {b : Nat} (hb : b < 65536) : ((b / 2) &&& 24019198012642645) + (b &&& 24019198012642645) = p1 b := by
  unfold p1
  rw [and_low (show b / 2 < 65536 by omega), and_low hb, and_low (M := 6148914691236517205) (show b / 2 < 65536 by omega), and_low (M := 6148914691236517205) hb]
theorem p2_hi {b : Nat} (hb : b < 65536) : ((b / 4) &&& 14411518807585587) + (b &&& 14411518807585587) = p2 b := by
  unfold p2
  rw [and_low (show b / 4 < 65536 by omega), and_low hb, and_low (M := 3689348814741910323) (show b / 4 < 65536 by omega), and_low (M := 3689348814741910323) hb]
theorem p3_hi {b : Nat} (hb : b < 61680) : (b / 16 + b) &&& 4238682002231055 = p3 b := by
  unfold p3
  rw [and_low (show b / 16 + b < 65536 by omega), and_low (M := 1085102592571150095) (show b / 16 + b < 65536 by omega)]
theorem p3_three {a b c : Nat} (ha : a < 256) (hb : b < 256) (hc : c < 256) : p3 (p2 (p1 (256 * (256 * c + b) + a))) = 256 * (256 * pop 8 c + pop 8 b) + pop 8 a := by
  obtain ⟨a1, _, a2, a3, a4⟩ := byte a ha
  obtain ⟨b1, _, b2, b3, b4⟩ := byte b hb
  obtain ⟨c1, _, c2, c3, c4⟩ := byte c hc
  rw [p1_split _ _ ha, p1_hi (by omega), p1_split _ _ hb, p1_hi (by omega)]
  rw [p2_split _ _ a1, p2_hi (by omega), p2_split _ _ b1, p2_hi (by omega)]
  rw [p3_split _ _ a2 (by omega), p3_hi (by omega), p3_split _ _ b2 c3, p3_hi (by omega), a4, b4, c4]
theorem pop24 (a b c : Nat) (ha : a < 256) (hb : b < 256) (hc : c < 256) : pop 24 (256 * (256 * c + b) + a) = pop 8 a + pop 8 b + pop 8 c := by
  rw [show 24 = 8 + (8 + 8) from rfl, pop_add, pop_add, show (2 : Nat) ^ 8 = 256 from rfl, show (256 * (256 * c + b) + a) / 256 = 256 * c + b by omega, show (256 * c + b) / 256 = c by omega]
  rw [← pop_mod 8 (256 * (256 * c + b) + a), ← pop_mod 8 (256 * c + b), show (2 : Nat) ^ 8 = 256 from rfl, show (256 * (256 * c + b) + a) % 256 = a by omega, show (256 * c + b) % 256 = b by omega, Nat.add_assoc]
theorem u64_small {n : Nat} (h : n < 18446744073709551616) : IntKind.u64.wrap (n : Int) = n := by
  rw [IntKind.wrap_u64]; omega
theorem u64_and {a b : Nat} (ha : a < 9223372036854775808) (hb : b < 9223372036854775808) : Go.bits .and .u64 a b = ((a &&& b : Nat) : Int) :=
  (bits_nat .u64 63 (by decide) (fun n h0 h1 => by rw [IntKind.wrap_u64]; omega) a b (by simpa using ha) (by simpa using hb)).1
def s1 (a : Int) : Int := IntKind.u64.wrap ((Go.bits .and .u64 (a / 2) 6148914691236517205) + (Go.bits .and .u64 a 6148914691236517205))
def s2 (a : Int) : Int := IntKind.u64.wrap ((Go.bits .and .u64 (a / 4) 3689348814741910323) + (Go.bits .and .u64 a 3689348814741910323))
def s3 (a : Int) : Int := Go.bits .and .u64 (IntKind.u64.wrap (a / 16 + a)) 1085102592571150095
def s4 (a : Int) : Int := IntKind.u64.wrap (a + a / 256)
def s5 (a : Int) : Int := IntKind.u64.wrap (a + a / 65536)
def s6 (a : Int) : Int := IntKind.u64.wrap (a + a / 4294967296)
theorem ones_steps (a : Int) : bits_OnesCount.f a = some (Go.bits .and .i64 (wrap64 (s6 (s5 (s4 (s3 (s2 (s1 a))))))) 127) := rfl
theorem s1_nat {a : Nat} (h : a < 16777216) : s1 (a : Int) = (p1 a : Int) := by
  unfold s1 p1
  rw [show ((a : Int) / 2) = ((a / 2 : Nat) : Int) by omega, show (6148914691236517205 : Int) = ((6148914691236517205 : Nat) : Int) from rfl, u64_and (by omega) (by decide), u64_and (by omega) (by decide)]
  have h1 : (a / 2 &&& 6148914691236517205) ≤ a / 2 := Nat.and_le_left
  have h2 : (a &&& 6148914691236517205) ≤ a := Nat.and_le_left
  rw [← Int.natCast_add, u64_small (by omega)]
theorem s2_nat {a : Nat} (h : a < 67108864) : s2 (a : Int) = (p2 a : Int) := by
  unfold s2 p2
  rw [show ((a : Int) / 4) = ((a / 4 : Nat) : Int) by omega, show (3689348814741910323 : Int) = ((3689348814741910323 : Nat) : Int) from rfl, u64_and (by omega) (by decide), u64_and (by omega) (by decide)]
  have h1 : (a / 4 &&& 3689348814741910323) ≤ a / 4 := Nat.and_le_left
  have h2 : (a &&& 3689348814741910323) ≤ a := Nat.and_le_left
  rw [← Int.natCast_add, u64_small (by omega)]
theorem s3_nat {a : Nat} (h : a < 268435456) : s3 (a : Int) = (p3 a : Int) := by
  unfold s3 p3
  rw [show ((a : Int) / 16 + a) = ((a / 16 + a : Nat) : Int) by omega, u64_small (by omega), show (1085102592571150095 : Int) = ((1085102592571150095 : Nat) : Int) from rfl, u64_and (by omega) (by decide)]
/-- The library's count of bits. -/
theorem ones_eq {s : Nat} (h : s < 16777216) : bits_OnesCount.f (s : Int) = some (pop 24 s : Int) := by
  rw [ones_steps]
  have h1 : p1 s < 67108864 := by
    unfold p1
    have h1 : (s / 2 &&& 6148914691236517205) ≤ s / 2 := Nat.and_le_left
    have h2 : (s &&& 6148914691236517205) ≤ s := Nat.and_le_left
    omega
  have h2 : p2 (p1 s) < 268435456 := by
    unfold p2
    have h3 : (p1 s / 4 &&& 3689348814741910323) ≤ p1 s / 4 := Nat.and_le_left
    have h4 : (p1 s &&& 3689348814741910323) ≤ p1 s := Nat.and_le_left
    omega
  rw [s1_nat h, s2_nat h1, s3_nat h2]
  obtain ⟨a, b, c, ha, hb, hc, rfl⟩ : ∃ a b c, a < 256 ∧ b < 256 ∧ c < 256 ∧ s = 256 * (256 * c + b) + a := ⟨s % 256, s / 256 % 256, s / 65536, by omega, by omega, by omega, by omega⟩
  rw [p3_three ha hb hc, pop24 _ _ _ ha hb hc]
  have qa := pop_le 8 a
  have qb := pop_le 8 b
  have qc := pop_le 8 c
  generalize pop 8 a = x at *
  generalize pop 8 b = y at *
  generalize pop 8 c = z at *
  have e4 : s4 ((256 * (256 * z + y) + x : Nat) : Int) = ((65536 * z + 256 * (y + z) + (x + y) : Nat) : Int) := by
    unfold s4
    rw [show (((256 * (256 * z + y) + x : Nat) : Int) + ((256 * (256 * z + y) + x : Nat) : Int) / 256) = ((65536 * z + 256 * (y + z) + (x + y) : Nat) : Int) by omega, u64_small (by omega)]
  have e5 : s5 ((65536 * z + 256 * (y + z) + (x + y) : Nat) : Int) = ((65536 * z + 256 * (y + z) + (x + y + z) : Nat) : Int) := by
    unfold s5
    rw [show (((65536 * z + 256 * (y + z) + (x + y) : Nat) : Int) + ((65536 * z + 256 * (y + z) + (x + y) : Nat) : Int) / 65536) = ((65536 * z + 256 * (y + z) + (x + y + z) : Nat) : Int) by omega, u64_small (by omega)]
  have e6 : s6 ((65536 * z + 256 * (y + z) + (x + y + z) : Nat) : Int) = ((65536 * z + 256 * (y + z) + (x + y + z) : Nat) : Int) := by
    unfold s6
    rw [show (((65536 * z + 256 * (y + z) + (x + y + z) : Nat) : Int) + ((65536 * z + 256 * (y + z) + (x + y + z) : Nat) : Int) / 4294967296) = ((65536 * z + 256 * (y + z) + (x + y + z) : Nat) : Int) by omega, u64_small (by omega)]
  rw [e4, e5, e6, wrap64_id (by omega) (by omega), show (127 : Int) = ((127 : Nat) : Int) from rfl, bits_and (by omega) (by decide)]
  congr 2
  rw [show (127 : Nat) = 2 ^ 7 - 1 from rfl, Nat.and_two_pow_sub_one_eq_mod]
  omega
theorem ones_eq' {n s : Nat} (hn : n ≤ 24) (h : s < 2 ^ n) : bits_OnesCount.f (s : Int) = some (pop n s : Int) := by
  rw [ones_eq (Nat.lt_of_lt_of_le h (Nat.pow_le_pow_right (by decide) hn)), pop_big h hn]
end Go.Proofs.Ytcajhmldbkfhiaa.P
namespace Go.Proofs.Ytcajhmldbkfhiaa.P
open Go.RowKit Go.Proofs.YtcajhmldbkfhiaaW.PrintWords Go.Proofs.YtcajhmldbkfhiaaW.PrintLast Go.Proofs.YtcajhmldbkfhiaaW.PrintMore
attribute [local go_sem] max2_int min2_int max_two min_two max_three min_three max_four min_four   -- for this text's walks alone
set_option linter.unusedVariables false
set_option linter.unusedSimpArgs false

/-! ### impl_DistanceOf: function 144 -/
/-! ### spec_DistanceOf: function 99 -/
end Go.Proofs.Ytcajhmldbkfhiaa.P
namespace Go.Proofs.Ytcajhmldbkfhiaa.P
open Go.RowKit Go.Proofs.YtcajhmldbkfhiaaW.PrintWords
set_option linter.unusedVariables false
set_option linter.unusedSimpArgs false

theorem run_zero (v : Nat) : run 0 v = ints (List.range v) := by
  unfold run ints
  exact List.map_congr_left fun t _ => by omega
theorem isCellI_nat {w h : Int} {c : Nat} (hc : c < cellsN w h) : isCellI w h c = true := by
  have := cellsN_cast w h
  unfold isCellI
  rw [decide_eq_true_eq]; omega
section
variable {w h : Int} {n : Nat} (hg : gridOk w h = true) (hn : n < 2 ^ gapsN w h)
include hg hn
theorem mazeOk_nat : mazeOk w h n = true := mazeOk_iff.2 ⟨hg, n, rfl, hn⟩
theorem impl_Reached_ev {s : Nat} (hs : s < cellsN w h) : Ev (fun k => impl_Reached.f k w h n s) (ints (reachN w h n s)) := by
  have h16 := cellsN_le w h
  unfold impl_Reached.f
  refine Ev.bnd0 (impl_isIn_one w h n s) (Ev.tt (by rw [mazeOk_nat hg hn, isCellI_nat hs]; rfl) ?_)
  refine Ev.bind (impl_distances_ev hg hn hs) ?_
  rw [dlist_length]
  refine Ev.bind (impl_upTo_ev _ (by omega)) (Ev.tt ?_ (Ev.ret ?_))
  · rw [List.all_eq_true]
    intro c hc
    have := mem_run.1 hc
    rw [decide_eq_true_eq]
    omega
  · rw [run_zero]
    unfold reachN ints
    rw [List.filter_map]
    congr 1
    refine List.filter_congr fun c hc => ?_
    rw [List.mem_range] at hc
    simp only [Function.comp]
    rw [rd_dlist hc]
    by_cases h1 : distN w h n s c < 0
    · rw [decide_eq_true h1, decide_eq_false (show ¬ 0 ≤ distN w h n s c by omega)]; rfl
    · rw [decide_eq_false h1, decide_eq_true (show 0 ≤ distN w h n s c by omega)]; rfl
omit hg hn in
theorem head_is {s : Nat} (hn : n < 2 ^ gapsN w h) (hs : s < cellsN w h) : 0 < ((ints (reachN w h n s)).length : Int) ∧ rd (ints (reachN w h n s)) 0 = labN w h n s := by
  obtain ⟨t, ht⟩ := reachN_head hn hs
  rw [ht]
  exact ⟨by simp [ints], rfl⟩
theorem impl_parts_l0 : ∀ (d c m : Nat), c + d = cellsN w h → m ≤ c → Ev (fun k => impl_CountParts.l0 k m c w h n) (((m + (cnt (fun i => labN w h n i == i) (cellsN w h) - cnt (fun i => labN w h n i == i) c) : Nat)) : Int)
  | 0, c, m, hd, hm => by
    have hcast := cellsN_cast w h
    refine Ev.step (fun _ => impl_CountParts.l0.eq_2 ..) (Ev.bnd0 (impl_isIn_one w h n c) (Ev.ff ?_ (Ev.ret ?_)))
    · have : isCellI w h c = false := by unfold isCellI; rw [decide_eq_false_iff_not]; omega
      rw [this]; simp
    · rw [show c = cellsN w h by omega, Nat.sub_self, Nat.add_zero]
  | d + 1, c, m, hd, hm => by
    have h16 := cellsN_le w h
    have hcv : c < cellsN w h := by omega
    obtain ⟨e1, e2⟩ := head_is hn hcv
    refine Ev.step (fun _ => impl_CountParts.l0.eq_2 ..) (Ev.bnd0 (impl_isIn_one w h n c) (Ev.tt (by rw [mazeOk_nat hg hn, isCellI_nat hcv]; rfl) ?_))
    refine Ev.bind (impl_Reached_ev hg hn hcv) (Ev.tt e1 ?_)
    rw [e2, wsucc (by omega), wsucc (by omega)]
    have hle : cnt (fun i => labN w h n i == i) (c + 1) ≤ cnt (fun i => labN w h n i == i) (cellsN w h) := by
      obtain ⟨x, hx⟩ := Nat.exists_eq_add_of_le (show c + 1 ≤ cellsN w h by omega)
      rw [hx]
      have : ∀ x, cnt (fun i => labN w h n i == i) (c + 1) ≤ cnt (fun i => labN w h n i == i) (c + 1 + x) := by
        intro x
        induction x with
        | zero => exact Nat.le_refl _
        | succ x ih => rw [← Nat.add_assoc]; simp only [cnt]; simp only [cnt] at ih; omega
      exact this x
    simp only [cnt] at hle
    refine Ev.ite (fun h1 => ?_) (fun h1 => ?_)
    · refine Ev.eq (impl_parts_l0 d (c + 1) (m + 1) (by omega) (by omega)) ?_
      have : (labN w h n c == c) = true := by rw [beq_iff_eq]; omega
      simp only [cnt, this, Bool.toNat_true] at hle ⊢
      omega
    · refine Ev.eq (impl_parts_l0 d (c + 1) m (by omega) (by omega)) ?_
      have : (labN w h n c == c) = false := by rw [beq_eq_false_iff_ne]; omega
      simp only [cnt, this, Bool.toNat_false] at hle ⊢
      omega
theorem impl_CountParts_ev : Ev (fun k => impl_CountParts.f k w h n) (partsN w h n : Int) := by
  unfold impl_CountParts.f
  refine Ev.eq (impl_parts_l0 hg hn (cellsN w h) 0 0 (by omega) (by omega)) ?_
  simp only [cnt, Nat.zero_add, Nat.sub_zero]
  rfl
end
theorem impl_CountParts_bad {w h o : Int} (hm : mazeOk w h o = false) : Ev (fun k => impl_CountParts.f k w h o) 0 := by
  unfold impl_CountParts.f
  exact Ev.step (fun _ => impl_CountParts.l0.eq_2 ..) (Ev.bnd0 (impl_isIn_one w h o 0) (Ev.ff (by rw [hm]; simp) (Ev.ret rfl)))
end Go.Proofs.Ytcajhmldbkfhiaa.P
namespace Go.Proofs.Ytcajhmldbkfhiaa.P
open Go.RowKit Go.Proofs.YtcajhmldbkfhiaaW.PrintWords Go.Proofs.YtcajhmldbkfhiaaW.PrintLast Go.Proofs.YtcajhmldbkfhiaaW.PrintMore
attribute [local go_sem] max2_int min2_int max_two min_two max_three min_three max_four min_four   -- for this text's walks alone
set_option linter.unusedVariables false
set_option linter.unusedSimpArgs false

/-! ### spec_IsPerfect: function 46 -/
end Go.Proofs.Ytcajhmldbkfhiaa.P
namespace Go.Proofs.Ytcajhmldbkfhiaa.P
open Go.RowKit Go.Proofs.YtcajhmldbkfhiaaW.PrintWords
set_option linter.unusedVariables false
set_option linter.unusedSimpArgs false

section
variable {w h : Int} {n : Nat} (hg : gridOk w h = true) (hn : n < 2 ^ gapsN w h)
include hg hn
theorem impl_CountPassages_eq : impl_CountPassages.f w h n = some (pop (gapsN w h) n : Int) := by
  have hs := open_small hn
  unfold impl_CountPassages.f
  rw [impl_MazeOk_eq, Option.bind_some, if_pos (mazeOk_nat hg hn), u64_small (by omega), ones_eq' (gapsN_le w h) hn, Option.bind_some]
omit hn in
theorem perf_value : (if (decide (((partsN w h n : Nat) : Int) = 1)) = true then decide (((pop (gapsN w h) n : Nat) : Int) = wrap64 (cellsOf w h - 1)) else false) = perfN w h n := by
  have h16 := cellsN_le w h
  have hpos := cells_pos hg
  have hcast := cellsN_cast w h
  have hpop := pop_le (gapsN w h) n
  rw [wrap64_id (by omega) (by omega)]
  unfold perfN perf
  by_cases h1 : partsN w h n = 1
  · have h1' := h1
    unfold partsN at h1'
    rw [h1, h1']
    simp only [Int.natCast_one, decide_true, if_true, true_and]
    rw [decide_eq_decide]
    omega
  · have h1' := h1
    unfold partsN at h1'
    rw [if_neg (by simp; omega)]
    symm
    rw [decide_eq_false_iff_not]
    exact fun h2 => h1' h2.1
theorem impl_IsPerfect_ev : Ev (fun k => impl_IsPerfect.f k w h n) (perfN w h n) := by
  unfold impl_IsPerfect.f impl_IsConnected.f
  rw [← perf_value hg]
  refine Ev.bind (Ev.bind (impl_CountParts_ev hg hn) (Ev.ret rfl)) ?_
  refine Ev.ite (fun h1 => Ev.bnd0 (impl_CountPassages_eq hg hn) (Ev.bnd0 (impl_CountCells_eq w h) (Ev.ret ?_))) (fun h1 => Ev.ret ?_)
  · rw [if_pos (by simpa using h1)]
    rw [Bool.eq_iff_iff]
    simp
  · rw [if_neg (by simpa using h1)]
end
/-- A perfect maze, for all arguments. -/
def perfI (w h o : Int) : Bool := mazeOk w h o && perfN w h o.toNat
theorem impl_IsPerfect_all (w h o : Int) : Ev (fun k => impl_IsPerfect.f k w h o) (perfI w h o) := by
  unfold perfI
  by_cases hm : mazeOk w h o = true
  · obtain ⟨hg, n, rfl, hn⟩ := mazeOk_iff.1 hm
    rw [hm]
    exact impl_IsPerfect_ev hg hn
  · rw [Bool.eq_false_iff.2 hm]
    unfold impl_IsPerfect.f impl_IsConnected.f
    exact Ev.bind (Ev.bind (impl_CountParts_bad (Bool.eq_false_iff.2 hm)) (Ev.ret rfl)) (Ev.ff (by decide) (Ev.ret rfl))
theorem perfI_iff {w h o : Int} : perfI w h o = true ↔ gridOk w h = true ∧ ∃ n : Nat, o = (n : Int) ∧ n < 2 ^ gapsN w h ∧ perfN w h n = true := by
  unfold perfI
  rw [Bool.and_eq_true, mazeOk_iff]
  constructor
  · rintro ⟨⟨h1, n, rfl, h2⟩, h3⟩; exact ⟨h1, n, rfl, h2, h3⟩
  · rintro ⟨h1, n, rfl, h2, h3⟩; exact ⟨⟨h1, n, rfl, h2⟩, h3⟩
end Go.Proofs.Ytcajhmldbkfhiaa.P
namespace Go.Proofs.Ytcajhmldbkfhiaa.P
open Go.RowKit Go.Proofs.YtcajhmldbkfhiaaW.PrintWords
set_option linter.unusedVariables false
set_option linter.unusedSimpArgs false

theorem impl_with_eq (w h : Int) {n : Nat} (hn : n < 16777216) {g : Nat} (hg : g < 24) (b : Bool) : impl_with.f w h n g b = some (w, h, ((setB n g b : Nat) : Int)) := by
  have hp : 2 ^ g ≤ 2 ^ 24 := Nat.pow_le_pow_right (by decide) (by omega)
  unfold impl_with.f
  rw [if_pos (by omega), shl_pow (by omega), bits_andNot (by omega) (by omega)]
  cases b
  · rw [if_neg (by decide)]
    rfl
  · rw [if_pos rfl, bits_or (by have := andNot_le n (2 ^ g); omega) (by omega)]
    have e : andNot n (2 ^ g) ||| 2 ^ g = setB n g true := by
      apply Nat.eq_of_testBit_eq
      intro i
      rw [testBit_setB, Nat.testBit_or, testBit_andNot, Nat.testBit_two_pow]
      by_cases h : i = g
      · simp [h]
      · simp [h, show ¬ g = i from fun e => h e.symm]
    rw [e]
end Go.Proofs.Ytcajhmldbkfhiaa.P
namespace Go.Proofs.Ytcajhmldbkfhiaa.P
open Go.RowKit Go.Proofs.YtcajhmldbkfhiaaW.PrintWords Go.Proofs.YtcajhmldbkfhiaaW.PrintLast Go.Proofs.YtcajhmldbkfhiaaW.PrintMore
attribute [local go_sem] max2_int min2_int max_two min_two max_three min_three max_four min_four   -- for this text's walks alone
set_option linter.unusedVariables false
set_option linter.unusedSimpArgs false

/-! ### spec_SetGap: function 98 -/
/-! ### spec_l07In: function 62 -/
end Go.Proofs.Ytcajhmldbkfhiaa.P
namespace Go.Proofs.Ytcajhmldbkfhiaa.P
open Go.RowKit Go.Proofs.YtcajhmldbkfhiaaW.PrintWords
set_option linter.unusedVariables false
set_option linter.unusedSimpArgs false

theorem contains_ev (l : List Int) (x : Int) (hl : l.length ≤ 1048576) : Ev (fun k => slices_Contains_int_int.f k l x) (decide (x ∈ l)) := by
  unfold slices_Contains_int_int.f
  refine Ev.bind (index_ev l x (by omega)) (Ev.ret ?_)
  by_cases h : x ∈ l
  · rw [if_pos h, decide_eq_true h, decide_eq_true (by omega)]
  · rw [if_neg h, decide_eq_false h, decide_eq_false (by omega)]
/-- Each cell of a way but the last has its step. -/
theorem wk_steps {s : Int → Int → Int} : ∀ {way : List Int} {c : Int} {l : List Int}, wk s c way = some l → ∀ i : Nat, (h1 : i < way.length) → 0 ≤ s (rd (c :: l) i) way[i]
  | [], c, l, h, i, h1 => absurd h1 (by simp)
  | d :: ds, c, l, h, i, h1 => by
    unfold wk at h
    by_cases e : s c d < 0
    · rw [if_pos e] at h; cases h
    · rw [if_neg e] at h
      obtain ⟨l', h', rfl⟩ := Option.map_eq_some_iff.1 h
      cases i with
      | zero =>
        show 0 ≤ s (rd (c :: _) ((0 : Nat) : Int)) d
        rw [rd_get (by simp)]
        simp only [List.getElem_cons_zero]
        omega
      | succ j =>
        have := wk_steps h' j (by simpa using h1)
        rw [rd_get (by have := wk_len h'; simp only [List.length_cons] at h1 ⊢; omega)] at this ⊢
        simpa using this
section
variable {w h : Int} {n : Nat}
/-- The gap of the i-th step. -/
def gapW (w h : Int) (L way : List Int) (i : Nat) : Nat := (gapI w h (rd L (i : Int)) (rd way (i : Int))).toNat
def enFrom (w h : Int) (q : Nat → Bool) (L way : List Int) : Nat → Nat → Nat → Nat
  | 0, _, o => o
  | e + 1, i, o => enFrom w h q L way e (i + 1) (if q i = true then o else setB o (gapW w h L way i) true)
def WayOk (w h : Int) (L way : List Int) : Prop := L.length = way.length + 1 ∧ way.length ≤ 400 ∧ ∀ i : Nat, i < way.length → gapW w h L way i < gapsN w h ∧ ((gapW w h L way i : Nat) : Int) = gapI w h (rd L (i : Int)) (rd way (i : Int))
theorem wayOk {c : Int} {way : List Int} (h0 : (cellsN' w h n c way).length ≠ 0) : WayOk w h (cellsN' w h n c way) way := by
  unfold cellsN' at h0 ⊢
  by_cases e : isCellI w h c = true ∧ way.length ≤ 400
  · rw [if_pos e] at h0 ⊢
    cases hk : wk (stepI w h n) c way with
    | none => rw [hk] at h0; exact absurd rfl h0
    | some l =>
      refine ⟨by have := wk_len hk; simp only [List.length_cons]; omega, e.2, fun i hi => ?_⟩
      have hs := wk_steps hk i hi
      have hgc := gapsN_cast w h
      unfold gapW
      show (gapI w h (rd (c :: l) i) (rd way i)).toNat < gapsN w h ∧ (((gapI w h (rd (c :: l) i) (rd way i)).toNat : Nat) : Int) = gapI w h (rd (c :: l) i) (rd way i)
      rw [rd_get hi]
      unfold stepI at hs
      rcases step_facts w h (rd (c :: l) i) way[i] with ⟨f1, f2⟩ | ⟨f1, f2, f3, f4, f5, _⟩
      · rw [f2] at hs
        simp [openI] at hs
      · omega
  · rw [if_neg e] at h0
    exact absurd rfl h0
theorem enStep_lt {q : Nat → Bool} {L way : List Int} (hW : WayOk w h L way) {i o : Nat} (hi : i < way.length) (ho : o < 2 ^ gapsN w h) : (if q i = true then o else setB o (gapW w h L way i) true) < 2 ^ gapsN w h := by
  split
  · exact ho
  · exact setB_lt _ ho (hW.2.2 i hi).1
def qF (L : List Int) (i : Nat) : Bool := decide (rd L ((i + 1 : Nat) : Int) ∈ L.take (i + 1))
def qL (L : List Int) (i : Nat) : Bool := decide (rd L (i : Int) ∈ L.drop (i + 1))
/-- The maze and whether it is perfect. -/
def enR (w h : Int) (q : Nat → Bool) (L way : List Int) : Int × Int × Int × Bool := (w, h, ((enFrom w h q L way way.length 0 0 : Nat) : Int), perfI w h ((enFrom w h q L way way.length 0 0 : Nat) : Int))
end
end Go.Proofs.Ytcajhmldbkfhiaa.P
namespace Go.Proofs.Ytcajhmldbkfhiaa.P
open Go.RowKit Go.Proofs.YtcajhmldbkfhiaaW.PrintWords
set_option linter.unusedVariables false
set_option linter.unusedSimpArgs false

section
variable {w h : Int} {n : Nat}
theorem impl_First_l0 {L way : List Int} (hW : WayOk w h L way) : ∀ (e i o : Nat), i + e = way.length → o < 2 ^ gapsN w h →
    Ev (fun k => impl_FirstEntryMaze.l0 k L way way.length i w h w h o) (w, h, ((enFrom w h (qF L) L way e i o : Nat) : Int), perfI w h ((enFrom w h (qF L) L way e i o : Nat) : Int))
  | 0, i, o, he, ho => by
    refine Ev.step (fun _ => impl_FirstEntryMaze.l0.eq_2 ..) (Ev.ff (by omega) ?_)
    exact Ev.bind (impl_IsPerfect_all ..) (Ev.ret rfl)
  | e + 1, i, o, he, ho => by
    obtain ⟨hl, hw, hgp⟩ := hW
    have hgn := gapsN_le w h
    obtain ⟨g1, g2⟩ := hgp i (by omega)
    have ih := impl_First_l0 ⟨hl, hw, hgp⟩ e (i + 1) (if qF L i = true then o else setB o (gapW w h L way i) true) (by omega) (enStep_lt ⟨hl, hw, hgp⟩ (by omega) ho)
    refine Ev.step (fun _ => impl_FirstEntryMaze.l0.eq_2 ..) ?_
    rw [wsucc (by omega)]
    refine Ev.tt (by omega) (Ev.tt (by omega) (Ev.tt (by omega) (Ev.tt (by omega) (Ev.tt (by omega) (Ev.tt (by omega) ?_)))))
    simp only [Int.toNat_natCast]
    refine Ev.bind (contains_ev _ _ (by rw [List.length_take]; omega)) ?_
    refine Ev.ite (fun e1 => ?_) (fun e1 => ?_)
    · rw [if_pos (show qF L i = true from e1)] at ih
      exact Ev.eq ih (by conv => rhs; unfold enFrom; rw [if_pos (show qF L i = true from e1)])
    · rw [if_neg (show ¬ qF L i = true from e1)] at ih
      refine Ev.tt (by omega) (Ev.bind (impl_GapAt_ev ..) ?_)
      rw [← g2]
      refine Ev.bnd0 (impl_with_eq w h (open_small ho) (by omega) true) (Ev.eq ih ?_)
      conv => rhs; unfold enFrom
      rw [if_neg (show ¬ qF L i = true from e1)]
end
end Go.Proofs.Ytcajhmldbkfhiaa.P
namespace Go.Proofs.Ytcajhmldbkfhiaa.P
open Go.RowKit Go.Proofs.YtcajhmldbkfhiaaW.PrintWords
set_option linter.unusedVariables false
set_option linter.unusedSimpArgs false

section
variable {w h : Int} {n : Nat}
theorem impl_Last_l0 {L way : List Int} (hW : WayOk w h L way) : ∀ (e i o : Nat), i + e = way.length → o < 2 ^ gapsN w h →
    Ev (fun k => impl_LastExitMaze.l0 k L way way.length i w h w h o) (w, h, ((enFrom w h (qL L) L way e i o : Nat) : Int), perfI w h ((enFrom w h (qL L) L way e i o : Nat) : Int))
  | 0, i, o, he, ho => by
    refine Ev.step (fun _ => impl_LastExitMaze.l0.eq_2 ..) (Ev.ff (by omega) ?_)
    exact Ev.bind (impl_IsPerfect_all ..) (Ev.ret rfl)
  | e + 1, i, o, he, ho => by
    obtain ⟨hl, hw, hgp⟩ := hW
    have hgn := gapsN_le w h
    obtain ⟨g1, g2⟩ := hgp i (by omega)
    have ih := impl_Last_l0 ⟨hl, hw, hgp⟩ e (i + 1) (if qL L i = true then o else setB o (gapW w h L way i) true) (by omega) (enStep_lt ⟨hl, hw, hgp⟩ (by omega) ho)
    refine Ev.step (fun _ => impl_LastExitMaze.l0.eq_2 ..) ?_
    rw [wsucc (by omega)]
    refine Ev.tt (by omega) (Ev.tt (by omega) (Ev.tt (by omega) (Ev.tt (by omega) (Ev.tt (by omega) (Ev.tt (by omega) ?_)))))
    simp only [Int.toNat_natCast]
    refine Ev.bind (contains_ev _ _ (by rw [List.length_drop]; omega)) ?_
    refine Ev.ite (fun e1 => ?_) (fun e1 => ?_)
    · rw [if_pos (show qL L i = true from e1)] at ih
      exact Ev.eq ih (by conv => rhs; unfold enFrom; rw [if_pos (show qL L i = true from e1)])
    · rw [if_neg (show ¬ qL L i = true from e1)] at ih
      refine Ev.bind (impl_GapAt_ev ..) ?_
      rw [← g2]
      refine Ev.bnd0 (impl_with_eq w h (open_small ho) (by omega) true) (Ev.eq ih ?_)
      conv => rhs; unfold enFrom
      rw [if_neg (show ¬ qL L i = true from e1)]
end
end Go.Proofs.Ytcajhmldbkfhiaa.P
namespace Go.Proofs.Ytcajhmldbkfhiaa.P
open Go.RowKit Go.Proofs.YtcajhmldbkfhiaaW.PrintWords
set_option linter.unusedVariables false
set_option linter.unusedSimpArgs false

/-- The gap to the east of the cell in column a and row b, and the gap to the south. -/
def eG (W b a : Nat) : Nat := b * (W - 1) + a
def sG (W H b a : Nat) : Nat := (W - 1) * H + (b * W + a)
/-- The gaps that lie inside a room: columns x .. x + rw - 1, rows y .. y + rh - 1. -/
def Inn (W H x y rw rh g : Nat) : Prop :=
  (∃ a b, x ≤ a ∧ a + 1 < x + rw ∧ y ≤ b ∧ b < y + rh ∧ g = eG W b a) ∨ (∃ a b, x ≤ a ∧ a < x + rw ∧ y ≤ b ∧ b + 1 < y + rh ∧ g = sG W H b a)
theorem Inn.mono {W H x y rw rh x' y' rw' rh' g : Nat} (h1 : x' ≤ x) (h2 : x + rw ≤ x' + rw') (h3 : y' ≤ y) (h4 : y + rh ≤ y' + rh') (h : Inn W H x y rw rh g) : Inn W H x' y' rw' rh' g := by
  rcases h with ⟨a, b, p, q, r, s, e⟩ | ⟨a, b, p, q, r, s, e⟩
  · exact .inl ⟨a, b, by omega, by omega, by omega, by omega, e⟩
  · exact .inr ⟨a, b, by omega, by omega, by omega, by omega, e⟩
section
variable {W H : Nat} (hW : W < 5) (hH : H < 5)
include hW hH
end
theorem setB_on {n j : Nat} (h : n.testBit j = true) : setB n j true = n := by
  apply Nat.eq_of_testBit_eq
  intro i
  rw [testBit_setB]
  split
  · rename_i e; rw [e, h]
  · rfl
/-- What dividing a room does: see divN_main. -/
structure Divd (W H x y rw rh o o' : Nat) : Prop where
  lt : o' < 2 ^ gapsN W H
  out : ∀ g, ¬ Inn W H x y rw rh g → o'.testBit g = o.testBit g
  conn : ∀ m a b c d, (∀ g, Inn W H x y rw rh g → o'.testBit g = true → m.testBit g = true) → x ≤ a → a < x + rw → y ≤ b → b < y + rh → x ≤ c → c < x + rw → y ≤ d → d < y + rh → Cn (ends W H) m (b * W + a) (d * W + c)
  cnt : pop (gapsN W H) o' + (rw - 1) * (rh - 1) = pop (gapsN W H) o
theorem full_bits {n g : Nat} (h : g < n) : (2 ^ n - 1).testBit g = true := by rw [Nat.testBit_two_pow_sub_one]; simpa using h
end Go.Proofs.Ytcajhmldbkfhiaa.P
namespace Go.Proofs.Ytcajhmldbkfhiaa.P
open Go.RowKit Go.Proofs.YtcajhmldbkfhiaaW.PrintWords
set_option linter.unusedVariables false
set_option linter.unusedSimpArgs false

/-- The gaps with just one end among the cells of S. -/
def frN (w h : Int) (S : Nat) : List Nat := (List.range (gapsN w h)).filter fun g => S.testBit (ends w h g).1 != S.testBit (ends w h g).2
def growS (w h : Int) (S g : Nat) : Nat := setB (setB S (ends w h g).1 true) (ends w h g).2 true
/-- The cells of S hang together by the passages, which are one less. -/
structure Grw (w h : Int) (r S o : Nat) : Prop where
  lt : o < 2 ^ gapsN w h
  zero : S.testBit r = true
  cell : S < 2 ^ cellsN w h
  conn : ∀ c, S.testBit c = true → Cn (ends w h) o r c
  inn : ∀ g, o.testBit g = true → S.testBit (ends w h g).1 = true ∧ S.testBit (ends w h g).2 = true
  cnt : pop (cellsN w h) S = pop (gapsN w h) o + 1
theorem grid_full : ∀ W : Nat, W < 5 → ∀ H : Nat, H < 5 → gridOk W H = true → parts (ends W H) (cellsN W H) (gapsN W H) (2 ^ gapsN W H - 1) = 1 := by decide +kernel
theorem mem_frN {w h : Int} {S g : Nat} : g ∈ frN w h S ↔ g < gapsN w h ∧ S.testBit (ends w h g).1 ≠ S.testBit (ends w h g).2 := by
  unfold frN
  rw [List.mem_filter, List.mem_range, bne_iff_ne]
theorem Grw.front {w h : Int} {r S o : Nat} (hg : gridOk w h = true) (G : Grw w h r S o) (hl : pop (cellsN w h) S < cellsN w h) : 0 < (frN w h S).length := by
  rcases Nat.eq_zero_or_pos (frN w h S).length with h0 | h0
  · exfalso
    have hnil : frN w h S = [] := List.length_eq_zero_iff.1 h0
    have hno : ∀ g, g < gapsN w h → S.testBit (ends w h g).1 = S.testBit (ends w h g).2 := fun g hgl => by
      rcases Decidable.em (S.testBit (ends w h g).1 = S.testBit (ends w h g).2) with e | e
      · exact e
      · have := mem_frN.2 ⟨hgl, e⟩
        rw [hnil] at this
        cases this
    obtain ⟨W, H, rfl, rfl, hW1, hW2, hH1, hH2⟩ := grid_nat hg
    have hV := cells_pos hg
    have hp := Nat.two_pow_pos (gapsN W H)
    have hc := (parts_one (by omega) (by omega)).1 (grid_full W hW2 H hH2 hg)
    have hr : r < cellsN W H := lt_of_testBit G.cell G.zero
    have hall : ∀ x, Cn (ends W H) (2 ^ gapsN W H - 1) r x → S.testBit x = true := by
      intro x hx
      induction hx with
      | refl => exact G.zero
      | fwd k hk _ ih => rw [← hno k (lt_of_testBit (by omega) hk)]; exact ih
      | bwd k hk _ ih => rw [hno k (lt_of_testBit (by omega) hk)]; exact ih
    have : pop (cellsN W H) S = cellsN W H := by
      rw [pop_congr (t := 2 ^ cellsN W H - 1) fun i hi => by rw [hall i ((hc r hr).symm.trans (hc i hi)), full_bits hi]]
      exact pop_full _
    omega
  · exact h0
theorem Grw.step {w h : Int} {r S o : Nat} (G : Grw w h r S o) {g : Nat} (hf : g ∈ frN w h S) : Grw w h r (growS w h S g) (setB o g true) := by
  obtain ⟨hgl, hne⟩ := mem_frN.1 hf
  obtain ⟨_, f2, f3⟩ := ends_facts hgl
  have ho : o.testBit g = false := by
    rw [Bool.eq_false_iff]
    intro e
    have := G.inn g e
    rw [this.1, this.2] at hne
    exact hne rfl
  have hsup : ∀ i, S.testBit i = true → (growS w h S g).testBit i = true := fun i hi => by
    unfold growS; rw [testBit_setB, testBit_setB]; split
    · rfl
    · split
      · rfl
      · exact hi
  have hb : ∀ i, (growS w h S g).testBit i = true → S.testBit i = true ∨ i = (ends w h g).1 ∨ i = (ends w h g).2 := fun i hi => by
    unfold growS at hi; rw [testBit_setB, testBit_setB] at hi
    by_cases e2 : i = (ends w h g).2
    · exact .inr (.inr e2)
    · rw [if_neg e2] at hi
      by_cases e1 : i = (ends w h g).1
      · exact .inr (.inl e1)
      · rw [if_neg e1] at hi; exact .inl hi
  have h1 : (growS w h S g).testBit (ends w h g).1 = true := by unfold growS; rw [testBit_setB, testBit_setB]; simp
  have h2 : (growS w h S g).testBit (ends w h g).2 = true := by unfold growS; rw [testBit_setB]; simp
  have hgb : (setB o g true).testBit g = true := by rw [testBit_setB]; simp
  have hm : ∀ i, o.testBit i = true → (setB o g true).testBit i = true := fun i hi => by rw [testBit_setB]; split <;> simp [hi]
  have hends : Cn (ends w h) (setB o g true) r (ends w h g).1 ∧ Cn (ends w h) (setB o g true) r (ends w h g).2 := by
    cases e1 : S.testBit (ends w h g).1 with
    | true => exact ⟨(G.conn _ e1).mono hm, ((G.conn _ e1).mono hm).trans (Cn.edge hgb)⟩
    | false =>
      have e2 : S.testBit (ends w h g).2 = true := by
        rw [e1] at hne
        cases q : S.testBit (ends w h g).2 with
        | true => rfl
        | false => exact absurd q.symm hne
      exact ⟨((G.conn _ e2).mono hm).trans (Cn.edge' hgb), (G.conn _ e2).mono hm⟩
  refine ⟨setB_lt true G.lt hgl, hsup r G.zero, setB_lt true (setB_lt true G.cell (by omega)) f3, fun c hc => ?_, fun k hk => ?_, ?_⟩
  · rcases hb c hc with e | rfl | rfl
    · exact (G.conn c e).mono hm
    · exact hends.1
    · exact hends.2
  · rw [testBit_setB] at hk
    by_cases e : k = g
    · subst e; exact ⟨h1, h2⟩
    · rw [if_neg e] at hk
      have := G.inn k hk
      exact ⟨hsup _ this.1, hsup _ this.2⟩
  · rw [pop_setB hgl ho, ← G.cnt]
    unfold growS
    cases e1 : S.testBit (ends w h g).1 with
    | true =>
      have e2 : S.testBit (ends w h g).2 = false := by
        rw [e1] at hne
        cases q : S.testBit (ends w h g).2 with
        | false => rfl
        | true => exact absurd q.symm hne
      rw [setB_on e1, pop_setB f3 e2]
    | false =>
      have e2 : S.testBit (ends w h g).2 = true := by
        rw [e1] at hne
        cases q : S.testBit (ends w h g).2 with
        | true => rfl
        | false => exact absurd q.symm hne
      rw [setB_on (by rw [testBit_setB]; split <;> simp [e2]), pop_setB (by omega) e1]
theorem pop_nil (n : Nat) : pop n 0 = 0 := by
  induction n with
  | zero => rfl
  | succ n ih => simp [pop, ih]
theorem Grw.start {w h : Int} {r : Nat} (hr : r < cellsN w h) : Grw w h r (2 ^ r) 0 := by
  refine ⟨Nat.two_pow_pos _, by rw [Nat.testBit_two_pow]; simp, Nat.pow_lt_pow_right (by decide) hr, fun c hc => ?_, fun g h => by simp at h, ?_⟩
  · rw [Nat.testBit_two_pow, decide_eq_true_eq] at hc
    subst hc
    exact .refl _
  · have e : 2 ^ r = setB 0 r true := by unfold setB; rw [if_pos rfl, Nat.zero_or]
    rw [e, pop_setB hr (Nat.zero_testBit r), pop_nil, pop_nil]
theorem pop_all' {n s : Nat} (h : pop n s = n) : ∀ i, i < n → s.testBit i = true := by
  induction n with
  | zero => intro i hi; omega
  | succ n ih =>
    simp only [pop] at h
    have h1 := pop_le n s
    have h2 := Bool.toNat_le (s.testBit n)
    intro i hi
    rcases Nat.lt_succ_iff_lt_or_eq.1 hi with e | rfl
    · exact ih (by omega) i e
    · cases q : s.testBit i with
      | true => rfl
      | false => rw [q] at h; simp at h; omega
theorem Grw.perf {w h : Int} {r S o : Nat} (hg : gridOk w h = true) (G : Grw w h r S o) : perfN w h o = true ↔ pop (cellsN w h) S = cellsN w h := by
  have hV := cells_pos hg
  have hc := G.cnt
  have hr : r < cellsN w h := lt_of_testBit G.cell G.zero
  unfold perfN
  rw [perf_iff]
  constructor
  · rintro ⟨_, h2⟩; omega
  · intro hp
    have h0 := G.conn 0 (pop_all' hp 0 (by omega))
    exact ⟨(parts_one G.lt (by omega)).2 fun x hx => h0.symm.trans (G.conn x (pop_all' hp x hx)), by omega⟩
/-- The cells that were seen in the first steps. -/
def seen (c : Nat → Nat) : Nat → Nat
  | 0 => 2 ^ c 0
  | i + 1 => setB (seen c i) (c (i + 1)) true
theorem seen_bit {c : Nat → Nat} {x : Nat} : ∀ {i : Nat}, (seen c i).testBit x = true ↔ ∃ j, j ≤ i ∧ c j = x
  | 0 => by
    unfold seen
    rw [Nat.testBit_two_pow, decide_eq_true_eq]
    constructor
    · intro h; exact ⟨0, by omega, h⟩
    · rintro ⟨j, hj, h⟩
      obtain rfl : j = 0 := by omega
      exact h
  | i + 1 => by
    unfold seen
    rw [testBit_setB]
    constructor
    · intro h
      by_cases e : x = c (i + 1)
      · exact ⟨i + 1, by omega, e.symm⟩
      · rw [if_neg e] at h
        obtain ⟨j, hj, h2⟩ := seen_bit.1 h
        exact ⟨j, by omega, h2⟩
    · rintro ⟨j, hj, h⟩
      by_cases e : x = c (i + 1)
      · rw [if_pos e]
      · rw [if_neg e]
        refine seen_bit.2 ⟨j, ?_, h⟩
        rcases Nat.lt_or_ge j (i + 1) with h1 | h1
        · omega
        · obtain rfl : j = i + 1 := by omega
          exact absurd h.symm e
/-- The gaps of the steps that q leaves. -/
def enN (q : Nat → Bool) (G : Nat → Nat) : Nat → Nat
  | 0 => 0
  | i + 1 => if q i = true then enN q G i else setB (enN q G i) (G i) true
theorem enN_bit {q : Nat → Bool} {G : Nat → Nat} {g : Nat} : ∀ {i : Nat}, (enN q G i).testBit g = true ↔ ∃ j, j < i ∧ q j = false ∧ G j = g
  | 0 => by
    unfold enN
    constructor
    · intro h; simp at h
    · rintro ⟨j, hj, _⟩; omega
  | i + 1 => by
    unfold enN
    by_cases hq : q i = true
    · rw [if_pos hq, enN_bit]
      constructor
      · rintro ⟨j, hj, h⟩; exact ⟨j, by omega, h⟩
      · rintro ⟨j, hj, h, h2⟩
        refine ⟨j, ?_, h, h2⟩
        rcases Nat.lt_or_ge j i with h1 | h1
        · exact h1
        · obtain rfl : j = i := by omega
          rw [hq] at h; cases h
    · rw [if_neg hq, testBit_setB]
      by_cases e : g = G i
      · rw [if_pos e]
        constructor
        · intro _; exact ⟨i, by omega, Bool.eq_false_iff.2 hq, e.symm⟩
        · intro _; rfl
      · rw [if_neg e, enN_bit]
        constructor
        · rintro ⟨j, hj, h⟩; exact ⟨j, by omega, h⟩
        · rintro ⟨j, hj, h, h2⟩
          refine ⟨j, ?_, h, h2⟩
          rcases Nat.lt_or_ge j i with h1 | h1
          · exact h1
          · obtain rfl : j = i := by omega
            exact absurd h2.symm e
/-- A walk of N steps: its cells and its gaps. -/
def Walk (w h : Int) (c G : Nat → Nat) (N : Nat) : Prop := c 0 < cellsN w h ∧ ∀ i, i < N → G i < gapsN w h ∧ (ends w h (G i) = (c i, c (i + 1)) ∨ ends w h (G i) = (c (i + 1), c i))
def qS (c : Nat → Nat) (i : Nat) : Bool := (seen c i).testBit (c (i + 1))
theorem ent_grw {w h : Int} {c G : Nat → Nat} {N : Nat} (W : Walk w h c G N) : ∀ i, i ≤ N → Grw w h (c 0) (seen c i) (enN (qS c) G i)
  | 0, _ => Grw.start W.1
  | i + 1, hi => by
    have ih := ent_grw W i (by omega)
    obtain ⟨hg, he⟩ := W.2 i (by omega)
    unfold enN seen
    by_cases hq : qS c i = true
    · rw [if_pos hq, setB_on (show (seen c i).testBit (c (i + 1)) = true from hq)]
      exact ih
    · rw [if_neg hq]
      have hq' : (seen c i).testBit (c (i + 1)) = false := Bool.eq_false_iff.2 hq
      have hc : (seen c i).testBit (c i) = true := seen_bit.2 ⟨i, by omega, rfl⟩
      have hf : G i ∈ frN w h (seen c i) := mem_frN.2 ⟨hg, by rcases he with e | e <;> rw [e] <;> simp only <;> rw [hq', hc] <;> decide⟩
      have := ih.step hf
      have hS : growS w h (seen c i) (G i) = setB (seen c i) (c (i + 1)) true := by
        unfold growS
        rcases he with e | e <;> rw [e] <;> simp only
        · rw [setB_on hc]
        · exact setB_on (by rw [testBit_setB]; split <;> simp [hc])
      rwa [hS] at this
theorem ent_perf {w h : Int} {c G : Nat → Nat} {N : Nat} (hg : gridOk w h = true) (W : Walk w h c G N) : perfN w h (enN (qS c) G N) = true ↔ pop (cellsN w h) (seen c N) = cellsN w h := (ent_grw W N (Nat.le_refl N)).perf hg
theorem ent_lt {w h : Int} {c G : Nat → Nat} {N : Nat} (W : Walk w h c G N) : enN (qS c) G N < 2 ^ gapsN w h := (ent_grw W N (Nat.le_refl N)).lt
/-- How many cells were seen. -/
theorem seen_pop {w h : Int} {c G : Nat → Nat} {N i : Nat} (W : Walk w h c G N) (hi : i < N) : pop (cellsN w h) (seen c (i + 1)) = pop (cellsN w h) (seen c i) + if qS c i = true then 0 else 1 := by
  have h1 := (ent_grw W (i + 1) (by omega)).cnt
  have h0 := (ent_grw W i (by omega)).cnt
  have hG := W.2 i hi
  rw [show seen c (i + 1) = setB (seen c i) (c (i + 1)) true from rfl]
  by_cases hq : qS c i = true
  · rw [if_pos hq]
    rw [setB_on (show (seen c i).testBit (c (i + 1)) = true from hq)]
    omega
  · rw [if_neg hq]
    refine pop_setB ?_ (Bool.eq_false_iff.2 hq)
    have := ends_facts hG.1
    rcases hG.2 with e | e <;> rw [e] at this <;> simp only at this <;> omega
theorem seen_start {w h : Int} {c : Nat → Nat} (h0 : c 0 < cellsN w h) : pop (cellsN w h) (seen c 0) = 1 := by
  have := (Grw.start (w := w) (h := h) (r := c 0) h0).cnt
  rw [pop_nil] at this
  exact this
theorem seen_le {w h : Int} {c : Nat → Nat} (h0 : c 0 < cellsN w h) {G : Nat → Nat} {N : Nat} (W : Walk w h c G N) : ∀ i, i ≤ N → pop (cellsN w h) (seen c i) ≤ i + 1
  | 0, _ => by rw [seen_start h0]; omega
  | i + 1, hi => by
    have := seen_le h0 W i (by omega)
    rw [seen_pop W (by omega)]
    split <;> omega
theorem seen_mono {w h : Int} {c G : Nat → Nat} {N : Nat} (W : Walk w h c G N) {i : Nat} : ∀ d, i + d ≤ N → pop (cellsN w h) (seen c i) ≤ pop (cellsN w h) (seen c (i + d))
  | 0, _ => Nat.le_refl _
  | d + 1, hd => by
    have := seen_mono W (i := i) d (by omega)
    rw [show i + (d + 1) = (i + d) + 1 by omega, seen_pop W (by omega)]
    omega
/-- The walk backwards: its last exits are the first entries of the walk. -/
theorem ent_back {c G c' G' : Nat → Nat} {q' : Nat → Bool} {N : Nat} (hc : ∀ i, i ≤ N → c' i = c (N - i)) (hG : ∀ i, i < N → G' i = G (N - 1 - i))
    (hq : ∀ i, i < N → (q' i = true ↔ ∃ j, i < j ∧ j ≤ N ∧ c' j = c' i)) : enN q' G' N = enN (qS c) G N := by
  apply Nat.eq_of_testBit_eq
  intro g
  have hqq : ∀ i, i < N → q' i = qS c (N - 1 - i) := fun i hi => by
    rw [Bool.eq_iff_iff, hq i hi]
    unfold qS
    rw [seen_bit]
    rw [show N - 1 - i + 1 = N - i by omega]
    constructor
    · rintro ⟨j, h1, h2, h3⟩
      rw [hc i (by omega), hc j h2] at h3
      exact ⟨N - j, by omega, h3⟩
    · rintro ⟨j, h1, h2⟩
      refine ⟨N - j, by omega, by omega, ?_⟩
      rw [hc i (by omega), hc (N - j) (by omega), show N - (N - j) = j by omega]
      exact h2
  rw [Bool.eq_iff_iff, enN_bit, enN_bit]
  constructor
  · rintro ⟨j, h1, h2, h3⟩
    exact ⟨N - 1 - j, by omega, by rw [← hqq j h1]; exact h2, by rw [← hG j h1]; exact h3⟩
  · rintro ⟨j, h1, h2, h3⟩
    refine ⟨N - 1 - j, by omega, ?_, ?_⟩
    · rw [hqq _ (by omega), show N - 1 - (N - 1 - j) = j by omega]; exact h2
    · rw [hG _ (by omega), show N - 1 - (N - 1 - j) = j by omega]; exact h3
theorem insU_len_new {x : Int} : ∀ {l : List Int}, x ∉ l → (insU x l).length = l.length + 1
  | [], _ => rfl
  | y :: t, h => by
    rw [List.mem_cons, not_or] at h
    unfold insU
    split
    · rfl
    · rw [if_neg h.1, List.length_cons, insU_len_new h.2, List.length_cons]
theorem insU_len_old {x : Int} : ∀ {l : List Int}, l.Pairwise (· < ·) → x ∈ l → (insU x l).length = l.length
  | y :: t, hs, h => by
    have h1 := List.pairwise_cons.1 hs
    unfold insU
    rcases List.mem_cons.1 h with e | e
    · rw [if_neg (by omega), if_pos e]
    · have := h1.1 x e
      rw [if_neg (by omega), if_neg (by omega), List.length_cons, insU_len_old h1.2 e, List.length_cons]
/-- One more number. -/
theorem ordF_snoc_len (l : List Int) (x : Int) : (ordF (l ++ [x])).length = (ordF l).length + if x ∈ l then 0 else 1 := by
  have e : ordF (l ++ [x]) = insU x (ordF l) := by
    refine asc_unique (ordF_sorted _) (insU_sorted (ordF_sorted _)) fun z => ?_
    rw [ordF_mem, insU_mem, ordF_mem, List.mem_append, List.mem_singleton]
    exact Or.comm
  rw [e]
  by_cases h : x ∈ l
  · rw [insU_len_old (ordF_sorted l) (ordF_mem.2 h), if_pos h]; rfl
  · rw [insU_len_new (fun hc => h (ordF_mem.1 hc)), if_neg h]
end Go.Proofs.Ytcajhmldbkfhiaa.P
namespace Go.Proofs.Ytcajhmldbkfhiaa.P
open Go.RowKit Go.Proofs.YtcajhmldbkfhiaaW.PrintWords
set_option linter.unusedVariables false
set_option linter.unusedSimpArgs false

section
variable {e : Nat → Nat × Nat} {V E : Nat}
/-- Labels P tell the parts of o; no loop; what was looked at is joined. -/
structure KInv (e : Nat → Nat × Nat) (V E : Nat) (done : Nat → Prop) (P : Nat → Int) (o : Nat) : Prop where
  lt : o < 2 ^ E
  lab : ∀ x y, x < V → y < V → (P x = P y ↔ Cn e o x y)
  fo : pop E o + parts e V E o = V
  dn : ∀ g, g < E → done g → Cn e o (e g).1 (e g).2
theorem pop_zero' (E : Nat) : pop E 0 = 0 := by
  induction E with
  | zero => rfl
  | succ m ih => simp only [pop, Nat.zero_testBit, ih]; rfl
theorem KInv.start {P : Nat → Int} (hP : ∀ x, P x = x) : KInv e V E (fun _ => False) P 0 := by
  refine ⟨Nat.two_pow_pos E, fun x y _ _ => ?_, ?_, fun _ _ h => h.elim⟩
  · rw [hP, hP, Cn_zero]
    omega
  · rw [parts_zero, pop_zero', Nat.zero_add]
theorem KInv.skip {done : Nat → Prop} {P : Nat → Int} {o g : Nat} (hG : Gr e V E) (K : KInv e V E done P o) (hg : g < E) (h : P (e g).1 = P (e g).2) : KInv e V E (fun j => done j ∨ j = g) P o :=
  ⟨K.lt, K.lab, K.fo, fun j hj hd => hd.elim (K.dn j hj) (fun h2 => by subst h2; exact (K.lab _ _ (hG j hg).1 (hG j hg).2).1 h)⟩
end
end Go.Proofs.Ytcajhmldbkfhiaa.P
namespace Go.Proofs.Ytcajhmldbkfhiaa.P
open Go.RowKit Go.Proofs.YtcajhmldbkfhiaaW.PrintWords Go.Proofs.YtcajhmldbkfhiaaW.PrintLast Go.Proofs.YtcajhmldbkfhiaaW.PrintMore
attribute [local go_sem] max2_int min2_int max_two min_two max_three min_three max_four min_four   -- for this text's walks alone
set_option linter.unusedVariables false
set_option linter.unusedSimpArgs false

/-! ### spec_EndsOf: function 97 -/
/-! ### spec_l03Common: function 139 -/
/-! ### spec_l03Tree: function 119 -/
/-! ### spec_l05Tree: function 75 -/
end Go.Proofs.Ytcajhmldbkfhiaa.P
namespace Go.Proofs.Ytcajhmldbkfhiaa.P
open Go Go.RowKit Go.Proofs.YtcajhmldbkfhiaaW.PrintWords
set_option linter.unusedVariables false
set_option linter.unusedSimpArgs false

theorem bits_255 (x : Int) : 0 ≤ Go.bits .and .i64 x 255 ∧ Go.bits .and .i64 x 255 ≤ 255 := by
  have h : (BitVec.ofInt 64 x &&& BitVec.ofInt 64 255).toNat ≤ 255 := by
    rw [BitVec.toNat_and]
    exact Nat.and_le_right
  show 0 ≤ IntKind.i64.wrap ((BitVec.ofInt 64 x &&& BitVec.ofInt 64 255).toNat : Int) ∧ IntKind.i64.wrap ((BitVec.ofInt 64 x &&& BitVec.ofInt 64 255).toNat : Int) ≤ 255
  rw [wrap_small (by omega)]
  omega
section
variable {l : List Int}
theorem spec_New_l0 (hl : l.length ≤ 1048576) : ∀ (e i : Nat) (h : Int), l.length - i = e → ∃ h', Ev (fun k => spec_l01New.l0 k l h i) (l, 0, h')
  | 0, i, h, he => ⟨h, Ev.step (fun _ => spec_l01New.l0.eq_2 ..) (Ev.ff (by omega) (Ev.ret rfl))⟩
  | e + 1, i, h, he => by
    by_cases h4 : (i : Int) < 4000
    · obtain ⟨h', ih⟩ := spec_New_l0 hl e (i + 1) (Go.bits .and .i64 (wrap64 ((wrap64 ((wrap64 (h * 131)) + (wrap64 (rd l i)))) + 7)) 1073741823) (by omega)
      refine ⟨h', Ev.step (fun _ => spec_l01New.l0.eq_2 ..) (Ev.tt (by omega) (Ev.tt h4 (Ev.tt (by omega) ?_)))⟩
      rw [wsucc (by omega)]
      exact ih
    · exact ⟨h, Ev.step (fun _ => spec_l01New.l0.eq_2 ..) (Ev.tt (by omega) (Ev.ff h4 (Ev.ret rfl)))⟩
theorem spec_New_ev (hl : l.length ≤ 1048576) : ∃ h', Ev (fun k => spec_l01New.f k l) (l, 0, h') := spec_New_l0 hl l.length 0 _ rfl
theorem spec_Byte_eq (hl : l.length ≤ 1048576) {i : Int} (hi : 0 ≤ i) (h : Int) : ∃ b i' h', spec_l01Byte.f l i h = some (b, i', h') ∧ 0 ≤ b ∧ b ≤ 255 ∧ 0 ≤ i' := by
  unfold spec_l01Byte.f
  by_cases e : i < (l.length : Int)
  · rw [if_pos e, if_pos hi]
    exact ⟨_, _, _, rfl, (bits_255 _).1, (bits_255 _).2, by rw [wrap64_id (by omega) (by omega)]; omega⟩
  · rw [if_neg e]
    exact ⟨_, _, _, rfl, (bits_255 _).1, (bits_255 _).2, hi⟩
theorem spec_Below_eq (hl : l.length ≤ 1048576) {i : Int} (hi : 0 ≤ i) (h : Int) {n : Int} (h1 : 1 ≤ n) (h2 : n ≤ 256) : ∃ b i' h', spec_l01Below.f l i h n = some (b, i', h') ∧ 0 ≤ b ∧ b < n ∧ 0 ≤ i' := by
  obtain ⟨b, i', h', e, b0, b1, hi'⟩ := spec_Byte_eq hl hi h
  unfold spec_l01Below.f
  rw [if_neg (by omega), if_pos h2, e, Option.bind_some, if_neg (by omega)]
  exact ⟨_, _, _, rfl, Int.tmod_nonneg _ b0, Int.tmod_lt_of_pos _ (by omega), hi'⟩
theorem spec_Pick_eq (hl : l.length ≤ 1048576) {i : Int} (hi : 0 ≤ i) (h : Int) : ∃ (j : Nat) (i' h' : Int), spec_l01PickInt.f l i h [1, 2, 3, 3, 4] = some (rd [1, 2, 3, 3, 4] (j : Int), i', h') ∧ j < 5 ∧ 0 ≤ i' := by
  obtain ⟨b, i', h', e, b0, b1, hi'⟩ := spec_Below_eq hl hi h (n := 5) (by omega) (by omega)
  unfold spec_l01PickInt.f
  show ∃ (j : Nat) (i'' h'' : Int), (spec_l01Below.f l i h 5).bind _ = _ ∧ _
  rw [e, Option.bind_some, if_pos b0]
  refine ⟨b.toNat, i', h', ?_, by omega, hi'⟩
  rw [if_pos (show b < (([1, 2, 3, 3, 4] : List Int).length : Int) from b1), Int.toNat_of_nonneg b0]
theorem pick_ok {j : Nat} (hj : j < 5) : 1 ≤ rd [1, 2, 3, 3, 4] (j : Int) ∧ rd [1, 2, 3, 3, 4] (j : Int) ≤ 4 := by
  have : j = 0 ∨ j = 1 ∨ j = 2 ∨ j = 3 ∨ j = 4 := by omega
  rcases this with rfl | rfl | rfl | rfl | rfl <;> decide
theorem spec_Grid_eq (hl : l.length ≤ 1048576) {i : Int} (hi : 0 ≤ i) (h : Int) : ∃ w hh i' h', spec_l02Grid.f l i h = some (w, hh, i', h') ∧ gridOk w hh = true ∧ 0 ≤ i' := by
  obtain ⟨j, i1, h1, e1, hj, hi1⟩ := spec_Pick_eq hl hi h
  obtain ⟨j2, i2, h2, e2, hj2, hi2⟩ := spec_Pick_eq hl hi1 h1
  unfold spec_l02Grid.f
  rw [e1, Option.bind_some, e2, Option.bind_some]
  refine ⟨_, _, _, _, rfl, gridOk_iff.2 ?_, hi2⟩
  have := pick_ok hj
  have := pick_ok hj2
  omega
end
/-! The step that the draw takes -/
/-! Labels as a table -/
end Go.Proofs.Ytcajhmldbkfhiaa.P
namespace Go.Proofs.Ytcajhmldbkfhiaa.P
open Go.RowKit Go.Proofs.YtcajhmldbkfhiaaW.PrintWords
set_option linter.unusedVariables false
set_option linter.unusedSimpArgs false

/-! Walks -/
def lastO (c : Int) (l : List Int) : Int := (c :: l).getLast (by simp)
theorem lastO_cons (c b : Int) (l : List Int) : lastO c (b :: l) = lastO b l := by simp [lastO]
theorem wk_app {s : Int → Int → Int} : ∀ {xs : List Int} {c : Int} {l : List Int} {ys : List Int} {l2 : List Int}, wk s c xs = some l → wk s (lastO c l) ys = some l2 → wk s c (xs ++ ys) = some (l ++ l2)
  | [], c, l, ys, l2, h1, h2 => by
    cases h1
    exact h2
  | d :: ds, c, l, ys, l2, h1, h2 => by
    unfold wk at h1
    by_cases e : s c d < 0
    · rw [if_pos e] at h1; cases h1
    · rw [if_neg e] at h1
      obtain ⟨l', h', rfl⟩ := Option.map_eq_some_iff.1 h1
      rw [lastO_cons] at h2
      show wk s c (d :: (ds ++ ys)) = _
      unfold wk
      rw [if_neg e, wk_app h' h2]
      rfl
theorem step_back {w h c d : Int} {n : Nat} (h0 : 0 ≤ stepI w h n c d) : stepI w h n (stepI w h n c d) ((d + 2) % 4) = c ∧ gapI w h (stepI w h n c d) ((d + 2) % 4) = gapI w h c d := by
  unfold stepI at h0 ⊢
  by_cases ho : openI n (gapI w h c d) = true
  · rw [if_pos ho] at h0 ⊢
    rcases step_facts w h c d with ⟨f1, _⟩ | ⟨f1, f2, f3, f4, f5, f6, f7, f8⟩
    · omega
    · rw [f8, if_pos ho, f7]
      exact ⟨rfl, rfl⟩
  · rw [if_neg ho] at h0; omega
/-- The way back. -/
def revD (way : List Int) : List Int := way.reverse.map fun d => (d + 2) % 4
theorem revD_snoc (xs : List Int) (d : Int) : revD (xs ++ [d]) = (d + 2) % 4 :: revD xs := by simp [revD]
theorem wk_back {w h : Int} {n : Nat} : ∀ {way : List Int} {c : Int} {l : List Int}, wk (stepI w h n) c way = some l → wk (stepI w h n) (lastO c l) (revD way) = some ((c :: l).reverse.tail)
  | [], c, l, h1 => by
    cases h1
    rfl
  | d :: ds, c, l, h1 => by
    unfold wk at h1
    by_cases e : stepI w h n c d < 0
    · rw [if_pos e] at h1; cases h1
    · rw [if_neg e] at h1
      obtain ⟨l', h', rfl⟩ := Option.map_eq_some_iff.1 h1
      have ih := wk_back h'
      have hb := (step_back (w := w) (h := h) (n := n) (c := c) (d := d) (by omega)).1
      rw [lastO_cons]
      have e1 : revD (d :: ds) = revD ds ++ [(d + 2) % 4] := by simp [revD]
      have hr : (stepI w h n c d :: l').reverse.tail ++ [c] = (c :: stepI w h n c d :: l').reverse.tail := by
        have : (stepI w h n c d :: l').reverse ≠ [] := by simp
        rw [List.reverse_cons (a := c), List.tail_append_of_ne_nil this]
      rw [e1, ← hr]
      refine wk_app ih ?_
      have hl : lastO (lastO (stepI w h n c d) l') ((stepI w h n c d :: l').reverse.tail) = stepI w h n c d := by
        have h2 : lastO (stepI w h n c d) l' :: (stepI w h n c d :: l').reverse.tail = (stepI w h n c d :: l').reverse := by
          have := List.cons_head_tail (l := (stepI w h n c d :: l').reverse) (by simp)
          rw [List.head_reverse] at this
          exact this
        unfold lastO at h2 ⊢
        simp only [h2]
        simp
      rw [hl]
      show wk (stepI w h n) (stepI w h n c d) [(d + 2) % 4] = some [c]
      unfold wk wk
      rw [hb]
      have hc0 : ¬ c < 0 := by
        intro hc
        rcases step_facts w h c d with ⟨f1, f2⟩ | ⟨f1, _⟩
        · unfold stepI at e; rw [f1] at e; split at e <;> omega
        · have := (nb_dir f1).2.1
          omega
      rw [if_neg hc0]
      rfl
theorem spec_WalkV_l0 {w h : Int} {n : Nat} (hg : gridOk w h = true) (hn : n < 2 ^ gapsN w h) (way : List Int) (hw : way.length ≤ 400) : ∀ (e i : Nat) (c : Int) (l : List Int), way.length - i = e → i ≤ way.length → wk (stepI w h n) c (way.drop i) = some l →
    Ev (fun k => spec_WalkWay.l0 k c way i w h n) (lastO c l, true)
  | 0, i, c, l, he, hi, hk => by
    refine Ev.step (fun _ => spec_WalkWay.l0.eq_2 ..) (Ev.ff (by omega) (Ev.ret ?_))
    rw [List.drop_eq_nil_of_le (by omega)] at hk
    cases hk
    rfl
  | e + 1, i, c, l, he, hi, hk => by
    rw [List.drop_eq_getElem_cons (show i < way.length by omega)] at hk
    unfold wk at hk
    by_cases e1 : stepI w h n c way[i] < 0
    · rw [if_pos e1] at hk; cases hk
    · rw [if_neg e1] at hk
      obtain ⟨l', h', rfl⟩ := Option.map_eq_some_iff.1 hk
      refine Ev.step (fun _ => spec_WalkWay.l0.eq_2 ..) (Ev.tt (by omega) (Ev.tt (by omega) (Ev.bind (spec_Step_ev hg hn _ _) ?_)))
      rw [rd_get (show i < way.length by omega), wsucc (by omega), lastO_cons]
      exact Ev.ff e1 (spec_WalkV_l0 hg hn way hw e (i + 1) _ l' (by omega) (by omega) h')
theorem spec_WalkWay_ev {w h : Int} {n : Nat} (hg : gridOk w h = true) (hn : n < 2 ^ gapsN w h) {c : Int} (hc : isCellI w h c = true) {way l : List Int} (hw : way.length ≤ 400) (hk : wk (stepI w h n) c way = some l) : Ev (fun k => spec_WalkWay.f k w h n c way) (lastO c l, true) := by
  have hm : mazeOk w h n = true := mazeOk_iff.2 ⟨hg, n, rfl, hn⟩
  unfold spec_WalkWay.f
  refine Ev.bnd0 (spec_l04Has_eq ..) (Ev.tt (by rw [hm, hc]; rfl) (Ev.step (fun _ => spec_WalkWay.j0.eq_2 ..) (Ev.ff (by rw [decide_eq_true_eq]; omega) ?_)))
  exact spec_WalkV_l0 hg hn way hw way.length 0 c l (by omega) (by omega) (by rw [List.drop_zero]; exact hk)
theorem l06_l0 (way : List Int) (hw : way.length ≤ 400) (hd : ∀ d ∈ way, 0 ≤ d ∧ d ≤ 3) : ∀ (e i : Nat), way.length - i = e → i ≤ way.length → Ev (fun k => spec_l06Way.l0 k way i) true
  | 0, i, he, hi => Ev.step (fun _ => spec_l06Way.l0.eq_2 ..) (Ev.ff (by omega) (Ev.ret rfl))
  | e + 1, i, he, hi => by
    have := hd _ (List.getElem_mem (show i < way.length by omega))
    refine Ev.step (fun _ => spec_l06Way.l0.eq_2 ..) (Ev.tt (by omega) (Ev.tt (by omega) ?_))
    rw [rd_get (show i < way.length by omega), wsucc (by omega)]
    refine Ev.bnd0 (l01In_eq ..) ?_
    rw [decide_eq_true this]
    exact Ev.tt rfl (l06_l0 way hw hd e (i + 1) (by omega) (by omega))
theorem rev_l0 (way : List Int) (hw : way.length ≤ 400) (hd : ∀ d ∈ way, 0 ≤ d ∧ d ≤ 3) : ∀ (m : Nat) (out : List Int), m ≤ way.length → out.length + m ≤ 1000 → Ev (fun k => spec_ReverseWay.l0 k way out ((m : Int) - 1)) (out ++ revD (way.take m))
  | 0, out, hm, ho => by
    refine Ev.step (fun _ => spec_ReverseWay.l0.eq_2 ..) (Ev.ff (by omega) (Ev.ret ?_))
    simp [revD]
  | m + 1, out, hm, ho => by
    have hdm := hd _ (List.getElem_mem (show m < way.length by omega))
    have h6 : Ev (fun k => spec_l06Way.f k way) true := by
      unfold spec_l06Way.f
      exact l06_l0 way hw hd way.length 0 (by omega) (by omega)
    refine Ev.step (fun _ => spec_ReverseWay.l0.eq_2 ..) ?_
    rw [show ((m + 1 : Nat) : Int) - 1 = (m : Int) by omega]
    refine Ev.tt (by omega) (Ev.bind h6 (Ev.tt rfl (Ev.tt (by omega) (Ev.tt (by omega) (Ev.tt (by omega) ?_)))))
    rw [rd_get (show m < way.length by omega), wrap64_id (x := (m : Int) - 1) (by omega) (by omega), wrap64_id (x := way[m] + 2) (by omega) (by omega), Int.tmod_eq_emod_of_nonneg (by omega)]
    refine Ev.eq (rev_l0 way hw hd m _ (by omega) (by simp; omega)) ?_
    have : way.take (m + 1) = way.take m ++ [way[m]] := by rw [List.take_succ_eq_append_getElem (by omega)]
    rw [this, revD_snoc, List.append_assoc]
    rfl
theorem spec_ReverseWay_ev (way : List Int) (hw : way.length ≤ 400) (hd : ∀ d ∈ way, 0 ≤ d ∧ d ≤ 3) : Ev (fun k => spec_ReverseWay.f k way) (revD way) := by
  unfold spec_ReverseWay.f
  rw [wrap64_id (by omega) (by omega)]
  have := rev_l0 way hw hd way.length [] (by omega) (by simp; omega)
  rw [List.take_length] at this
  simpa using this
/-! The draw -/
theorem ways_ok {w h : Int} {n : Nat} {c : Int} {d : Int} (hd : d ∈ waysI w h n c) : 0 ≤ d ∧ d ≤ 3 ∧ 0 ≤ stepI w h n c d := by
  unfold waysI waysFrom at hd
  rw [List.mem_filter, List.drop_zero] at hd
  simp only [List.mem_cons, List.not_mem_nil, or_false, decide_eq_true_eq] at hd
  rcases hd with ⟨rfl | rfl | rfl | rfl, h2⟩ <;> exact ⟨by omega, by omega, h2⟩
theorem tour_l0 {w h : Int} {n : Nat} {xs : List Int} (hg : gridOk w h = true) (hn : n < 2 ^ gapsN w h) (hl : xs.length ≤ 1048576) {N : Nat} (hN : N ≤ 400) : ∀ (e i : Nat) (c : Int) (out : List Int) (i1 h1 : Int), i + e = N → out.length ≤ i → 0 ≤ i1 →
    ∃ (way l : List Int) (i2 h2 : Int), way.length ≤ e ∧ (∀ d ∈ way, 0 ≤ d ∧ d ≤ 3) ∧ wk (stepI w h n) c way = some l ∧ Ev (fun k => spec_l16Way.l0 k c out (N : Int) i xs i1 h1 w h n) (out ++ way, i2, h2)
  | 0, i, c, out, i1, h1, he, ho, hi => by
    refine ⟨[], [], i1, h1, by simp, by simp, rfl, Ev.step (fun _ => spec_l16Way.l0.eq_2 ..) (Ev.ff (by omega) (Ev.ret (by simp)))⟩
  | e + 1, i, c, out, i1, h1, he, ho, hi => by
    by_cases h0 : (waysI w h n c).length = 0
    · exact ⟨[], [], i1, h1, by simp, by simp, rfl, Ev.step (fun _ => spec_l16Way.l0.eq_2 ..) (Ev.tt (by omega) (Ev.bind (spec_Ways_ev hg hn c) (Ev.tt (by omega) (Ev.ret (by simp)))))⟩
    · have h4 : (waysI w h n c).length ≤ 4 := by
        have := List.length_filter_le (fun x => decide (0 ≤ stepI w h n c x)) ([0, 1, 2, 3] : List Int)
        exact this
      obtain ⟨b, i2, h2, f1, b0, b1, hi2⟩ := spec_Below_eq hl hi h1 (n := ((waysI w h n c).length : Int)) (by omega) (by omega)
      obtain ⟨q, rfl⟩ := Int.eq_ofNat_of_zero_le b0
      have hq : q < (waysI w h n c).length := by omega
      obtain ⟨d0, d1, ds⟩ := ways_ok (List.getElem_mem hq)
      obtain ⟨way, l, i3, h3, w1, w2, w3, ev⟩ := tour_l0 (xs := xs) hg hn hl hN e (i + 1) (stepI w h n c (waysI w h n c)[q]) (out ++ [(waysI w h n c)[q]]) i2 h2 (by omega) (by simp; omega) hi2
      refine ⟨(waysI w h n c)[q] :: way, stepI w h n c (waysI w h n c)[q] :: l, i3, h3, by simp; omega, ?_, ?_, ?_⟩
      · intro d hd
        rcases List.mem_cons.1 hd with rfl | hd
        · exact ⟨d0, d1⟩
        · exact w2 d hd
      · unfold wk
        rw [if_neg (by omega), w3]
        rfl
      · refine Ev.step (fun _ => spec_l16Way.l0.eq_2 ..) (Ev.tt (by omega) (Ev.bind (spec_Ways_ev hg hn c) (Ev.ff (by omega) (Ev.bnd0 f1 (Ev.tt (by omega) (Ev.tt (by omega) (Ev.tt (by omega) ?_)))))))
        rw [rd_get hq, wsucc (by omega)]
        refine Ev.bind (spec_Step_ev hg hn _ _) (Ev.eq ev (by simp))
theorem spec_PickL_eq {l : List Int} (hl : l.length ≤ 1048576) {i : Int} (hi : 0 ≤ i) (h x : Int) (hx0 : 0 ≤ x) (hx : x ≤ 400) : ∃ (v i' h' : Int), spec_l01PickInt.f l i h [120, 120, 60, x] = some (v, i', h') ∧ 0 ≤ v ∧ v ≤ 400 ∧ 0 ≤ i' := by
  obtain ⟨b, i', h', e, b0, b1, hi'⟩ := spec_Below_eq hl hi h (n := 4) (by omega) (by omega)
  obtain ⟨q, rfl⟩ := Int.eq_ofNat_of_zero_le b0
  unfold spec_l01PickInt.f
  show ∃ (v i'' h'' : Int), (spec_l01Below.f l i h 4).bind _ = _ ∧ _
  rw [e, Option.bind_some, if_pos (by omega), if_pos (show (q : Int) < (([120, 120, 60, x] : List Int).length : Int) from b1)]
  refine ⟨_, i', h', rfl, ?_⟩
  have : q = 0 ∨ q = 1 ∨ q = 2 ∨ q = 3 := by omega
  rcases this with rfl | rfl | rfl | rfl
  · exact ⟨show (0 : Int) ≤ 120 by omega, show (120 : Int) ≤ 400 by omega, hi'⟩
  · exact ⟨show (0 : Int) ≤ 120 by omega, show (120 : Int) ≤ 400 by omega, hi'⟩
  · exact ⟨show (0 : Int) ≤ 60 by omega, show (60 : Int) ≤ 400 by omega, hi'⟩
  · exact ⟨hx0, hx, hi'⟩
theorem spec_DrawTour_ev {l : List Int} (hl : l.length ≤ 1048576) : ∃ (w h : Int) (c : Nat) (way L : List Int), gridOk w h = true ∧ c < cellsN w h ∧ way.length ≤ 400 ∧ (∀ d ∈ way, 0 ≤ d ∧ d ≤ 3) ∧ wk (stepI w h (fullN w h)) c way = some L ∧ Ev (fun k => spec_DrawTour.f k l) (w, h, (c : Int), way) := by
  obtain ⟨h', e1⟩ := spec_New_ev hl
  obtain ⟨w, h, i2, h2, e2, hg, hi2⟩ := spec_Grid_eq hl (i := 0) (by omega) h'
  have hV := cells_pos hg
  have h16 := cellsN_le w h
  have hVc := cellsN_cast w h
  obtain ⟨b, i3, h3, e3, b0, b1, hi3⟩ := spec_Below_eq hl hi2 h2 (n := cellsOf w h) (by omega) (by omega)
  obtain ⟨c, rfl⟩ := Int.eq_ofNat_of_zero_le b0
  obtain ⟨x, i4, h4, e4, x0, x1, hi4⟩ := spec_Below_eq hl hi3 h3 (n := 20) (by omega) (by omega)
  obtain ⟨v, i5, h5, e5, v0, v1, hi5⟩ := spec_PickL_eq hl hi4 h4 x x0 (by omega)
  obtain ⟨N, rfl⟩ := Int.eq_ofNat_of_zero_le v0
  obtain ⟨way, L, i6, h6, w1, w2, w3, ev⟩ := tour_l0 (xs := l) hg (fullN_lt w h) hl (N := N) (by omega) N 0 (c : Int) [] i5 h5 (by omega) (by simp) hi5
  refine ⟨w, h, c, way, L, hg, by omega, by omega, w2, w3, ?_⟩
  have hW : Ev (fun k => spec_l16Way.f k l i3 h3 w h c) (way, i6, h6) := by
    unfold spec_l16Way.f
    exact Ev.bnd0 (spec_FullMaze_eq hg) (Ev.bnd0 e4 (Ev.bnd0 e5 (Ev.eq ev (by simp))))
  unfold spec_DrawTour.f
  exact Ev.bind e1 (Ev.bnd0 e2 (Ev.bnd0 (spec_CountCells_eq w h) (Ev.bnd0 e3 (Ev.bind hW (Ev.ret rfl)))))
/-! Cover time -/
def coverG (V : Int) (L : List Int) : Nat → Nat → Int
  | 0, _ => -1
  | d + 1, i => if ((ordF (L.take (i + 1))).length : Int) = V then (i : Int) else coverG V L d (i + 1)
theorem implCoverG_l0 (L : List Int) (hL : L.length ≤ 1000) (w h : Int) : ∀ (d i : Nat), i + d = L.length → Ev (fun k => impl_CoverTime.l0 k L (L.length : Int) i w h) (coverG (cellsOf w h) L d i)
  | 0, i, hd => Ev.step (fun _ => impl_CoverTime.l0.eq_2 ..) (Ev.ff (by omega) (Ev.ret rfl))
  | d + 1, i, hd => by
    refine Ev.step (fun _ => impl_CoverTime.l0.eq_2 ..) (Ev.tt (by omega) ?_)
    rw [wsucc (by omega)]
    refine Ev.tt (by omega) (Ev.tt (by omega) ?_)
    rw [show (((i + 1 : Nat) : Int)).toNat = i + 1 from rfl]
    have hc : slices_Clone_int_int.f (L.take (i + 1)) = some (L.take (i + 1)) := by
      unfold slices_Clone_int_int.f; rw [if_pos (by rw [List.length_take]; omega)]
    have ho : impl_ordered.f (L.take (i + 1)) = some (ordF (L.take (i + 1))) := by
      unfold impl_ordered.f; rw [if_pos (by rw [List.length_take]; omega)]
    refine Ev.bnd0 hc (Ev.bnd0 ho (Ev.bnd0 (impl_CountCells_eq w h) ?_))
    unfold coverG
    refine Ev.ite (fun e => ?_) (fun e => ?_)
    · rw [if_pos e]; exact Ev.ret rfl
    · rw [if_neg e]; exact implCoverG_l0 L hL w h d (i + 1) (by omega)
theorem impl_CoverTime_ev {w h : Int} (hg : gridOk w h = true) (c : Int) (way : List Int) : Ev (fun k => impl_CoverTime.f k w h c way) (coverG (cellsOf w h) (cellsN' w h (fullN w h) c way) (cellsN' w h (fullN w h) c way).length 0) := by
  have hl := cellsN'_len w h (fullN w h) c way
  unfold impl_CoverTime.f
  exact Ev.bnd0 (impl_FullMaze_eq hg) (Ev.bind (impl_CellsOn_ev hg (fullN_lt w h) c way) (implCoverG_l0 _ (by omega) w h _ 0 (by omega)))
theorem coverG_facts (V : Int) (L : List Int) : ∀ (d i : Nat), (coverG V L d i = -1 ∧ ∀ j, i ≤ j → j < i + d → ((ordF (L.take (j + 1))).length : Int) ≠ V) ∨ (∃ j : Nat, i ≤ j ∧ j < i + d ∧ coverG V L d i = j ∧ ((ordF (L.take (j + 1))).length : Int) = V)
  | 0, i => .inl ⟨rfl, fun j h1 h2 => by omega⟩
  | d + 1, i => by
    unfold coverG
    by_cases e : ((ordF (L.take (i + 1))).length : Int) = V
    · rw [if_pos e]
      exact .inr ⟨i, by omega, by omega, rfl, e⟩
    · rw [if_neg e]
      rcases coverG_facts V L d (i + 1) with ⟨h1, h2⟩ | ⟨j, h1, h2, h3, h4⟩
      · refine .inl ⟨h1, fun j a b => ?_⟩
        by_cases ej : j = i
        · subst ej; exact e
        · exact h2 j (by omega) (by omega)
      · exact .inr ⟨j, by omega, by omega, h3, h4⟩
end Go.Proofs.Ytcajhmldbkfhiaa.P
namespace Go.Proofs.Ytcajhmldbkfhiaa.P
open Go.RowKit Go.Proofs.YtcajhmldbkfhiaaW.PrintWords Go.Proofs.Ytcajhmldbkfhiaa.Sup
set_option linter.unusedVariables false
set_option linter.unusedSimpArgs false

theorem enFrom_enN {w h : Int} {q : Nat → Bool} {L way : List Int} : ∀ (e i : Nat), enFrom w h q L way e i (enN q (gapW w h L way) i) = enN q (gapW w h L way) (i + e)
  | 0, i => rfl
  | e + 1, i => by
    unfold enFrom
    have := enFrom_enN (w := w) (h := h) (q := q) (L := L) (way := way) e (i + 1)
    rw [show i + (e + 1) = i + 1 + e by omega, ← this]
    rfl
theorem enN_congr {q q' : Nat → Bool} {G : Nat → Nat} : ∀ {i : Nat}, (∀ j, j < i → q j = q' j) → enN q G i = enN q' G i
  | 0, _ => rfl
  | i + 1, h => by
    unfold enN
    rw [enN_congr (i := i) (fun j hj => h j (by omega)), h i (by omega)]
theorem rd_tail {l : List Int} {i : Nat} (h : i < l.length) : rd l (i : Int) ∈ l := by rw [rd_get h]; exact List.getElem_mem h
/-- The cells of a walk, as numbers. -/
def cN (L : List Int) (i : Nat) : Nat := (rd L (i : Int)).toNat
section
variable {w h : Int} {n : Nat}
theorem wk_range {way : List Int} {c : Int} {l : List Int} (hc : 0 ≤ c ∧ c < cellsOf w h) (hk : wk (stepI w h n) c way = some l) : ∀ x ∈ c :: l, 0 ≤ x ∧ x < cellsOf w h := by
  induction way generalizing c l with
  | nil => cases hk; intro x hx; rw [List.mem_singleton.1 hx]; exact hc
  | cons d ds ih =>
    unfold wk at hk
    by_cases e : stepI w h n c d < 0
    · rw [if_pos e] at hk; cases hk
    · rw [if_neg e] at hk
      obtain ⟨l', h', rfl⟩ := Option.map_eq_some_iff.1 hk
      intro x hx
      rcases List.mem_cons.1 hx with rfl | hx
      · exact hc
      · refine ih ?_ h' x hx
        rcases step_lt (w := w) (h := h) (c := c) (d := d) (n := n) with h1 | h1
        · omega
        · exact h1
theorem wk_at {way : List Int} : ∀ {c : Int} {l : List Int}, wk (stepI w h n) c way = some l → ∀ i : Nat, i < way.length → rd (c :: l) ((i + 1 : Nat) : Int) = stepI w h n (rd (c :: l) (i : Int)) (rd way (i : Int)) ∧ 0 ≤ stepI w h n (rd (c :: l) (i : Int)) (rd way (i : Int)) := by
  induction way with
  | nil => intro c l _ i hi; simp at hi
  | cons d ds ih =>
    intro c l hk i hi
    unfold wk at hk
    by_cases e : stepI w h n c d < 0
    · rw [if_pos e] at hk; cases hk
    · rw [if_neg e] at hk
      obtain ⟨l', h', rfl⟩ := Option.map_eq_some_iff.1 hk
      cases i with
      | zero => exact ⟨rfl, by show 0 ≤ stepI w h n c d; omega⟩
      | succ i => exact ih h' i (by simpa using hi)
/-- A walk in the full maze is a walk. -/
theorem tour_walk (hn : n < 2 ^ gapsN w h) {way : List Int} {c : Nat} {l : List Int} (hc : c < cellsN w h) (hk : wk (stepI w h n) c way = some l) : Walk w h (cN ((c : Int) :: l)) (gapW w h ((c : Int) :: l) way) way.length := by
  have hV := cellsN_cast w h
  have hlen := wk_len hk
  have hr := wk_range (w := w) (h := h) (c := (c : Int)) (by omega) hk
  refine ⟨by show ((c : Int)).toNat < _; omega, fun i hi => ?_⟩
  obtain ⟨e1, e2⟩ := wk_at hk i hi
  obtain ⟨g, g1, g2, g3, g4, g5⟩ := step_open hn e2
  have hx := hr _ (rd_tail (l := (c : Int) :: l) (i := i) (by simp only [List.length_cons]; omega))
  have hy := hr _ (rd_tail (l := (c : Int) :: l) (i := i + 1) (by simp only [List.length_cons]; omega))
  have hg : gapW w h ((c : Int) :: l) way i = g := by unfold gapW; rw [g2]; rfl
  rw [hg]
  refine ⟨g1, ?_⟩
  unfold ends cN
  rw [g5, ← g4, ← e1]
  rcases Int.le_total (rd ((c : Int) :: l) (i : Int)) (rd ((c : Int) :: l) ((i + 1 : Nat) : Int)) with hh | hh
  · left; rw [Int.min_eq_left hh, Int.max_eq_right hh]
  · right; rw [Int.min_eq_right hh, Int.max_eq_left hh]
theorem mem_take_iff {L : List Int} (hr : ∀ x ∈ L, 0 ≤ x) {i : Nat} {x : Int} (hx : 0 ≤ x) (hi : i ≤ L.length) : x ∈ L.take i ↔ ∃ j, j < i ∧ cN L j = x.toNat := by
  rw [List.mem_take_iff_getElem]
  constructor
  · rintro ⟨j, hj, rfl⟩
    refine ⟨j, by omega, ?_⟩
    unfold cN
    rw [rd_get (by omega)]
  · rintro ⟨j, hj, e⟩
    refine ⟨j, by omega, ?_⟩
    unfold cN at e
    rw [rd_get (by omega)] at e
    have := hr _ (List.getElem_mem (show j < L.length by omega))
    omega
theorem mem_drop_iff {L : List Int} (hr : ∀ x ∈ L, 0 ≤ x) {i : Nat} {x : Int} (hx : 0 ≤ x) : x ∈ L.drop i ↔ ∃ j, i ≤ j ∧ j < L.length ∧ cN L j = x.toNat := by
  rw [List.mem_drop_iff_getElem]
  constructor
  · rintro ⟨j, hj, rfl⟩
    refine ⟨i + j, by omega, by omega, ?_⟩
    unfold cN
    rw [rd_get (by omega)]
  · rintro ⟨j, h1, h2, e⟩
    refine ⟨j - i, by omega, ?_⟩
    unfold cN at e
    rw [rd_get h2] at e
    have := hr _ (List.getElem_mem h2)
    simp only [show i + (j - i) = j by omega]
    omega
end
theorem ordF_seen {w h : Int} {L : List Int} {G : Nat → Nat} {N : Nat} (hr : ∀ x ∈ L, 0 ≤ x) (hl : L.length = N + 1) (W : Walk w h (cN L) G N) : ∀ i, i ≤ N → (ordF (L.take (i + 1))).length = pop (cellsN w h) (seen (cN L) i)
  | 0, _ => by
    rw [seen_start W.1]
    obtain ⟨x, t, rfl⟩ : ∃ x t, L = x :: t := by cases L with | nil => simp at hl | cons x t => exact ⟨x, t, rfl⟩
    rfl
  | i + 1, hi => by
    have ih := ordF_seen hr hl W i (by omega)
    have e : L.take (i + 1 + 1) = L.take (i + 1) ++ [L[i + 1]'(by omega)] := by rw [List.take_succ_eq_append_getElem (by omega)]
    rw [e, ordF_snoc_len, ih, seen_pop W (by omega)]
    congr 1
    have hx := hr _ (List.getElem_mem (show i + 1 < L.length by omega))
    have hm := mem_take_iff hr hx (i := i + 1) (by omega)
    have hq : qS (cN L) i = true ↔ L[i + 1] ∈ L.take (i + 1) := by
      unfold qS
      rw [seen_bit, hm]
      have e2 : cN L (i + 1) = (L[i + 1]'(by omega)).toNat := by unfold cN; rw [rd_get (by omega)]
      rw [e2]
      constructor
      · rintro ⟨j, h1, h2⟩; exact ⟨j, by omega, h2⟩
      · rintro ⟨j, h1, h2⟩; exact ⟨j, by omega, h2⟩
    by_cases hc : L[i + 1] ∈ L.take (i + 1)
    · rw [if_pos hc, if_pos (hq.2 hc)]
    · rw [if_neg hc, if_neg (fun q => hc (hq.1 q))]
def snakeB (W H : Nat) : Bool := match impl_SnakeWay.f 70 W H with
  | some way => decide (coverG (cellsOf W H) (cellsN' W H (fullN W H) 0 way) (cellsN' W H (fullN W H) 0 way).length 0 = cellsOf W H - 1)
  | none => false
theorem snake_all : ∀ W : Nat, W < 5 → ∀ H : Nat, H < 5 → gridOk W H = true → snakeB W H = true := by decide +kernel
theorem snake_ev {w h : Int} (hg : gridOk w h = true) : ∃ way, Ev (fun k => impl_SnakeWay.f k w h) way ∧ coverG (cellsOf w h) (cellsN' w h (fullN w h) 0 way) (cellsN' w h (fullN w h) 0 way).length 0 = cellsOf w h - 1 := by
  obtain ⟨W, H, rfl, rfl, _, w5, _, h5⟩ := grid_nat hg
  have := snake_all W w5 H h5 hg
  unfold snakeB at this
  cases hs : impl_SnakeWay.f 70 W H with
  | none => rw [hs] at this; cases this
  | some way =>
    rw [hs] at this
    exact ⟨way, Ev.of (fun k => impl_SnakeWay.mono _ _ k) hs, of_decide_eq_true this⟩
theorem FnEntries_pure (l : List Int) (hy : l.length ≤ 140737488351232) (hz : ∀ x ∈ l, 0 ≤ x ∧ x ≤ 255) : ∃ k, laws_FnEntries.f k l = some true := by
  refine Ev.rounds ?_
  unfold laws_FnEntries.f
  refine Ev.bnd0 rfl (Ev.ite (fun _ => Ev.ret rfl) (fun hb => ?_))
  have hl : l.length ≤ 1048576 := by simp only [decide_eq_true_eq] at hb; omega
  obtain ⟨w, h, c, way, L, hg, hc, hw4, hd, hk, ed⟩ := spec_DrawTour_ev hl
  have hV := cells_pos hg
  have h16 := cellsN_le w h
  have hVc := cellsN_cast w h
  have hn := fullN_lt w h
  have hcI : isCellI w h c = true := isCellI_nat hc
  have hLl := wk_len hk
  have hr := wk_range (w := w) (h := h) (c := (c : Int)) (by omega) hk
  have hr0 : ∀ x ∈ (c : Int) :: L, 0 ≤ x := fun x hx => (hr x hx).1
  have W := tour_walk hn hc hk
  have hcells : cellsN' w h (fullN w h) c way = (c : Int) :: L := by
    unfold cellsN'
    rw [if_pos ⟨hcI, hw4⟩, hk]
  have hWo : WayOk w h ((c : Int) :: L) way := by
    have := wayOk (w := w) (h := h) (n := fullN w h) (c := c) (way := way) (by rw [hcells]; simp)
    rwa [hcells] at this
  -- the walk back
  have hk' := wk_back hk
  have hrev : ((c : Int) :: L).reverse = lastO c L :: ((c : Int) :: L).reverse.tail := by
    have := List.cons_head_tail (l := ((c : Int) :: L).reverse) (by simp)
    rw [List.head_reverse] at this
    exact this.symm
  have hlast : lastO c L ∈ (c : Int) :: L := List.getLast_mem _
  have hlI : isCellI w h (lastO c L) = true := by have := hr _ hlast; unfold isCellI; exact decide_eq_true this
  have hwl' : (revD way).length = way.length := by simp [revD]
  have hcells' : cellsN' w h (fullN w h) (lastO c L) (revD way) = ((c : Int) :: L).reverse := by
    unfold cellsN'
    rw [if_pos ⟨hlI, by omega⟩, hk']
    exact hrev.symm
  have hWo' : WayOk w h ((c : Int) :: L).reverse (revD way) := by
    have := wayOk (w := w) (h := h) (n := fullN w h) (c := lastO c L) (way := revD way) (by rw [hcells']; simp)
    rwa [hcells'] at this
  -- the two masks
  have hqF : ∀ j, j < way.length → qF ((c : Int) :: L) j = qS (cN ((c : Int) :: L)) j := fun j hj => by
    have hx := hr0 _ (rd_tail (l := (c : Int) :: L) (i := j + 1) (by simp only [List.length_cons]; omega))
    rw [Bool.eq_iff_iff]
    unfold qF qS
    rw [decide_eq_true_eq, mem_take_iff hr0 hx (by simp only [List.length_cons]; omega), seen_bit]
    constructor
    · rintro ⟨i, h1, h2⟩; exact ⟨i, by omega, h2⟩
    · rintro ⟨i, h1, h2⟩; exact ⟨i, by omega, h2⟩
  have hmF : enFrom w h (qF ((c : Int) :: L)) ((c : Int) :: L) way way.length 0 0 = enN (qS (cN ((c : Int) :: L))) (gapW w h ((c : Int) :: L) way) way.length := by
    have := enFrom_enN (w := w) (h := h) (q := qF ((c : Int) :: L)) (L := (c : Int) :: L) (way := way) way.length 0
    rw [Nat.zero_add] at this
    rw [← enN_congr hqF, ← this]
    rfl
  have hrl : ((c : Int) :: L).reverse.length = way.length + 1 := by simp [hLl]
  have hr0' : ∀ x ∈ ((c : Int) :: L).reverse, 0 ≤ x := fun x hx => hr0 x (List.mem_reverse.1 hx)
  have hcr : ∀ i, i ≤ way.length → cN ((c : Int) :: L).reverse i = cN ((c : Int) :: L) (way.length - i) := fun i hi => by
    unfold cN
    rw [rd_get (by omega), rd_get (by simp only [List.length_cons]; omega), List.getElem_reverse]
    simp only [List.length_cons, hLl]
    congr 2
  have hGr : ∀ i, i < way.length → gapW w h ((c : Int) :: L).reverse (revD way) i = gapW w h ((c : Int) :: L) way (way.length - 1 - i) := fun i hi => by
    obtain ⟨a1, a2⟩ := wk_at hk (way.length - 1 - i) (by omega)
    have hb := (step_back (w := w) (h := h) (n := fullN w h) a2).2
    rw [← a1] at hb
    unfold gapW
    have e1 : rd ((c : Int) :: L).reverse (i : Int) = rd ((c : Int) :: L) ((way.length - 1 - i + 1 : Nat) : Int) := by
      rw [rd_get (by omega), rd_get (by simp only [List.length_cons]; omega), List.getElem_reverse]
      simp only [List.length_cons, hLl]
      congr 1
      omega
    have e2 : rd (revD way) (i : Int) = (rd way ((way.length - 1 - i : Nat) : Int) + 2) % 4 := by
      rw [rd_get (by omega), rd_get (by omega)]
      unfold revD
      rw [List.getElem_map, List.getElem_reverse]
    rw [e1, e2, hb]
  have hmL : enFrom w h (qL ((c : Int) :: L).reverse) ((c : Int) :: L).reverse (revD way) (revD way).length 0 0 = enN (qS (cN ((c : Int) :: L))) (gapW w h ((c : Int) :: L) way) way.length := by
    have := enFrom_enN (w := w) (h := h) (q := qL ((c : Int) :: L).reverse) (L := ((c : Int) :: L).reverse) (way := revD way) (revD way).length 0
    rw [Nat.zero_add] at this
    have e0 : enFrom w h (qL ((c : Int) :: L).reverse) ((c : Int) :: L).reverse (revD way) (revD way).length 0 0 = enN (qL ((c : Int) :: L).reverse) (gapW w h ((c : Int) :: L).reverse (revD way)) (revD way).length := this
    rw [e0, hwl']
    refine ent_back hcr hGr fun i hi => ?_
    have hx := hr0' _ (rd_tail (l := ((c : Int) :: L).reverse) (i := i) (by omega))
    unfold qL
    rw [decide_eq_true_eq, mem_drop_iff hr0' hx]
    constructor
    · rintro ⟨j, h1, h2, h3⟩; exact ⟨j, by omega, by omega, h3⟩
    · rintro ⟨j, h1, h2, h3⟩; exact ⟨j, by omega, by omega, h3⟩
  have hnil : ¬ ((c : Int) :: L).length = 0 := by simp
  have hnil' : ¬ ((c : Int) :: L).reverse.length = 0 := by rw [hrl]; omega
  have eF : Ev (fun k => impl_FirstEntryMaze.f k w h c way) (enR w h (qF ((c : Int) :: L)) ((c : Int) :: L) way) := by
    have e0 := impl_CellsOn_ev hg hn c way
    rw [hcells] at e0
    unfold impl_FirstEntryMaze.f
    exact Ev.bnd0 (impl_FullMaze_eq hg) (Ev.bind e0 (Ev.ff hnil (impl_First_l0 hWo way.length 0 0 (by omega) (Nat.two_pow_pos _))))
  have eL : Ev (fun k => impl_LastExitMaze.f k w h (lastO c L) (revD way)) (enR w h (qL ((c : Int) :: L).reverse) ((c : Int) :: L).reverse (revD way)) := by
    have e0 := impl_CellsOn_ev hg hn (lastO c L) (revD way)
    rw [hcells'] at e0
    unfold impl_LastExitMaze.f
    exact Ev.bnd0 (impl_FullMaze_eq hg) (Ev.bind e0 (Ev.ff hnil' (impl_Last_l0 hWo' (revD way).length 0 0 (by omega) (Nat.two_pow_pos _))))
  unfold enR at eF eL
  rw [hmF] at eF
  rw [hmL] at eL
  have hperf := ent_perf hg W
  have hmlt := ent_lt W
  have hos := ordF_seen (w := w) (h := h) hr0 (by simp [hLl]) W
  have hsl := seen_le (w := w) (h := h) W.1 W
  have hsm := fun i d => seen_mono (w := w) (h := h) W (i := i) d
  have eC := impl_CoverTime_ev hg (c : Int) way
  rw [hcells] at eC
  have hcf := coverG_facts (cellsOf w h) ((c : Int) :: L) ((c : Int) :: L).length 0
  have hll : ((c : Int) :: L).length = way.length + 1 := by simp [hLl]
  have hpl := fun i => pop_le (cellsN w h) (seen (cN ((c : Int) :: L)) i)
  generalize enN (qS (cN ((c : Int) :: L))) (gapW w h ((c : Int) :: L) way) way.length = m at *
  generalize coverG (cellsOf w h) ((c : Int) :: L) ((c : Int) :: L).length 0 = t at *
  have hpI : perfI w h m = perfN w h m := by
    cases hp : perfN w h m
    · rw [Bool.eq_false_iff]
      intro q
      obtain ⟨_, n', e, _, hp'⟩ := perfI_iff.1 q
      have : n' = m := by omega
      subst this
      rw [hp] at hp'; cases hp'
    · exact perfI_iff.2 ⟨hg, m, rfl, hmlt, hp⟩
  rw [hpI] at eF eL
  have c1 : (perfN w h m == decide (t ≥ 0)) = true := by
    rw [beq_iff_eq, Bool.eq_iff_iff, hperf, decide_eq_true_eq]
    rcases hcf with ⟨a1, a2⟩ | ⟨j, a1, a2, a3, a4⟩
    · constructor
      · intro q
        have h1 := a2 way.length (by omega) (by omega)
        rw [hos way.length (by omega)] at h1
        omega
      · intro q; omega
    · constructor
      · intro _; omega
      · intro _
        rw [hos j (by omega)] at a4
        have h1 := hsm j (way.length - j) (by omega)
        rw [show j + (way.length - j) = way.length by omega] at h1
        have h2 := hpl way.length
        omega
  have c2 : ((w == w && (h == h)) && ((m : Int) == (m : Int))) = true := by simp
  have c3 : t ≤ (way.length : Int) := by
    rcases hcf with ⟨a1, a2⟩ | ⟨j, a1, a2, a3, a4⟩ <;> omega
  have c4 : t < 0 ∨ t ≥ cellsOf w h - 1 := by
    rcases hcf with ⟨a1, a2⟩ | ⟨j, a1, a2, a3, a4⟩
    · left; omega
    · right
      rw [hos j (by omega)] at a4
      have := hsl j (by omega)
      omega
  obtain ⟨sw, es, hsw⟩ := snake_ev hg
  have eCs := impl_CoverTime_ev hg (0 : Int) sw
  rw [hsw] at eCs
  have hw1 : wrap64 (cellsOf w h - 1) = cellsOf w h - 1 := wrap64_id (by omega) (by omega)
  refine Ev.bind ed (Ev.bind eF (Ev.bind eC (Ev.bnd0 (spec_FullMaze_eq hg) (Ev.bind (spec_WalkWay_ev hg hn hcI hw4 hk) (Ev.bind (spec_ReverseWay_ev way hw4 hd) (Ev.bind eL (Ev.bnd0 (spec_CountCells_eq w h) ?_)))))))
  rw [hw1]
  refine Ev.tt c1 (Ev.tt c2 (Ev.tt (beq_self_eq_true _) (Ev.tt c3 (Ev.ite (fun e => ?_) (fun e => ?_)))))
  · exact Ev.bind es (Ev.bind eCs (Ev.ret (beq_self_eq_true _)))
  · exact Ev.tt (by omega) (Ev.bind es (Ev.bind eCs (Ev.ret (beq_self_eq_true _))))
end Go.Proofs.Ytcajhmldbkfhiaa.P
namespace Go.Proofs.Ytcajhmldbkfhiaa.fnEntries
open Go.ChangeShapes Go.WideShapes Go.ChangeAt Go.RowKit Go.Proofs.YtcajhmldbkfhiaaW.PrintWords Go.Proofs.Ytcajhmldbkfhiaa.Sup
open Go.ChangeMaps (open_string shut_string)
set_option linter.unusedVariables false
theorem own : ownKnob Try.prog.godebug = none := by kernel_rfl
theorem laidOut : laidOutB Try.prog = true := by kernel_rfl
set_option maxRecDepth 100000 in
theorem lifted (os : Os) (started : os.Started) (H : Type) (enc : TypeId × Value → H) :
    ReturnsInHanded {} Try.checked os 11 .any (Rows.fnEntriesSpec.pre6 enc Try.prog Try.f11 Rows.fnEntriesRow.domain false) (Rows.fnEntriesSpec.post enc Try.prog Try.f11 false true false false) := by
  refine returnsInHanded_of_change_sized (C := Try.checked) own started (by kernel_rfl) Try.func11
    (ChangeSpec.witness6 (enc := enc) (C := Try.checked) false ⟨#[], #[.slice none 0 0], []⟩ 8 (by kernel_rfl) (by kernel_rfl) (by kernel_rfl) (by kernel_rfl)) ?_
  intro W base args ds gs before hval0 hW hcnd hsz0 _
  have hsz : (DataW.weightsEach Try.prog (Try.f11.params.toList ++ Rows.fnEntriesSpec.plain.varTypes Try.prog) (ds ++ gs)).all (· ≤ reachBytes) = true := hsz0
  have hval : ∀ (j : Nat) t v, Try.f11.params[j]? = some t → args[j]? = some v → Value.okWide Try.prog W .any base t v := hval0
  have hW' := hW
  obtain ⟨p, q, hA0, hV, rfl, hfz, hnd⟩ := hW
  have hA : DataW.TrodAll enc Try.prog W 0 (fun _ => true) true Try.f11.params.toList args.toList ds p := hA0
  rw [Try.params11] at hA hval hsz
  obtain ⟨v0, vs0, d0, ds0, p0, q0, hargs, rfl, rfl, h0, r0⟩ := trodAll_cons hA
  obtain ⟨rfl, rfl, rfl⟩ := trodAll_nil r0
  obtain rfl : args = #[v0] := by cases args; simp_all
  obtain ⟨rfl, rfl⟩ := trodVars_none hV
  obtain ⟨a0, len0, cap0, rfl⟩ := okWide_slice Try.underlying39 (hval 0 39 v0 rfl rfl)
  have k0 := h0
  have lt0 : ∀ x ∈ p0, x.block < W.heap.size := by obtain ⟨m, hm⟩ := k0; exact DataW.trod_lt m _ _ _ hm
  obtain ⟨z0, w0⟩ : ∃ zs, IsRow .u8 W a0 len0 cap0 zs := by
    obtain ⟨fuel, hf⟩ := h0
    rcases open_ints Try.underlying39 Try.underlying5 (by kernel_rfl) hf with ⟨hcs, _⟩ | ⟨x, l, c, zs, hcs, _, hl, hm, hz, _, hcell, hwz⟩
    · simp [Value.cells] at hcs
      obtain ⟨rfl, rfl, rfl⟩ := hcs
      exact ⟨[], .inl ⟨rfl, rfl, rfl, rfl⟩⟩
    · simp [Value.cells] at hcs
      obtain ⟨rfl, rfl, rfl⟩ := hcs
      exact ⟨zs, .inr ⟨_, rfl, hl, hm, by simpa using hz, hcell, hwz⟩⟩
  have y0 : len0 * 1 ≤ 140737488351232 := sized_ints hsz (j := 0) (t := 39) rfl rfl Try.underlying39 Try.underlying5 (by kernel_rfl) (by kernel_rfl) h0
  obtain ⟨l0, rfl, hr0, hm0, hw0, hc0⟩ := ReadsInt.ofRowC w0
  clear hA0 hval0 hsz0 hsz
  obtain ⟨k, hf⟩ := P.FnEntries_pure l0 (by omega) (fun x hx => u8_of_wf (hw0 x hx))
  refine (P.laws_FnEntries.calls k _ _ l0 true W (Kd.C_of_reads (d := (0 : Int)) (h1 := fun _ => rfl) hr0) hc0 hf).mono fun e W' ⟨he, bel0⟩ => ?_
  have bel : Below W.heap.size W W' := bel0
  subst he
  exact ⟨_, rfl, _, _, _, [], _, [], hW', trodAll_mk1 (shut_bool Try.underlying4 _), (trodAll_cons_mk (Below.trod laidOut (by kernel_rfl) (of_decide_eq_true (by kernel_rfl)) k0 bel lt0) trodAll_mk0), rfl, bel.frame _, fun h => by cases h⟩
theorem over : Rows.fnEntriesRow.holds Try.pinned (OpenSpec.ofChange Rows.fnEntriesSpec) :=
  OpenClaim.holds_of_wide 11 Try.f11 rfl rfl rfl rfl rfl rfl rfl ⟨rfl, rfl, rfl, rfl, rfl⟩ rfl rfl rfl rfl rfl (by kernel_rfl) Try.func11 (by kernel_rfl)
    (of_decide_eq_true (by kernel_rfl)) (by unfold Func.isWrapper; first | (rw [if_pos (by decide +kernel)]; kernel_rfl) | (rw [if_neg (by decide +kernel)]; exact ⟨rfl, rfl⟩))
    (fun os started H enc _ => lifted os started H enc)
theorem proved : Rows.FnEntriesSaid := over
end Go.Proofs.Ytcajhmldbkfhiaa.fnEntries
namespace Go.Proofs.Ytcajhmldbkfhiaa
/-- The row, under a short name, for the claim. -/
theorem fnEntries_holds : Rows.FnEntriesSaid := fnEntries.proved
#print axioms fnEntries_holds
end Go.Proofs.Ytcajhmldbkfhiaa
