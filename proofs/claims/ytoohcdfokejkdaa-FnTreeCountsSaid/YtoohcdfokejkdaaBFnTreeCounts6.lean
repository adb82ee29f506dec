/- The statement FnTreeCounts of the seat, out of its plain form (FnTreeCounts_pure) and the walk of its Go function. Part 6 of 6: each Go function's walk, then the plain lemmas, then the row. No condition: it holds for every input. -/
import Derived.Test.YtoohcdfokejkdaaBFnTreeCounts5
import Derived.Test.YtoohcdfokejkdaaRows
import Derived.Below
import Derived.ChangeOld
import Derived.Deep.Matrix
import Derived.Lib.SmallJoins
import Derived.OpenShut
import Derived.ProofKit
import Derived.ShutString
import Derived.SizedLaws
import Derived.WalkKit
namespace Go.Proofs.Ytoohcdfokejkdaa.Sup
open Go.ChangeShapes Go.WideShapes Go.ChangeAt Go.RowKit Go.Joins Go.Proofs.YtoohcdfokejkdaaW.PrintWords
set_option linter.unusedVariables false
set_option linter.unusedSimpArgs false

theorem u8_of_wf {a : Int} (h : (Lit.int .u8 a).wf = true) : 0 ≤ a ∧ a ≤ 255 := by
 simp only [Lit.wf, IntKind.min, IntKind.max, IntKind.signed, IntKind.bits, Bool.and_eq_true, decide_eq_true_eq] at h
 simp at h
 omega

section
variable {H : Type} {enc : TypeId × Value → H} {P : Program} {w : World} {base : Nat} {spare : Nat → Bool} {held : Bool}

end

def IsRow (k : IntKind) (w : World) (a : Option Addr) (len cap : Nat) (zs : List Int) : Prop :=
 (a = none ∧ len = 0 ∧ cap = 0 ∧ zs = []) ∨
 ∃ x, a = some x ∧ len ≤ cap ∧ cap ≤ maxLen ∧ zs.length = cap ∧ (∀ i, i < zs.length → w.cell? (x.add i) = some (.int k (zs.getD i 0))) ∧ ∀ n ∈ zs, (Lit.int k n).wf = true

end Go.Proofs.Ytoohcdfokejkdaa.Sup
namespace Go.Proofs.Ytoohcdfokejkdaa.P
open Go.RowKit Go.Proofs.YtoohcdfokejkdaaW.PrintWords
set_option linter.unusedVariables false
set_option linter.unusedSimpArgs false

theorem l01In_eq (a b c : Int) : spec_l01In.f a b c = some (decide (b ≤ a ∧ a ≤ c)) := by
 unfold spec_l01In.f
 by_cases h : a ≥ b
 ·rw [if_pos h]; congr 1; simp; omega
 ·rw [if_neg h]; congr 1; simp; omega

end Go.Proofs.Ytoohcdfokejkdaa.P
namespace Go.Proofs.Ytoohcdfokejkdaa.P
open Go.RowKit Go.Proofs.YtoohcdfokejkdaaW.PrintWords Go.Proofs.Ytoohcdfokejkdaa.Sup
set_option linter.unusedVariables false
set_option linter.unusedSimpArgs false

theorem spec_GridOk_eq (w h : Int) : spec_GridOk.f w h = some (gridOk w h) := by
 unfold spec_GridOk.f
 simp only [l01In_eq, Option.bind_some]
 unfold gridOk
 by_cases h1 : 1 ≤ w ∧ w ≤ 4
 ·simp only [h1, and_self, decide_true, if_true, true_and]
 ·have : ¬ (1 ≤ w ∧ w ≤ 4 ∧ 1 ≤ h ∧ h ≤ 4) := by omega
  rw [decide_eq_false h1, decide_eq_false this]; simp
theorem impl_GridOk_eq (w h : Int) : impl_GridOk.f w h = some (gridOk w h) := by
 unfold impl_GridOk.f gridOk
 repeat' split
 all_goals congr 1
 all_goals first | (rw [decide_eq_decide]; omega) | (symm; rw [decide_eq_false_iff_not]; omega)

theorem impl_CountCells_eq (w h : Int) : impl_CountCells.f w h = some (cellsOf w h) := by
 unfold impl_CountCells.f
 rw [impl_GridOk_eq, Option.bind_some]
 have := cellsOf_range w h
 unfold cellsOf at *
 by_cases hg : gridOk w h = true
 ·rw [if_pos hg] at *
  rw [if_pos hg, wrap64_id (by omega) (by omega)]
 ·rw [if_neg hg, if_neg hg]
theorem spec_CountCells_eq (w h : Int) : spec_CountCells.f w h = some (cellsOf w h) := by
 unfold spec_CountCells.f
 rw [spec_GridOk_eq, Option.bind_some]
 have := cellsOf_range w h
 unfold cellsOf at *
 by_cases hg : gridOk w h = true
 ·rw [if_pos hg] at *
  rw [if_pos hg, wrap64_id (by omega) (by omega)]
 ·rw [if_neg hg, if_neg hg]
theorem impl_CountGaps_eq (w h : Int) : impl_CountGaps.f w h = some (gapsOf w h) := by
 unfold impl_CountGaps.f
 rw [impl_GridOk_eq, Option.bind_some]
 unfold gapsOf
 by_cases hg : gridOk w h = true
 ·rw [if_pos hg, if_pos hg]
  obtain ⟨h1 | h1 | h1 | h1, h2 | h2 | h2 | h2⟩ := grid_cases hg <;> subst h1 <;> subst h2 <;> simp [wrap64, eastOf]
 ·rw [if_neg hg, if_neg hg]
theorem spec_l02East_eq {w h : Int} (hg : gridOk w h = true) : spec_l02East.f w h = some (eastOf w h) := by
 unfold spec_l02East.f eastOf
 obtain ⟨h1 | h1 | h1 | h1, h2 | h2 | h2 | h2⟩ := grid_cases hg <;> subst h1 <;> subst h2 <;> simp [wrap64, eastOf]
theorem spec_CountGaps_eq (w h : Int) : spec_CountGaps.f w h = some (gapsOf w h) := by
 unfold spec_CountGaps.f
 rw [spec_GridOk_eq, Option.bind_some]
 unfold gapsOf
 by_cases hg : gridOk w h = true
 ·rw [if_pos hg, if_pos hg, spec_l02East_eq hg, Option.bind_some]
  obtain ⟨h1 | h1 | h1 | h1, h2 | h2 | h2 | h2⟩ := grid_cases hg <;> subst h1 <;> subst h2 <;> simp [wrap64, eastOf]
 ·rw [if_neg hg, if_neg hg]

theorem shl_one {n : Int} (h0 : 0 ≤ n) (h1 : n ≤ 24) : shl .i64 1 n = 2 ^ n.toNat := by
 obtain ⟨m, rfl⟩ := Int.eq_ofNat_of_zero_le h0
 have : m ≤ 24 := by omega
 clear h0 h1
 revert m
 decide +kernel
end Go.Proofs.Ytoohcdfokejkdaa.P
namespace Go.Proofs.Ytoohcdfokejkdaa.P
open Go.RowKit Go.Proofs.YtoohcdfokejkdaaW.PrintWords Go.Proofs.YtoohcdfokejkdaaW.PrintLast Go.Proofs.YtoohcdfokejkdaaW.PrintMore
attribute [local go_sem] max2_int min2_int max_two min_two max_three min_three max_four min_four   -- for this text's walks alone
set_option linter.unusedVariables false
set_option linter.unusedSimpArgs false

end Go.Proofs.Ytoohcdfokejkdaa.P
namespace Go.Proofs.Ytoohcdfokejkdaa.P
open Go.RowKit Go.Proofs.YtoohcdfokejkdaaW.PrintWords
set_option linter.unusedVariables false
set_option linter.unusedSimpArgs false

theorem impl_isCell_eq (w h c : Int) : impl_isCell.f w h c = some (isCellI w h c) := by
 unfold impl_isCell.f isCellI
 rw [impl_CountCells_eq]
 by_cases hc : c ≥ 0
 ·rw [if_pos hc, Option.bind_some]; congr 1; rw [decide_eq_decide]; omega
 ·rw [if_neg hc]; congr 1; symm; rw [decide_eq_false_iff_not]; omega
theorem impl_Neighbor_ev (w h c d : Int) : Ev (fun k => impl_Neighbor.f k w h c d) (nbI w h c d) := by
 unfold impl_Neighbor.f nbI
 refine Ev.bnd0 (impl_isCell_eq w h c) ?_
 unfold isCellI
 by_cases hc : 0 ≤ c ∧ c < cellsOf w h
 ·rw [if_pos hc]
  obtain ⟨hg, hcw⟩ := cellsOf_valid hc.1 hc.2
  have hcr := cellsOf_range w h
  have hgr := gridOk_iff.1 hg
  refine Ev.tt (by simpa using hc) (Ev.ff (by omega) ?_)
  have hx0 : 0 ≤ c % w := Int.emod_nonneg _ (by omega)
  have hx1 : c % w < w := Int.emod_lt_of_pos _ (by omega)
  have hy0 : 0 ≤ c / w := Int.ediv_nonneg hc.1 (by omega)
  have hy1 : c / w ≤ c := Int.ediv_le_self _ hc.1
  rw [Int.tmod_eq_emod_of_nonneg hc.1, Int.tdiv_eq_ediv_of_nonneg hc.1, wrap64_id (x := c / w) (by omega) (by omega)]
  generalize c % w = x at *
  generalize c / w = y at *
  have j2 : ∀ b : Bool, (d ≠ 0 ∨ ¬ 0 < y) → (d ≠ 1 ∨ ¬ x < w - 1) → (b = true ↔ d = 2 ∧ y < h - 1) → Ev (fun k => impl_Neighbor.j2 k c d x b w h) (if d = 2 ∧ y < h - 1 then c + w else if d = 3 ∧ 0 < x then c - 1 else -1) := by
   intro b _ _ hb
   refine Ev.step (fun _ => impl_Neighbor.j2.eq_2 ..) ?_
   refine Ev.ite (fun e => ?_) (fun e => ?_)
   ·rw [if_pos (hb.1 e), wrap64_id (by omega) (by omega)]; exact Ev.ret rfl
   ·rw [if_neg (fun h => e (hb.2 h))]
    refine Ev.ite (fun e3 => Ev.ite (fun e4 => ?_) (fun e4 => ?_)) (fun e3 => ?_)
    ·rw [if_pos ⟨e3, e4⟩, wrap64_id (by omega) (by omega)]; exact Ev.ret rfl
    ·rw [if_neg (fun h => e4 h.2)]; exact Ev.ret rfl
    ·rw [if_neg (fun h => e3 h.1)]; exact Ev.ret rfl
  have j1 : ∀ b : Bool, (d ≠ 0 ∨ ¬ 0 < y) → (b = true ↔ d = 1 ∧ x < w - 1) → Ev (fun k => impl_Neighbor.j1 k c d x y b w h) (if d = 1 ∧ x < w - 1 then c + 1 else if d = 2 ∧ y < h - 1 then c + w else if d = 3 ∧ 0 < x then c - 1 else -1) := by
   intro b h0 hb
   refine Ev.step (fun _ => impl_Neighbor.j1.eq_2 ..) ?_
   refine Ev.ite (fun e => ?_) (fun e => ?_)
   ·rw [if_pos (hb.1 e), wrap64_id (by omega) (by omega)]; exact Ev.ret rfl
   ·have hn : ¬ (d = 1 ∧ x < w - 1) := fun h => e (hb.2 h)
    rw [if_neg hn]
    refine Ev.ite (fun e2 => ?_) (fun e2 => ?_)
    ·refine j2 _ h0 (by omega) ?_
     rw [wrap64_id (by omega) (by omega)]
     simp [e2]
    ·exact j2 _ h0 (by omega) (by simp [e2])
  have j0 : ∀ b : Bool, (b = true ↔ d = 0 ∧ 0 < y) → Ev (fun k => impl_Neighbor.j0 k c d x y b w h) (if d = 0 ∧ 0 < y then c - w else if d = 1 ∧ x < w - 1 then c + 1 else if d = 2 ∧ y < h - 1 then c + w else if d = 3 ∧ 0 < x then c - 1 else -1) := by
   intro b hb
   refine Ev.step (fun _ => impl_Neighbor.j0.eq_2 ..) ?_
   refine Ev.ite (fun e => ?_) (fun e => ?_)
   ·rw [if_pos (hb.1 e), wrap64_id (by omega) (by omega)]; exact Ev.ret rfl
   ·have hn : ¬ (d = 0 ∧ 0 < y) := fun h => e (hb.2 h)
    rw [if_neg hn]
    refine Ev.ite (fun e2 => ?_) (fun e2 => ?_)
    ·refine j1 _ (by omega) ?_
     rw [wrap64_id (by omega) (by omega)]
     simp [e2]
    ·exact j1 _ (by omega) (by simp [e2])
  refine Ev.ite (fun e => ?_) (fun e => ?_)
  ·exact j0 _ (by simp [e])
  ·exact j0 _ (by simp [e])
 ·rw [if_neg hc]
  exact Ev.ff (by simpa using hc) (Ev.ret rfl)
theorem spec_MazeOk_eq (w h o : Int) : spec_MazeOk.f w h o = some (mazeOk w h o) := by
 have hc := gapsOf_range w h
 have hp := pow_le hc.1 hc.2
 unfold spec_MazeOk.f mazeOk gapsN
 rw [spec_GridOk_eq, Option.bind_some]
 cases hg : gridOk w h
 ·simp
 ·rw [if_pos rfl, spec_CountGaps_eq, Option.bind_some, if_pos hc.1, shl_one hc.1 hc.2, l01In_eq, Option.bind_some, wrap64_id (by omega) (by omega)]
  simp only [Bool.true_and]
  congr 1
  rw [decide_eq_decide]
  omega
theorem impl_MazeOk_eq (w h o : Int) : impl_MazeOk.f w h o = some (mazeOk w h o) := by
 have hc := gapsOf_range w h
 unfold impl_MazeOk.f mazeOk gapsN
 rw [impl_GridOk_eq, Option.bind_some]
 cases hg : gridOk w h
 ·simp
 ·rw [if_pos rfl, impl_CountGaps_eq, Option.bind_some, if_pos hc.1, shl_one hc.1 hc.2]
  simp only [Bool.true_and]
  split
  ·congr 1; rw [decide_eq_decide]; omega
  ·congr 1; symm; rw [decide_eq_false_iff_not]; omega
theorem impl_isOpen_eq (w h : Int) {n : Nat} (hn : n < 16777216) (g : Int) : impl_isOpen.f w h n g = some (openI n g) := by
 unfold impl_isOpen.f openI
 by_cases hg : g ≥ 0
 ·rw [if_pos hg, if_pos hg]
  obtain ⟨m, rfl⟩ := Int.eq_ofNat_of_zero_le hg
  rw [bit_one (by omega)]
  simp
 ·rw [if_neg hg]
  simp; omega
theorem spec_l03Bit_eq {n : Nat} (hn : n < 16777216) {g : Int} (hg : 0 ≤ g) : spec_l03Bit.f n g = some (openI n g) := by
 unfold spec_l03Bit.f openI
 rw [if_pos hg]
 obtain ⟨m, rfl⟩ := Int.eq_ofNat_of_zero_le hg
 rw [bit_one (by omega)]
 simp
theorem impl_isGap_eq (w h g : Int) : impl_isGap.f w h g = some (isGapI w h g) := by
 unfold impl_isGap.f isGapI
 rw [impl_CountGaps_eq]
 by_cases hc : g ≥ 0
 ·rw [if_pos hc, Option.bind_some]; congr 1; rw [decide_eq_decide]; omega
 ·rw [if_neg hc]; congr 1; symm; rw [decide_eq_false_iff_not]; omega
end Go.Proofs.Ytoohcdfokejkdaa.P
namespace Go.Proofs.Ytoohcdfokejkdaa.P
open Go.RowKit Go.Proofs.YtoohcdfokejkdaaW.PrintWords Go.Proofs.YtoohcdfokejkdaaW.PrintLast Go.Proofs.YtoohcdfokejkdaaW.PrintMore
attribute [local go_sem] max2_int min2_int max_two min_two max_three min_three max_four min_four   -- for this text's walks alone
set_option linter.unusedVariables false
set_option linter.unusedSimpArgs false

def spec_EndsOf.f (a0_0 : Int) (a0_1 : Int) (a1 : Int) : Option (Int × Int) := (spec_CountGaps.f a0_0 a0_1).bind fun t102 => ((spec_l01In.f a1 0 (wrap64 (t102 - 1))).bind fun t103 => (if t103 = true then ((spec_l02East.f a0_0 a0_1).bind fun t104 => (if a1 < t104 then (if (wrap64 (a0_0 - 1)) = 0 then (none) else (some (wrap64 ((wrap64 ((wrap64 (Int.tdiv a1 (wrap64 (a0_0 - 1)))) * a0_0)) + (Int.tmod a1 (wrap64 (a0_0 - 1)))), wrap64 ((wrap64 ((wrap64 ((wrap64 (Int.tdiv a1 (wrap64 (a0_0 - 1)))) * a0_0)) + (Int.tmod a1 (wrap64 (a0_0 - 1))))) + 1)))) else ((spec_l02East.f a0_0 a0_1).bind fun t105 => (some (wrap64 (a1 - t105), wrap64 ((wrap64 (a1 - t105)) + a0_0)))))) else (some ((-1), (-1)))))
end Go.Proofs.Ytoohcdfokejkdaa.P
namespace Go.Proofs.Ytoohcdfokejkdaa.P
open Go.RowKit Go.Proofs.YtoohcdfokejkdaaW.PrintWords
set_option linter.unusedVariables false
set_option linter.unusedSimpArgs false

theorem spec_EndsOf_eq (w h g : Int) : spec_EndsOf.f w h g = some (endsI w h g) := by
 unfold spec_EndsOf.f endsI
 have hr0 := gapsOf_range w h
 rw [spec_CountGaps_eq, Option.bind_some, wrap64_id (x := gapsOf w h - 1) (by omega) (by omega), l01In_eq, Option.bind_some]
 by_cases hc : 0 ≤ g ∧ g < gapsOf w h
 ·rw [if_pos hc, if_pos (by simp; omega)]
  obtain ⟨hg, hgw⟩ := gapsOf_valid hc.1 hc.2
  have hgr := gridOk_iff.1 hg
  have hrr := gapsOf_range w h
  have hq0 : 0 ≤ (w - 1) * h := Int.mul_nonneg (by omega) (by omega)
  have hq1 : (w - 1) * h ≤ 3 * 4 := Int.mul_le_mul (by omega) (by omega) (by omega) (by omega)
  have hw1 : w - 1 = 0 → (w - 1) * h = 0 := fun e => by rw [e, Int.zero_mul]
  rw [spec_l02East_eq hg]
  unfold eastOf
  simp only [Option.bind_some]
  rw [wrap64_id (x := w - 1) (by omega) (by omega)]
  by_cases hlt : g < (w - 1) * h
  ·rw [if_pos hlt, if_pos hlt]
   have hne : w - 1 ≠ 0 := fun e => by have := hw1 e; omega
   have ha0 : 0 ≤ g / (w - 1) := Int.ediv_nonneg hc.1 (by omega)
   have ha1 : g / (w - 1) ≤ g := Int.ediv_le_self _ hc.1
   have hb0 : 0 ≤ g % (w - 1) := Int.emod_nonneg _ (by omega)
   have hb1 : g % (w - 1) < w - 1 := Int.emod_lt_of_pos _ (by omega)
   have hp0 : 0 ≤ g / (w - 1) * w := Int.mul_nonneg ha0 (by omega)
   have hp1 : g / (w - 1) * w ≤ 23 * 4 := Int.mul_le_mul (by omega) (by omega) (by omega) (by omega)
   rw [if_neg hne, Int.tmod_eq_emod_of_nonneg hc.1, Int.tdiv_eq_ediv_of_nonneg hc.1, wrap64_id (x := g / (w - 1)) (by omega) (by omega), wrap64_id (x := g / (w - 1) * w) (by omega) (by omega), wrap64_id (x := g / (w - 1) * w + g % (w - 1)) (by omega) (by omega), wrap64_id (by omega) (by omega)]
  ·rw [if_neg hlt, if_neg hlt]
   rw [wrap64_id (x := g - (w - 1) * h) (by omega) (by omega), wrap64_id (by omega) (by omega)]
 ·rw [if_neg hc, if_neg (by simp; omega)]
end Go.Proofs.Ytoohcdfokejkdaa.P
namespace Go.Proofs.Ytoohcdfokejkdaa.P
open Go.RowKit Go.Proofs.YtoohcdfokejkdaaW.PrintWords Go.Proofs.YtoohcdfokejkdaaW.PrintLast Go.Proofs.YtoohcdfokejkdaaW.PrintMore
attribute [local go_sem] max2_int min2_int max_two min_two max_three min_three max_four min_four   -- for this text's walks alone
set_option linter.unusedVariables false
set_option linter.unusedSimpArgs false

def spec_l03Common.l0 : Nat → Int → Int → Option (Bool)
 | 0, _, _ => none
 | k + 1, x0, x1 => if x1 > 0 then (if x1 = 0 then (none) else (spec_l03Common.l0 k x1 (Int.tmod x0 x1))) else (some (decide (x0 > 1)))
def spec_l03Common.f (k : Nat) (a0 : Int) (a1 : Int) : Option (Bool) := spec_l03Common.l0 k a0 a1
end Go.Proofs.Ytoohcdfokejkdaa.P
namespace Go.Proofs.Ytoohcdfokejkdaa.P
open Go.RowKit Go.Proofs.YtoohcdfokejkdaaW.PrintWords Go.Proofs.YtoohcdfokejkdaaW.PrintLast Go.Proofs.YtoohcdfokejkdaaW.PrintMore
attribute [local go_sem] max2_int min2_int max_two min_two max_three min_three max_four min_four   -- for this text's walks alone
set_option linter.unusedVariables false
set_option linter.unusedSimpArgs false

mutual
def spec_l03Tree.l0 : Nat → Int → List Int → Int → List Int → Int → Int → Int → Int → Int → Int → Int → Option (Int × Int × Int × Int × Int)
 | 0, _, _, _, _, _, _, _, _, _, _, _ => none
 | k + 1, x6, x7, x8, x1000, x1001, x1002, x102000, x102001, x104000, x104001, x104002 => if x8 < (x7.length : Int) then (if 0 ≤ x8 then (spec_l03Tree.l0 k x6 (x7.set (x8 : Int).toNat x8) (wrap64 (x8 + 1)) x1000 x1001 x1002 x102000 x102001 x104000 x104001 x104002) else (none)) else (if x6 = 0 then (some (x104000, x104001, x104002, x1001, x1002)) else ((spec_l01Below.f x1000 x1001 x1002 x6).bind fun bt110 => ((spec_l01Below.f x1000 bt110.2.1 bt110.2.2 x6).bind fun bt113 => (spec_l03Tree.l1 k x6 x7 bt110.1 (wrap64 (1 + bt113.1)) x1000 bt113.2.1 bt113.2.2 x102000 x102001 x104000 x104001 x104002))))
def spec_l03Tree.l1 : Nat → Int → List Int → Int → Int → List Int → Int → Int → Int → Int → Int → Int → Int → Option (Int × Int × Int × Int × Int)
 | 0, _, _, _, _, _, _, _, _, _, _, _, _ => none
 | k + 1, x6, x7, x9, x10, x1000, x1001, x1002, x102000, x102001, x104000, x104001, x104002 => (spec_l03Common.f k x10 x6).bind fun t116 => (if t116 = true then (spec_l03Tree.l1 k x6 x7 x9 (wrap64 (x10 + 1)) x1000 x1001 x1002 x102000 x102001 x104000 x104001 x104002) else (spec_l03Tree.l2 k x6 x7 x9 x10 0 x1000 x1001 x1002 x102000 x102001 x104000 x104001 x104002))
def spec_l03Tree.l2 : Nat → Int → List Int → Int → Int → Int → List Int → Int → Int → Int → Int → Int → Int → Int → Option (Int × Int × Int × Int × Int)
 | 0, _, _, _, _, _, _, _, _, _, _, _, _, _ => none
 | k + 1, x6, x7, x9, x10, x11, x1000, x1001, x1002, x102000, x102001, x104000, x104001, x104002 => if x11 < x6 then (if x6 = 0 then (none) else ((spec_EndsOf.f x102000 x102001 (Int.tmod (wrap64 (x9 + (wrap64 (x11 * x10)))) x6)).bind fun bt117 => (if 0 ≤ bt117.1 then (if bt117.1 < (x7.length : Int) then (if 0 ≤ bt117.2 then (if bt117.2 < (x7.length : Int) then (if (rd x7 bt117.1) = (rd x7 bt117.2) then (spec_l03Tree.l2 k x6 x7 x9 x10 (wrap64 (x11 + 1)) x1000 x1001 x1002 x102000 x102001 x104000 x104001 x104002) else (if 0 ≤ (Int.tmod (wrap64 (x9 + (wrap64 (x11 * x10)))) x6) then (spec_l03Tree.l3 k x6 x7 x9 x10 x11 bt117.1 (rd x7 bt117.2) 0 x1000 x1001 x1002 x102000 x102001 x104000 x104001 (Go.bits .or .i64 x104002 (shl .i64 1 (Int.tmod (wrap64 (x9 + (wrap64 (x11 * x10)))) x6)))) else (none))) else (none)) else (none)) else (none)) else (none)))) else (some (x104000, x104001, x104002, x1001, x1002))
def spec_l03Tree.l3 : Nat → Int → List Int → Int → Int → Int → Int → Int → Int → List Int → Int → Int → Int → Int → Int → Int → Int → Option (Int × Int × Int × Int × Int)
 | 0, _, _, _, _, _, _, _, _, _, _, _, _, _, _, _, _ => none
 | k + 1, x6, x7, x9, x10, x11, x13, x15, x16, x1000, x1001, x1002, x102000, x102001, x104000, x104001, x104002 => if x16 < (x7.length : Int) then (if 0 ≤ x16 then (if (rd x7 x16) = x15 then (if 0 ≤ x13 then (if x13 < (x7.length : Int) then (spec_l03Tree.l3 k x6 (x7.set (x16 : Int).toNat (rd x7 x13)) x9 x10 x11 x13 x15 (wrap64 (x16 + 1)) x1000 x1001 x1002 x102000 x102001 x104000 x104001 x104002) else (none)) else (none)) else (spec_l03Tree.l3 k x6 x7 x9 x10 x11 x13 x15 (wrap64 (x16 + 1)) x1000 x1001 x1002 x102000 x102001 x104000 x104001 x104002)) else (none)) else (spec_l03Tree.l2 k x6 x7 x9 x10 (wrap64 (x11 + 1)) x1000 x1001 x1002 x102000 x102001 x104000 x104001 x104002)
end
def spec_l03Tree.f (k : Nat) (s0_0 : List Int) (s0_1 : Int) (s0_2 : Int) (a1_0 : Int) (a1_1 : Int) : Option (Int × Int × Int × Int × Int) := (spec_CountGaps.f a1_0 a1_1).bind fun t104 => ((spec_CountCells.f a1_0 a1_1).bind fun t105 => (if 0 ≤ t105 then (if (t105 : Int).toNat ≤ 35184372088832 then (spec_l03Tree.l0 k t104 (List.replicate (t105 : Int).toNat 0) 0 s0_0 s0_1 s0_2 a1_0 a1_1 a1_0 a1_1 0) else (none)) else (none)))
end Go.Proofs.Ytoohcdfokejkdaa.P
namespace Go.Proofs.Ytoohcdfokejkdaa.P
open Go.RowKit Go.Proofs.YtoohcdfokejkdaaW.PrintWords Go.Proofs.YtoohcdfokejkdaaW.PrintLast Go.Proofs.YtoohcdfokejkdaaW.PrintMore
attribute [local go_sem] max2_int min2_int max_two min_two max_three min_three max_four min_four   -- for this text's walks alone
set_option linter.unusedVariables false
set_option linter.unusedSimpArgs false

end Go.Proofs.Ytoohcdfokejkdaa.P
namespace Go.Proofs.Ytoohcdfokejkdaa.P
open Go Go.RowKit Go.Proofs.YtoohcdfokejkdaaW.PrintWords
set_option linter.unusedVariables false
set_option linter.unusedSimpArgs false

theorem bits_255 (x : Int) : 0 ≤ Go.bits .and .i64 x 255 ∧ Go.bits .and .i64 x 255 ≤ 255 := by
 have h : (BitVec.ofInt 64 x &&& BitVec.ofInt 64 255).toNat ≤ 255 := by
  rw [BitVec.toNat_and]
  exact Nat.and_le_right
 show 0 ≤ IntKind.i64.wrap ((BitVec.ofInt 64 x &&& BitVec.ofInt 64 255).toNat : Int) ∧ IntKind.i64.wrap ((BitVec.ofInt 64 x &&& BitVec.ofInt 64 255).toNat : Int) ≤ 255
 rw [wrap_small (by omega)]
 omega
section
variable {l : List Int}
theorem spec_New_l0 (hl : l.length ≤ 1048576) : ∀ (e i : Nat) (h : Int), l.length - i = e → ∃ h', Ev (fun k => spec_l01New.l0 k l h i) (l, 0, h')
 | 0, i, h, he => ⟨h, Ev.step (fun _ => spec_l01New.l0.eq_2 ..) (Ev.ff (by omega) (Ev.ret rfl))⟩
 | e + 1, i, h, he => by
  by_cases h4 : (i : Int) < 4000
  ·obtain ⟨h', ih⟩ := spec_New_l0 hl e (i + 1) (Go.bits .and .i64 (wrap64 ((wrap64 ((wrap64 (h * 131)) + (wrap64 (rd l i)))) + 7)) 1073741823) (by omega)
   refine ⟨h', Ev.step (fun _ => spec_l01New.l0.eq_2 ..) (Ev.tt (by omega) (Ev.tt h4 (Ev.tt (by omega) ?_)))⟩
   rw [wsucc (by omega)]
   exact ih
  ·exact ⟨h, Ev.step (fun _ => spec_l01New.l0.eq_2 ..) (Ev.tt (by omega) (Ev.ff h4 (Ev.ret rfl)))⟩
theorem spec_New_ev (hl : l.length ≤ 1048576) : ∃ h', Ev (fun k => spec_l01New.f k l) (l, 0, h') := spec_New_l0 hl l.length 0 _ rfl
theorem spec_Byte_eq (hl : l.length ≤ 1048576) {i : Int} (hi : 0 ≤ i) (h : Int) : ∃ b i' h', spec_l01Byte.f l i h = some (b, i', h') ∧ 0 ≤ b ∧ b ≤ 255 ∧ 0 ≤ i' := by
 unfold spec_l01Byte.f
 by_cases e : i < (l.length : Int)
 ·rw [if_pos e, if_pos hi]
  exact ⟨_, _, _, rfl, (bits_255 _).1, (bits_255 _).2, by rw [wrap64_id (by omega) (by omega)]; omega⟩
 ·rw [if_neg e]
  exact ⟨_, _, _, rfl, (bits_255 _).1, (bits_255 _).2, hi⟩
theorem spec_Below_eq (hl : l.length ≤ 1048576) {i : Int} (hi : 0 ≤ i) (h : Int) {n : Int} (h1 : 1 ≤ n) (h2 : n ≤ 256) : ∃ b i' h', spec_l01Below.f l i h n = some (b, i', h') ∧ 0 ≤ b ∧ b < n ∧ 0 ≤ i' := by
 obtain ⟨b, i', h', e, b0, b1, hi'⟩ := spec_Byte_eq hl hi h
 unfold spec_l01Below.f
 rw [if_neg (by omega), if_pos h2, e, Option.bind_some, if_neg (by omega)]
 exact ⟨_, _, _, rfl, Int.tmod_nonneg _ b0, Int.tmod_lt_of_pos _ (by omega), hi'⟩
theorem spec_Pick_eq (hl : l.length ≤ 1048576) {i : Int} (hi : 0 ≤ i) (h : Int) : ∃ (j : Nat) (i' h' : Int), spec_l01PickInt.f l i h [1, 2, 3, 3, 4] = some (rd [1, 2, 3, 3, 4] (j : Int), i', h') ∧ j < 5 ∧ 0 ≤ i' := by
 obtain ⟨b, i', h', e, b0, b1, hi'⟩ := spec_Below_eq hl hi h (n := 5) (by omega) (by omega)
 unfold spec_l01PickInt.f
 show ∃ (j : Nat) (i'' h'' : Int), (spec_l01Below.f l i h 5).bind _ = _ ∧ _
 rw [e, Option.bind_some, if_pos b0]
 refine ⟨b.toNat, i', h', ?_, by omega, hi'⟩
 rw [if_pos (show b < (([1, 2, 3, 3, 4] : List Int).length : Int) from b1), Int.toNat_of_nonneg b0]
theorem pick_ok {j : Nat} (hj : j < 5) : 1 ≤ rd [1, 2, 3, 3, 4] (j : Int) ∧ rd [1, 2, 3, 3, 4] (j : Int) ≤ 4 := by
 have : j = 0 ∨ j = 1 ∨ j = 2 ∨ j = 3 ∨ j = 4 := by omega
 rcases this with rfl | rfl | rfl | rfl | rfl <;> decide
theorem spec_Grid_eq (hl : l.length ≤ 1048576) {i : Int} (hi : 0 ≤ i) (h : Int) : ∃ w hh i' h', spec_l02Grid.f l i h = some (w, hh, i', h') ∧ gridOk w hh = true ∧ 0 ≤ i' := by
 obtain ⟨j, i1, h1, e1, hj, hi1⟩ := spec_Pick_eq hl hi h
 obtain ⟨j2, i2, h2, e2, hj2, hi2⟩ := spec_Pick_eq hl hi1 h1
 unfold spec_l02Grid.f
 rw [e1, Option.bind_some, e2, Option.bind_some]
 refine ⟨_, _, _, _, rfl, gridOk_iff.2 ?_, hi2⟩
 have := pick_ok hj
 have := pick_ok hj2
 omega
end
theorem spec_Common_ev : ∀ (b a : Nat), Ev (fun k => spec_l03Common.f k a b) (decide (Nat.gcd a b > 1)) := by
 intro b
 induction b using Nat.strongRecOn with
 | _ b ih =>
  intro a
  by_cases h0 : b = 0
  ·subst h0
   refine Ev.step (g := fun k => spec_l03Common.f k a (0 : Nat)) (fun _ => spec_l03Common.l0.eq_2 ..) (Ev.ff (by omega) (Ev.ret ?_))
   rw [Nat.gcd_zero_right, decide_eq_decide]
   omega
  ·refine Ev.step (g := fun k => spec_l03Common.f k a b) (fun _ => spec_l03Common.l0.eq_2 ..) (Ev.tt (by omega) (Ev.ff (by omega) ?_))
   rw [Int.tmod_eq_emod_of_nonneg (by omega), ← Int.natCast_emod]
   refine Ev.eq (ih (a % b) (Nat.mod_lt _ (by omega)) b) ?_
   rw [decide_eq_decide, Nat.gcd_comm b (a % b), ← Nat.gcd_rec, Nat.gcd_comm b a]
def coverB (n s : Nat) : Bool := (List.range n).all fun g => (List.range n).any fun k => decide ((k * s) % n = g)
theorem cover_all : (List.range 25).all (fun n => (List.range n).all fun s => decide (¬ Nat.gcd s n = 1) || coverB n s) = true := by decide +kernel
theorem cover {n step first : Nat} (hn : n < 25) (h0 : 0 < n) (hg : Nat.gcd step n ≤ 1) {g : Nat} (hgn : g < n) : ∃ k, k < n ∧ (first + k * step) % n = g := by
 have hs : step % n < n := Nat.mod_lt _ h0
 have h1 : Nat.gcd (step % n) n = 1 := by
  have e : Nat.gcd (step % n) n = Nat.gcd step n := by rw [Nat.gcd_comm step n, ← Nat.gcd_rec]
  rw [e]
  have : 0 < Nat.gcd step n := Nat.gcd_pos_of_pos_right _ h0
  omega
 have := List.all_eq_true.1 (List.all_eq_true.1 cover_all n (List.mem_range.2 hn)) (step % n) (List.mem_range.2 hs)
 simp only [Bool.or_eq_true, decide_eq_true_eq] at this
 have hc : coverB n (step % n) = true := this.resolve_left (fun h => h h1)
 unfold coverB at hc
 have hx : (g + (n - first % n)) % n < n := Nat.mod_lt _ h0
 have := List.all_eq_true.1 hc ((g + (n - first % n)) % n) (List.mem_range.2 hx)
 obtain ⟨k, hk, hkk⟩ := List.any_eq_true.1 this
 refine ⟨k, List.mem_range.1 hk, ?_⟩
 have hk2 := of_decide_eq_true hkk
 rw [Nat.mul_mod_mod] at hk2
 have hf : first % n < n := Nat.mod_lt _ h0
 rw [Nat.add_mod, hk2, Nat.add_mod_mod, ← Nat.mod_add_mod (first % n), Nat.mod_mod]
 rw [show first % n + (g + (n - first % n)) = g + n by omega, Nat.add_mod_right, Nat.mod_eq_of_lt hgn]
def tabL (P : Nat → Int) (V : Nat) : List Int := (List.range V).map P
theorem tabL_length (P : Nat → Int) (V : Nat) : (tabL P V).length = V := by simp [tabL]
theorem tabL_rd {P : Nat → Int} {V c : Nat} (h : c < V) : rd (tabL P V) (c : Int) = P c := by
 rw [rd_get (by rw [tabL_length]; exact h)]
 simp [tabL]
theorem tabL_congr {P Q : Nat → Int} {V : Nat} (h : ∀ x, x < V → P x = Q x) : tabL P V = tabL Q V := List.map_congr_left fun x hx => h x (List.mem_range.1 hx)
theorem tabL_set (P : Nat → Int) (V i : Nat) (v : Int) : (tabL P V).set i v = tabL (fun x => if x = i then v else P x) V := by
 refine List.ext_getElem (by simp [tabL]) fun j h1 h2 => ?_
 rw [List.getElem_set]
 simp only [tabL, List.getElem_map, List.getElem_range]
 by_cases e : i = j
 ·subst e; simp
 ·rw [if_neg e, if_neg (fun h => e h.symm)]
theorem KInv.weak {e : Nat → Nat × Nat} {V E : Nat} {d d' : Nat → Prop} {P : Nat → Int} {o : Nat} (K : KInv e V E d P o) (h : ∀ g, d' g → d g) : KInv e V E d' P o := ⟨K.lt, K.lab, K.fo, fun g hg hd => K.dn g hg (h g hd)⟩
end Go.Proofs.Ytoohcdfokejkdaa.P
namespace Go.Proofs.Ytoohcdfokejkdaa.P
open Go.RowKit Go.Proofs.YtoohcdfokejkdaaW.PrintWords
set_option linter.unusedVariables false
set_option linter.unusedSimpArgs false

def fullN (w h : Int) : Nat := 2 ^ gapsN w h - 1
theorem fullN_lt (w h : Int) : fullN w h < 2 ^ gapsN w h := by unfold fullN; have := Nat.two_pow_pos (gapsN w h); omega
theorem full_val {w h : Int} : wrap64 ((shl .i64 1 (gapsOf w h)) - 1) = ((fullN w h : Nat) : Int) := by
 have hc := gapsOf_range w h
 have hp := pow_le hc.1 hc.2
 rw [shl_one hc.1 hc.2, wrap64_id (by omega) (by omega)]
 unfold fullN gapsN
 have h1 := Nat.two_pow_pos (gapsOf w h).toNat
 have h2 := Int.natCast_pow 2 (gapsOf w h).toNat
 simp only [Int.cast_ofNat_Int] at h2
 omega
theorem impl_FullMaze_eq {w h : Int} (hg : gridOk w h = true) : impl_FullMaze.f w h = some (w, h, ((fullN w h : Nat) : Int)) := by
 unfold impl_FullMaze.f
 rw [impl_GridOk_eq, Option.bind_some, if_pos hg, impl_CountGaps_eq, Option.bind_some, if_pos (gapsOf_range w h).1, full_val]
theorem spec_FullMaze_eq {w h : Int} (hg : gridOk w h = true) : spec_FullMaze.f w h = some (w, h, ((fullN w h : Nat) : Int)) := by
 unfold spec_FullMaze.f
 rw [spec_GridOk_eq, Option.bind_some, if_pos hg, spec_CountGaps_eq, Option.bind_some, if_pos (gapsOf_range w h).1, full_val]
theorem spec_SetGap_ev {w h : Int} {n : Nat} (hg : gridOk w h = true) (hn : n < 2 ^ gapsN w h) {g : Nat} (hgg : g < gapsN w h) (b : Bool) : Ev (fun k => spec_SetGap.f k w h n g b) (w, h, ((setB n g b : Nat) : Int), true) := by
 have hr := gapsOf_range w h
 have hc := gapsN_cast w h
 have hp : 2 ^ g ≤ 2 ^ 24 := Nat.pow_le_pow_right (by decide) (by have := gapsN_le w h; omega)
 have hs := open_small hn
 unfold spec_SetGap.f
 refine Ev.bnd0 (spec_MazeOk_eq w h n) (Ev.tt (mazeOk_iff.2 ⟨hg, n, rfl, hn⟩) ?_)
 refine Ev.bnd0 (spec_CountGaps_eq w h) ?_
 rw [wrap64_id (by omega) (by omega)]
 refine Ev.bnd0 (l01In_eq ..) ?_
 rw [decide_eq_true (by omega)]
 refine Ev.step (fun _ => spec_SetGap.j0.eq_2 ..) ?_
 refine Ev.ff (by decide) (Ev.bnd0 (spec_l03Bit_eq hs (by omega)) ?_)
 have ho : openI n (g : Int) = n.testBit g := by simp [openI]
 rw [ho]
 refine Ev.ite (fun e => Ev.tt (by omega) (Ev.ret ?_)) (fun e => Ev.ret ?_)
 ·rw [shl_pow (by omega), bits_xor (by omega) (by omega), xor_setB (by simpa using e)]
 ·have : n.testBit g = b := by simpa using e
  rw [← this, setB_self]
theorem open_l0 {w h : Int} {xs : List Int} (hg : gridOk w h = true) (hl : xs.length ≤ 1048576) : ∀ (c : Nat) (n : Nat) (i1 h1 : Int), c ≤ 1000 → n < 2 ^ gapsN w h → 0 ≤ i1 →
  ∃ (m : Nat) (i2 h2 : Int), m < 2 ^ gapsN w h ∧ 0 ≤ i2 ∧ Ev (fun k => spec_l12Maze.l0 k (gapsOf w h) c xs i1 h1 w h n) (w, h, (m : Int), i2, h2)
 | 0, n, i1, h1, hc, hn, hi => by
  refine ⟨n, i1, h1, hn, hi, ?_⟩
  exact Ev.step (fun _ => spec_l12Maze.l0.eq_2 ..) (Ev.ff (by omega) (Ev.step (fun _ => spec_l12Maze.j1.eq_2 ..) (Ev.ff (by simp) (Ev.ret rfl))))
 | c + 1, n, i1, h1, hc, hn, hi => by
  have hgc := gapsN_cast w h
  have h24 := gapsN_le w h
  by_cases h0 : gapsOf w h > 0
  ·obtain ⟨b, i2, h2, e1, b0, b1, hi2⟩ := spec_Below_eq hl hi h1 (n := gapsOf w h) (by omega) (by omega)
   obtain ⟨x, rfl⟩ := Int.eq_ofNat_of_zero_le b0
   have hx : x < gapsN w h := by omega
   obtain ⟨m, i3, h3, hm, hi3, ev⟩ := open_l0 hg hl c (setB n x false) i2 h2 (by omega) (setB_lt false hn hx) hi2
   refine ⟨m, i3, h3, hm, hi3, ?_⟩
   refine Ev.step (fun _ => spec_l12Maze.l0.eq_2 ..) (Ev.tt (by omega) ?_)
   rw [decide_eq_true h0]
   refine Ev.step (fun _ => spec_l12Maze.j1.eq_2 ..) (Ev.tt rfl (Ev.bnd0 e1 (Ev.bind (spec_SetGap_ev hg hn hx false) ?_)))
   rw [wrap64_id (by omega) (by omega), show ((c + 1 : Nat) : Int) - 1 = (c : Int) by omega]
   exact ev
  ·refine ⟨n, i1, h1, hn, hi, ?_⟩
   refine Ev.step (fun _ => spec_l12Maze.l0.eq_2 ..) (Ev.tt (by omega) ?_)
   rw [decide_eq_false h0]
   exact Ev.step (fun _ => spec_l12Maze.j1.eq_2 ..) (Ev.ff (by simp) (Ev.ret rfl))
theorem spec_l12Maze_ev {l : List Int} (hl : l.length ≤ 1048576) {i1 : Int} (hi : 0 ≤ i1) (h1 : Int) : ∃ (w h : Int) (n : Nat) (i2 h2 : Int), gridOk w h = true ∧ n < 2 ^ gapsN w h ∧ 0 ≤ i2 ∧ Ev (fun k => spec_l12Maze.f k l i1 h1) (w, h, (n : Int), i2, h2) := by
 obtain ⟨w, h, i2, h2, e2, hg, hi2⟩ := spec_Grid_eq hl hi h1
 obtain ⟨b, i3, h3, e3, b0, b1, hi3⟩ := spec_Below_eq hl hi2 h2 (n := 5) (by omega) (by omega)
 obtain ⟨c, rfl⟩ := Int.eq_ofNat_of_zero_le b0
 obtain ⟨m, i4, h4, hm, hi4, ev⟩ := open_l0 hg hl c (fullN w h) i3 h3 (by omega) (fullN_lt w h) hi3
 refine ⟨w, h, m, i4, h4, hg, hm, hi4, ?_⟩
 unfold spec_l12Maze.f
 exact Ev.bnd0 e2 (Ev.bnd0 (spec_FullMaze_eq hg) (Ev.bnd0 (spec_CountGaps_eq w h) (Ev.bnd0 e3 ev)))
theorem spec_DrawOpen_ev {l : List Int} (hl : l.length ≤ 1048576) : ∃ (w h : Int) (n : Nat), gridOk w h = true ∧ n < 2 ^ gapsN w h ∧ Ev (fun k => spec_DrawOpenMaze.f k l) (w, h, (n : Int)) := by
 obtain ⟨h', e1⟩ := spec_New_ev hl
 obtain ⟨w, h, n, i2, h2, hg, hn, _, ev⟩ := spec_l12Maze_ev hl (i1 := 0) (by omega) h'
 refine ⟨w, h, n, hg, hn, ?_⟩
 unfold spec_DrawOpenMaze.f
 exact Ev.bind e1 (Ev.bind ev (Ev.ret rfl))
end Go.Proofs.Ytoohcdfokejkdaa.P
namespace Go.Proofs.Ytoohcdfokejkdaa.P
open Go.RowKit Go.Proofs.YtoohcdfokejkdaaW.PrintWords Go.Proofs.YtoohcdfokejkdaaW.PrintLast Go.Proofs.YtoohcdfokejkdaaW.PrintMore
attribute [local go_sem] max2_int min2_int max_two min_two max_three min_three max_four min_four   -- for this text's walks alone
set_option linter.unusedVariables false
set_option linter.unusedSimpArgs false

end Go.Proofs.Ytoohcdfokejkdaa.P
namespace Go.Proofs.Ytoohcdfokejkdaa.P
open Go.RowKit Go.Proofs.YtoohcdfokejkdaaW.PrintWords
set_option linter.unusedVariables false
set_option linter.unusedSimpArgs false

theorem impl_GapAt_ev (w h c d : Int) : Ev (fun k => impl_GapAt.f k w h c d) (gapI w h c d) := by
 unfold impl_GapAt.f gapI
 refine Ev.bind (impl_Neighbor_ev w h c d) ?_
 by_cases hn : nbI w h c d < 0
 ·rw [if_pos hn, if_pos hn]
  exact Ev.ret rfl
 ·rw [if_neg hn, if_neg hn]
  obtain ⟨hd, h0, h1⟩ := nb_dir (by omega : 0 ≤ nbI w h c d)
  obtain ⟨hg, hcw⟩ := cellsOf_valid h0 h1
  have hcr := cellsOf_range w h
  have hgr := gridOk_iff.1 hg
  have hlt := nb_lt (w := w) (h := h) (c := c) (d := d)
  have hmn : mn c (nbI w h c d) = min c (nbI w h c d) := by unfold mn; omega
  rw [hmn]
  have hm0 : 0 ≤ min c (nbI w h c d) := by omega
  have hm1 : min c (nbI w h c d) ≤ 15 := by omega
  generalize min c (nbI w h c d) = m at *
  have ha0 : 0 ≤ m / w := Int.ediv_nonneg hm0 (by omega)
  have ha1 : m / w ≤ m := Int.ediv_le_self _ hm0
  have hb0 : 0 ≤ m % w := Int.emod_nonneg _ (by omega)
  have hb1 : m % w < w := Int.emod_lt_of_pos _ (by omega)
  have hp0 : 0 ≤ m / w * (w - 1) := Int.mul_nonneg ha0 (by omega)
  have hp1 : m / w * (w - 1) ≤ 15 * 3 := Int.mul_le_mul (by omega) (by omega) (by omega) (by omega)
  have hq0 : 0 ≤ (w - 1) * h := Int.mul_nonneg (by omega) (by omega)
  have hq1 : (w - 1) * h ≤ 3 * 4 := Int.mul_le_mul (by omega) (by omega) (by omega) (by omega)
  rw [Int.tmod_eq_emod_of_nonneg hm0, Int.tdiv_eq_ediv_of_nonneg hm0, wrap64_id (x := m / w) (by omega) (by omega), wrap64_id (x := w - 1) (by omega) (by omega), wrap64_id (x := m / w * (w - 1)) (by omega) (by omega), wrap64_id (x := m / w * (w - 1) + m % w) (by omega) (by omega)]
  refine Ev.ite (fun e => Ev.ff (by omega) ?_) (fun e => Ev.ite (fun e3 => Ev.ff (by omega) ?_) (fun e3 => ?_))
  ·rw [if_pos (.inl e)]; exact Ev.ret rfl
  ·rw [if_pos (.inr e3)]; exact Ev.ret rfl
  ·rw [if_neg (by omega)]
   rw [wrap64_id (x := (w - 1) * h) (by omega) (by omega), wrap64_id (by omega) (by omega)]
   exact Ev.ret rfl
def waysFrom (s : Int → Int) (d : Nat) : List Int := ([0, 1, 2, 3].drop d).filter fun x => decide (0 ≤ s x)
theorem waysFrom_succ (s : Int → Int) {d : Nat} (hd : d < 4) : waysFrom s d = if 0 ≤ s d then (d : Int) :: waysFrom s (d + 1) else waysFrom s (d + 1) := by
 have : d = 0 ∨ d = 1 ∨ d = 2 ∨ d = 3 := by omega
 rcases this with rfl | rfl | rfl | rfl <;> simp [waysFrom, List.filter_cons]
def waysI (w h : Int) (n : Nat) (c : Int) : List Int := waysFrom (stepI w h n c) 0
theorem impl_Step_ev {w h : Int} {n : Nat} (hg : gridOk w h = true) (hn : n < 2 ^ gapsN w h) (c d : Int) : Ev (fun k => impl_Step.f k w h n c d) (stepI w h n c d) := by
 unfold impl_Step.f stepI
 refine Ev.bnd0 (impl_MazeOk_eq w h n) (Ev.tt (mazeOk_iff.2 ⟨hg, n, rfl, hn⟩) ?_)
 refine Ev.bind (impl_GapAt_ev w h c d) (Ev.bnd0 (impl_isOpen_eq w h (open_small hn) _) ?_)
 by_cases ho : openI n (gapI w h c d) = true
 ·rw [if_pos ho]
  exact Ev.tt ho (Ev.bind (impl_Neighbor_ev w h c d) (Ev.ret rfl))
 ·rw [if_neg ho]
  exact Ev.ff ho (Ev.ret rfl)
theorem impl_Ways_l0 (w h : Int) (o c : Int) (s : Int → Int) (hs : ∀ d, Ev (fun k => impl_Step.f k w h o c d) (s d)) : ∀ (e d : Nat) (out : List Int), 4 - d = e → d ≤ 4 → out.length ≤ d →
  Ev (fun k => impl_WaysFrom.l0 k c out d w h o) (out ++ waysFrom s d)
 | 0, d, out, he, hd, hl => by
  refine Ev.step (fun _ => impl_WaysFrom.l0.eq_2 ..) ?_
  refine Ev.ff (by omega) (Ev.ret ?_)
  obtain rfl : d = 4 := by omega
  simp [waysFrom]
 | e + 1, d, out, he, hd, hl => by
  refine Ev.step (fun _ => impl_WaysFrom.l0.eq_2 ..) ?_
  refine Ev.tt (by omega) (Ev.bind (hs d) ?_)
  rw [wsucc (by omega), waysFrom_succ s (show d < 4 by omega)]
  refine Ev.ite (fun h1 => Ev.tt (by omega) ?_) (fun h1 => ?_)
  ·rw [if_pos (by omega)]
   have := impl_Ways_l0 w h o c s hs e (d + 1) (out ++ [(d : Int)]) (by omega) (by omega) (by simp; omega)
   simpa using this
  ·rw [if_neg (by omega)]
   exact impl_Ways_l0 w h o c s hs e (d + 1) out (by omega) (by omega) (by omega)
theorem impl_Ways_ev {w h : Int} {n : Nat} (hg : gridOk w h = true) (hn : n < 2 ^ gapsN w h) (c : Int) : Ev (fun k => impl_WaysFrom.f k w h n c) (waysI w h n c) := by
 unfold impl_WaysFrom.f waysI
 have := impl_Ways_l0 w h n c _ (fun d => impl_Step_ev hg hn c d) 4 0 [] (by omega) (by omega) (by simp)
 simpa using this
end Go.Proofs.Ytoohcdfokejkdaa.P
namespace Go.Proofs.Ytoohcdfokejkdaa.P
open Go.RowKit Go.Proofs.YtoohcdfokejkdaaW.PrintWords Go.Proofs.YtoohcdfokejkdaaW.PrintLast Go.Proofs.YtoohcdfokejkdaaW.PrintMore
attribute [local go_sem] max2_int min2_int max_two min_two max_three min_three max_four min_four   -- for this text's walks alone
set_option linter.unusedVariables false
set_option linter.unusedSimpArgs false

end Go.Proofs.Ytoohcdfokejkdaa.P
namespace Go.Proofs.Ytoohcdfokejkdaa.P
open Go.RowKit Go.Proofs.YtoohcdfokejkdaaW.PrintWords
set_option linter.unusedVariables false
set_option linter.unusedSimpArgs false

def ints (q : List Nat) : List Int := q.map fun (x : Nat) => (x : Int)
theorem ints_length (q : List Nat) : (ints q).length = q.length := by simp [ints]
theorem ints_app (q : List Nat) (y : Nat) : ints (q ++ [y]) = ints q ++ [(y : Int)] := by simp [ints]
theorem rd_ints {q : List Nat} {i x : Nat} (h : q[i]? = some x) : rd (ints q) (i : Int) = x := by
 rw [rd_nat, List.getD_eq_getElem?_getD]
 simp [ints, h]
def dlist (v : Nat) (D : Nat → Int) : List Int := (List.range v).map D
theorem dlist_length (v : Nat) (D : Nat → Int) : (dlist v D).length = v := by simp [dlist]
theorem rd_dlist {v : Nat} {D : Nat → Int} {c : Nat} (h : c < v) : rd (dlist v D) (c : Int) = D c := by
 rw [rd_get (by rw [dlist_length]; exact h)]
 simp [dlist]
theorem dlist_set {v : Nat} {D : Nat → Int} {y : Nat} {a : Int} (h : y < v) : (dlist v D).set y a = dlist v (upd D y a) := by
 refine List.ext_getElem (by simp [dlist]) fun i h1 h2 => ?_
 rw [List.getElem_set]
 simp only [dlist, upd, List.getElem_map, List.getElem_range]
 by_cases e : y = i
 ·rw [if_pos e, if_pos e.symm]
 ·rw [if_neg e, if_neg (fun e' => e e'.symm)]
structure SI (v : Nat) (S : (Nat → Int) × List Nat) : Prop where
 le : ∀ c, S.1 c ≤ S.2.length
 low : ∀ c, -1 ≤ S.1 c
 lt : ∀ c ∈ S.2, c < v
theorem SI.relax {v : Nat} {s : Nat → Nat → Int} (hs : Rng s v) {S : (Nat → Int) × List Nat} (I : SI v S) {x d : Nat} (hx : x < v) (hd : d < 4) : SI v (relax s x d S) ∧ (relax s x d S).2.length ≤ S.2.length + 1 ∧ ∀ (i z : Nat), S.2[i]? = some z → (relax s x d S).2[i]? = some z := by
 unfold Go.Proofs.Ytoohcdfokejkdaa.P.relax
 split
 ·rename_i hc
  refine ⟨⟨fun c => ?_, fun c => ?_, fun c hcq => ?_⟩, by simp, fun i z hz => ?_⟩
  ·have := I.le c
   have := I.le x
   show upd _ _ _ c ≤ _
   unfold upd
   simp only [List.length_append, List.length_singleton]
   split <;> omega
  ·have := I.low c
   have := I.low x
   show _ ≤ upd _ _ _ c
   unfold upd
   split <;> omega
  ·rcases List.mem_append.1 hcq with h | h
   ·exact I.lt c h
   ·simp at h
    have := hs x d hx hd
    omega
  ·have hi := (List.getElem?_eq_some_iff.1 hz).1
   rw [List.getElem?_append_left hi]; exact hz
 ·exact ⟨I, by omega, fun i z hz => hz⟩
def relaxL (s : Nat → Nat → Int) (x : Nat) : List Nat → (Nat → Int) × List Nat → (Nat → Int) × List Nat
 | [], S => S
 | d :: ds, S => relaxL s x ds (relax s x d S)
theorem relaxL_filter (s : Nat → Nat → Int) (x : Nat) : ∀ l S, relaxL s x (l.filter fun d => decide (0 ≤ s x d)) S = relaxL s x l S
 | [], S => rfl
 | d :: ds, S => by
  rw [List.filter_cons]
  by_cases h : 0 ≤ s x d
  ·simp only [h, decide_true, if_true, relaxL]
   exact relaxL_filter s x ds _
  ·simp only [h, decide_false, Bool.false_eq_true, if_false, relaxL]
   rw [relaxL_filter s x ds S, show relax s x d S = S from if_neg fun hc => h hc.1]
theorem bround_eq (s : Nat → Nat → Int) (x : Nat) (S : (Nat → Int) × List Nat) : bround s x S = relaxL s x [0, 1, 2, 3] S := rfl
theorem waysI_ints (w h : Int) (n c : Nat) : waysI w h n c = ints ([0, 1, 2, 3].filter fun d => decide (0 ≤ st w h n c d)) := by
 unfold waysI waysFrom st ints
 simp only [List.drop_zero, List.filter_cons, List.filter_nil]
 by_cases a : 0 ≤ stepI w h n c 0 <;> by_cases b : 0 ≤ stepI w h n c 1 <;> by_cases c' : 0 ≤ stepI w h n c 2 <;> by_cases d : 0 ≤ stepI w h n c 3 <;> simp [a, b, c', d]
section
variable {w h : Int} {n : Nat} (hg : gridOk w h = true) (hn : n < 2 ^ gapsN w h)
include hg hn
theorem impl_dist_l1 {x i : Nat} (W : List Nat) (hW : ∀ d ∈ W, d < 4 ∧ 0 ≤ st w h n x d) (hW4 : W.length ≤ 4) (res : List Int) :
  ∀ (e j : Nat) (S : (Nat → Int) × List Nat), j + e = W.length → SI (cellsN w h) S → S.2[i]? = some x → S.2.length ≤ 100 + j →
   (∀ S', S' = relaxL (st w h n) x (W.drop j) S → SI (cellsN w h) S' → Ev (fun k => impl_distances.l0 k (dlist (cellsN w h) S'.1) (ints S'.2) ((i + 1 : Nat) : Int) w h n) res) →
   Ev (fun k => impl_distances.l1 k (dlist (cellsN w h) S.1) (ints S.2) i (ints W) ((ints W).length : Int) j w h n) res
 | 0, j, S, hj, I, hx, hl, next => by
  have hi := (List.getElem?_eq_some_iff.1 hx).1
  refine Ev.step (fun _ => impl_distances.l1.eq_2 ..) (Ev.ff (by rw [ints_length]; omega) ?_)
  rw [wsucc (by omega)]
  exact next S (by rw [List.drop_eq_nil_of_le (by omega)]; rfl) I
 | e + 1, j, S, hj, I, hx, hl, next => by
  have hcast := cellsN_cast w h
  have hi := (List.getElem?_eq_some_iff.1 hx).1
  have hxv := I.lt x (List.mem_of_getElem? hx)
  have hjW : j < W.length := by omega
  obtain ⟨hd4, hd0⟩ := hW _ (List.getElem_mem hjW)
  have hdrop : W.drop j = W[j] :: W.drop (j + 1) := List.drop_eq_getElem_cons hjW
  have hwj : rd (ints W) (j : Int) = (W[j] : Nat) := rd_ints (List.getElem?_eq_getElem hjW)
  have hrng := (net_grid hn).rng x W[j] hxv hd4
  obtain ⟨y, hy⟩ : ∃ y : Nat, st w h n x W[j] = y := ⟨(st w h n x W[j]).toNat, by omega⟩
  have hyv : y < cellsN w h := by omega
  obtain ⟨I', hl', hk'⟩ := I.relax (net_grid hn).rng hxv hd4
  have ih := impl_dist_l1 W hW hW4 res e (j + 1) (relax (st w h n) x W[j] S) (by omega) I' (hk' i x hx) (by omega) (fun S' hS' I'' => next S' (by rw [hS', hdrop]; rfl) I'')
  refine Ev.step (fun _ => impl_distances.l1.eq_2 ..) ?_
  refine Ev.tt (by rw [ints_length]; omega) (Ev.tt (by omega) (Ev.tt (by rw [ints_length]; omega) (Ev.tt (by omega) (Ev.tt (by rw [ints_length]; omega) ?_))))
  rw [hwj, rd_ints hx]
  refine Ev.bind (impl_Step_ev hg hn x (W[j] : Nat)) ?_
  rw [show stepI w h n x (W[j] : Nat) = y from hy, wsucc (by omega)]
  refine Ev.tt (by omega) (Ev.tt (by rw [dlist_length]; omega) ?_)
  rw [rd_dlist hyv, rd_dlist hxv]
  refine Ev.ite (fun h1 => ?_) (fun h1 => ?_)
  ·refine Ev.tt (by omega) (Ev.tt (by rw [dlist_length]; omega) (Ev.tt (by rw [ints_length]; omega) ?_))
   have hb1 := I.le x
   have hb2 : 0 ≤ S.1 x ∨ S.1 x < 0 := by omega
   have hrel : relax (st w h n) x W[j] S = (upd S.1 y (S.1 x + 1), S.2 ++ [y]) := by
    unfold relax
    rw [hy, Int.toNat_natCast, if_pos ⟨by omega, h1⟩]
   rw [hrel] at ih
   rw [Int.toNat_natCast, dlist_set hyv, ← ints_app]
   have := I.low x
   rw [wrap64_id (by omega) (by omega)]
   exact ih
  ·have hrel : relax (st w h n) x W[j] S = S := by
    unfold relax
    rw [hy, Int.toNat_natCast, if_neg (fun hc => h1 hc.2)]
   rw [hrel] at ih
   exact ih
theorem impl_dist_l0 {src : Nat} (hs : src < cellsN w h) : ∀ (f i : Nat) (S : (Nat → Int) × List Nat), BInv (st w h n) (cellsN w h) src S i 0 → SI (cellsN w h) S → i ≤ S.2.length → cellsN w h + 1 - i ≤ f →
  Ev (fun k => impl_distances.l0 k (dlist (cellsN w h) S.1) (ints S.2) i w h n) (dlist (cellsN w h) (bfsF (st w h n) f S i))
 | 0, i, S, B, I, hi, hf => by have := B.len; omega
 | f + 1, i, S, B, I, hi, hf => by
  have h16 := cellsN_le w h
  have hlen := B.len
  refine Ev.step (fun _ => impl_distances.l0.eq_2 ..) ?_
  simp only [bfsF]
  cases hx : S.2[i]? with
  | none =>
   rw [List.getElem?_eq_none_iff] at hx
   exact Ev.ff (by rw [ints_length]; omega) (Ev.ret rfl)
  | some x =>
   have hil := (List.getElem?_eq_some_iff.1 hx).1
   have hxv := I.lt x (List.mem_of_getElem? hx)
   refine Ev.tt (by rw [ints_length]; omega) (Ev.tt (by omega) ?_)
   rw [rd_ints hx]
   refine Ev.bind (impl_Ways_ev hg hn _) ?_
   rw [waysI_ints]
   have hW : ∀ d ∈ ([0, 1, 2, 3].filter fun d => decide (0 ≤ st w h n x d)), d < 4 ∧ 0 ≤ st w h n x d := fun d hd => by
    rw [List.mem_filter] at hd
    refine ⟨?_, of_decide_eq_true hd.2⟩
    have := hd.1
    simp at this
    omega
   refine impl_dist_l1 hg hn (i := i) (x := x) _ hW (List.length_filter_le _ _) _ _ 0 S (Nat.zero_add _) I hx (by omega) (fun S' hS' I' => ?_)
   rw [List.drop_zero, relaxL_filter, ← bround_eq] at hS'
   subst hS'
   have B' := B.round (net_grid hn).rng hx
   refine impl_dist_l0 hs f (i + 1) _ B' I' ?_ (by omega)
   have h1 : ∀ m T, T.2.length ≤ (relax (st w h n) x m T).2.length := by
    intro m T
    unfold relax
    split <;> simp
   have := Nat.le_trans (h1 0 S) (Nat.le_trans (h1 1 _) (Nat.le_trans (h1 2 _) (h1 3 _)))
   show i + 1 ≤ (bround (st w h n) x S).2.length
   unfold bround
   omega
omit hg hn in
theorem SI.start {v src : Nat} (h : src < v) : SI v (upd (fun _ => -1) src 0, [src]) where
 le := fun c => by simp only [upd]; split <;> simp
 low := fun c => by simp only [upd]; split <;> omega
 lt := fun c hc => by simp at hc; omega
theorem impl_distances_ev {src : Nat} (hs : src < cellsN w h) : Ev (fun k => impl_distances.f k w h n src) (dlist (cellsN w h) (distN w h n src)) := by
 have h16 := cellsN_le w h
 have hcast := cellsN_cast w h
 unfold impl_distances.f
 refine Ev.bnd0 (impl_CountCells_eq w h) (Ev.bnd0 (a := dlist (cellsN w h) fun _ => -1) ?_ ?_)
 ·unfold slices_Repeat_int_int.f
  rw [if_pos ⟨by simp, by omega, by omega⟩]
  congr 1
  refine List.ext_getElem (by simp [dlist]; omega) fun i h1 h2 => ?_
  simp [dlist, rd]
 ·refine Ev.tt (by omega) (Ev.tt (by rw [dlist_length]; omega) ?_)
  rw [Int.toNat_natCast, dlist_set hs]
  exact impl_dist_l0 hg hn hs _ 0 _ (BInv.start hs) (SI.start hs) (by simp) (by omega)
end
end Go.Proofs.Ytoohcdfokejkdaa.P
namespace Go.Proofs.Ytoohcdfokejkdaa.P
open Go.RowKit Go.Proofs.YtoohcdfokejkdaaW.PrintWords Go.Proofs.Ytoohcdfokejkdaa.Sup
set_option linter.unusedVariables false
set_option linter.unusedSimpArgs false

theorem impl_isIn_one (w h o c : Int) : impl_isIn.f w h o [c] = some (mazeOk w h o && isCellI w h c) := by
 unfold impl_isIn.f
 rw [impl_MazeOk_eq, Option.bind_some]
 cases hm : mazeOk w h o
 ·simp
 ·rw [if_pos rfl]
  simp [impl_isCell_eq]
end Go.Proofs.Ytoohcdfokejkdaa.P
namespace Go.Proofs.Ytoohcdfokejkdaa.P
open Go.RowKit Go.Proofs.YtoohcdfokejkdaaW.PrintWords
set_option linter.unusedVariables false
set_option linter.unusedSimpArgs false

def run (i d : Nat) : List Int := (List.range d).map fun t => ((i + t : Nat) : Int)
theorem run_succ (i d : Nat) : run i (d + 1) = (i : Int) :: run (i + 1) d := by
 simp only [run, List.range_succ_eq_map, List.map_cons, List.map_map, Nat.add_zero]
 congr 1
 apply List.map_congr_left
 intro t _
 simp only [Function.comp, Nat.succ_eq_add_one]
 congr 1
 omega
theorem mem_run {i d : Nat} {x : Int} : x ∈ run i d ↔ (i : Int) ≤ x ∧ x < ((i + d : Nat) : Int) := by
 simp only [run, List.mem_map, List.mem_range]
 constructor
 ·rintro ⟨t, ht, rfl⟩
  omega
 ·intro ⟨h1, h2⟩
  exact ⟨(x - i).toNat, by omega, by omega⟩
theorem upTo_l0 (n : Nat) (hn : n ≤ 1000000) : ∀ (d i : Nat) (out : List Int), n - i = d → i ≤ n → out.length ≤ i → Ev (fun k => impl_upTo.l0 k n out i) (out ++ run i d)
 | 0, i, out, hd, hi, ho => by
  refine Ev.step (fun _ => impl_upTo.l0.eq_2 ..) (Ev.ff (by omega) (Ev.ret ?_))
  simp [run]
 | d + 1, i, out, hd, hi, ho => by
  refine Ev.step (fun _ => impl_upTo.l0.eq_2 ..) (Ev.tt (by omega) (Ev.tt (by omega) ?_))
  rw [wsucc (by omega), run_succ]
  have := upTo_l0 n hn d (i + 1) (out ++ [(i : Int)]) (by omega) (by omega) (by simp; omega)
  simpa using this
theorem impl_upTo_ev (n : Nat) (hn : n ≤ 1000000) : Ev (fun k => impl_upTo.f k n) (run 0 n) := by
 unfold impl_upTo.f
 have := upTo_l0 n hn n 0 [] (by omega) (by omega) (by simp)
 simpa using this
def p1 (x : Nat) : Nat := ((x / 2) &&& 6148914691236517205) + (x &&& 6148914691236517205)
def p2 (x : Nat) : Nat := ((x / 4) &&& 3689348814741910323) + (x &&& 3689348814741910323)
def p3 (x : Nat) : Nat := (x / 16 + x) &&& 1085102592571150095
theorem and_split {a m : Nat} (b M : Nat) (ha : a < 256) (hm : m < 256) : (256 * b + a) &&& (256 * M + m) = 256 * (b &&& M) + (a &&& m) := by
 apply Nat.eq_of_testBit_eq
 intro i
 have h1 := Nat.testBit_two_pow_mul_add b (i := 8) ha i
 have h2 := Nat.testBit_two_pow_mul_add M (i := 8) hm i
 have h3 := Nat.testBit_two_pow_mul_add (b &&& M) (i := 8) (b := a &&& m) (Nat.lt_of_le_of_lt Nat.and_le_left ha) i
 simp only [show (2 : Nat) ^ 8 = 256 from rfl] at h1 h2 h3
 rw [Nat.testBit_and, h1, h2, h3]
 split <;> simp [Nat.testBit_and]
theorem p1_split (b a : Nat) (ha : a < 256) : p1 (256 * b + a) = 256 * (((b / 2) &&& 24019198012642645) + (b &&& 24019198012642645)) + p1 a := by
 have e1 : (256 * b + a) / 2 = 256 * (b / 2) + (128 * (b % 2) + a / 2) := by omega
 have e2 : ∀ c, c < 2 → ∀ a, a < 256 → (128 * c + a / 2) &&& 85 = (a / 2) &&& 6148914691236517205 := by decide +kernel
 have e3 : ∀ a, a < 256 → a &&& 85 = a &&& 6148914691236517205 := by decide +kernel
 unfold p1
 rw [e1, show (6148914691236517205 : Nat) = 256 * 24019198012642645 + 85 from rfl, and_split _ _ (by omega) (by decide), and_split _ _ ha (by decide), ← show (6148914691236517205 : Nat) = 256 * 24019198012642645 + 85 from rfl, e2 _ (Nat.mod_lt _ (by decide)) a ha, e3 a ha]
 omega
theorem p2_split (b a : Nat) (ha : a < 256) : p2 (256 * b + a) = 256 * (((b / 4) &&& 14411518807585587) + (b &&& 14411518807585587)) + p2 a := by
 have e1 : (256 * b + a) / 4 = 256 * (b / 4) + (64 * (b % 4) + a / 4) := by omega
 have e2 : ∀ c, c < 4 → ∀ a, a < 256 → (64 * c + a / 4) &&& 51 = (a / 4) &&& 3689348814741910323 := by decide +kernel
 have e3 : ∀ a, a < 256 → a &&& 51 = a &&& 3689348814741910323 := by decide +kernel
 unfold p2
 rw [e1, show (3689348814741910323 : Nat) = 256 * 14411518807585587 + 51 from rfl, and_split _ _ (by omega) (by decide), and_split _ _ ha (by decide), ← show (3689348814741910323 : Nat) = 256 * 14411518807585587 + 51 from rfl, e2 _ (Nat.mod_lt _ (by decide)) a ha, e3 a ha]
 omega
theorem p3_split (b a : Nat) (ha : a < 72) (hb : b % 16 ≤ 4) : p3 (256 * b + a) = 256 * ((b / 16 + b) &&& 4238682002231055) + p3 a := by
 have e1 : (256 * b + a) / 16 + (256 * b + a) = 256 * (b / 16 + b) + (16 * (b % 16) + a / 16 + a) := by omega
 have e2 : ∀ c, c < 5 → ∀ a, a < 72 → (16 * c + a / 16 + a) &&& 15 = (a / 16 + a) &&& 1085102592571150095 := by decide +kernel
 unfold p3
 rw [e1, show (1085102592571150095 : Nat) = 256 * 4238682002231055 + 15 from rfl, and_split _ _ (by omega) (by decide), ← show (1085102592571150095 : Nat) = 256 * 4238682002231055 + 15 from rfl, e2 _ (by omega) a ha]
theorem byte : ∀ a, a < 256 → p1 a < 256 ∧ p1 a % 4 ≤ 2 ∧ p2 (p1 a) < 72 ∧ p2 (p1 a) % 16 ≤ 4 ∧ p3 (p2 (p1 a)) = pop 8 a := by decide +kernel
theorem and_low {b M : Nat} (hb : b < 65536) : b &&& M = b &&& (M % 65536) := by
 have h := Nat.and_mod_two_pow (a := b) (b := M) (n := 16)
 simp only [show (2 : Nat) ^ 16 = 65536 from rfl] at h
 rw [Nat.mod_eq_of_lt hb, Nat.mod_eq_of_lt (Nat.lt_of_le_of_lt Nat.and_le_left hb)] at h
 exact h
theorem p1_hi {b : Nat} (hb : b < 65536) : ((b / 2) &&& 24019198012642645) + (b &&& 24019198012642645) = p1 b := by
 unfold p1
 rw [and_low (show b / 2 < 65536 by omega), and_low hb, and_low (M := 6148914691236517205) (show b / 2 < 65536 by omega), and_low (M := 6148914691236517205) hb]
theorem p2_hi {b : Nat} (hb : b < 65536) : ((b / 4) &&& 14411518807585587) + (b &&& 14411518807585587) = p2 b := by
 unfold p2
 rw [and_low (show b / 4 < 65536 by omega), and_low hb, and_low (M := 3689348814741910323) (show b / 4 < 65536 by omega), and_low (M := 3689348814741910323) hb]
theorem p3_hi {b : Nat} (hb : b < 61680) : (b / 16 + b) &&& 4238682002231055 = p3 b := by
 unfold p3
 rw [and_low (show b / 16 + b < 65536 by omega), and_low (M := 1085102592571150095) (show b / 16 + b < 65536 by omega)]
theorem p3_three {a b c : Nat} (ha : a < 256) (hb : b < 256) (hc : c < 256) : p3 (p2 (p1 (256 * (256 * c + b) + a))) = 256 * (256 * pop 8 c + pop 8 b) + pop 8 a := by
 obtain ⟨a1, _, a2, a3, a4⟩ := byte a ha
 obtain ⟨b1, _, b2, b3, b4⟩ := byte b hb
 obtain ⟨c1, _, c2, c3, c4⟩ := byte c hc
 rw [p1_split _ _ ha, p1_hi (by omega), p1_split _ _ hb, p1_hi (by omega)]
 rw [p2_split _ _ a1, p2_hi (by omega), p2_split _ _ b1, p2_hi (by omega)]
 rw [p3_split _ _ a2 (by omega), p3_hi (by omega), p3_split _ _ b2 c3, p3_hi (by omega), a4, b4, c4]
theorem pop24 (a b c : Nat) (ha : a < 256) (hb : b < 256) (hc : c < 256) : pop 24 (256 * (256 * c + b) + a) = pop 8 a + pop 8 b + pop 8 c := by
 rw [show 24 = 8 + (8 + 8) from rfl, pop_add, pop_add, show (2 : Nat) ^ 8 = 256 from rfl, show (256 * (256 * c + b) + a) / 256 = 256 * c + b by omega, show (256 * c + b) / 256 = c by omega]
 rw [← pop_mod 8 (256 * (256 * c + b) + a), ← pop_mod 8 (256 * c + b), show (2 : Nat) ^ 8 = 256 from rfl, show (256 * (256 * c + b) + a) % 256 = a by omega, show (256 * c + b) % 256 = b by omega, Nat.add_assoc]
theorem u64_small {n : Nat} (h : n < 18446744073709551616) : IntKind.u64.wrap (n : Int) = n := by
 rw [IntKind.wrap_u64]; omega
theorem u64_and {a b : Nat} (ha : a < 9223372036854775808) (hb : b < 9223372036854775808) : Go.bits .and .u64 a b = ((a &&& b : Nat) : Int) :=
 (bits_nat .u64 63 (by decide) (fun n h0 h1 => by rw [IntKind.wrap_u64]; omega) a b (by simpa using ha) (by simpa using hb)).1
def s1 (a : Int) : Int := IntKind.u64.wrap ((Go.bits .and .u64 (a / 2) 6148914691236517205) + (Go.bits .and .u64 a 6148914691236517205))
def s2 (a : Int) : Int := IntKind.u64.wrap ((Go.bits .and .u64 (a / 4) 3689348814741910323) + (Go.bits .and .u64 a 3689348814741910323))
def s3 (a : Int) : Int := Go.bits .and .u64 (IntKind.u64.wrap (a / 16 + a)) 1085102592571150095
def s4 (a : Int) : Int := IntKind.u64.wrap (a + a / 256)
def s5 (a : Int) : Int := IntKind.u64.wrap (a + a / 65536)
def s6 (a : Int) : Int := IntKind.u64.wrap (a + a / 4294967296)
theorem ones_steps (a : Int) : bits_OnesCount.f a = some (Go.bits .and .i64 (wrap64 (s6 (s5 (s4 (s3 (s2 (s1 a))))))) 127) := rfl
theorem s1_nat {a : Nat} (h : a < 16777216) : s1 (a : Int) = (p1 a : Int) := by
 unfold s1 p1
 rw [show ((a : Int) / 2) = ((a / 2 : Nat) : Int) by omega, show (6148914691236517205 : Int) = ((6148914691236517205 : Nat) : Int) from rfl, u64_and (by omega) (by decide), u64_and (by omega) (by decide)]
 have h1 : (a / 2 &&& 6148914691236517205) ≤ a / 2 := Nat.and_le_left
 have h2 : (a &&& 6148914691236517205) ≤ a := Nat.and_le_left
 rw [← Int.natCast_add, u64_small (by omega)]
theorem s2_nat {a : Nat} (h : a < 67108864) : s2 (a : Int) = (p2 a : Int) := by
 unfold s2 p2
 rw [show ((a : Int) / 4) = ((a / 4 : Nat) : Int) by omega, show (3689348814741910323 : Int) = ((3689348814741910323 : Nat) : Int) from rfl, u64_and (by omega) (by decide), u64_and (by omega) (by decide)]
 have h1 : (a / 4 &&& 3689348814741910323) ≤ a / 4 := Nat.and_le_left
 have h2 : (a &&& 3689348814741910323) ≤ a := Nat.and_le_left
 rw [← Int.natCast_add, u64_small (by omega)]
theorem s3_nat {a : Nat} (h : a < 268435456) : s3 (a : Int) = (p3 a : Int) := by
 unfold s3 p3
 rw [show ((a : Int) / 16 + a) = ((a / 16 + a : Nat) : Int) by omega, u64_small (by omega), show (1085102592571150095 : Int) = ((1085102592571150095 : Nat) : Int) from rfl, u64_and (by omega) (by decide)]
theorem ones_eq {s : Nat} (h : s < 16777216) : bits_OnesCount.f (s : Int) = some (pop 24 s : Int) := by
 rw [ones_steps]
 have h1 : p1 s < 67108864 := by
  unfold p1
  have h1 : (s / 2 &&& 6148914691236517205) ≤ s / 2 := Nat.and_le_left
  have h2 : (s &&& 6148914691236517205) ≤ s := Nat.and_le_left
  omega
 have h2 : p2 (p1 s) < 268435456 := by
  unfold p2
  have h3 : (p1 s / 4 &&& 3689348814741910323) ≤ p1 s / 4 := Nat.and_le_left
  have h4 : (p1 s &&& 3689348814741910323) ≤ p1 s := Nat.and_le_left
  omega
 rw [s1_nat h, s2_nat h1, s3_nat h2]
 obtain ⟨a, b, c, ha, hb, hc, rfl⟩ : ∃ a b c, a < 256 ∧ b < 256 ∧ c < 256 ∧ s = 256 * (256 * c + b) + a := ⟨s % 256, s / 256 % 256, s / 65536, by omega, by omega, by omega, by omega⟩
 rw [p3_three ha hb hc, pop24 _ _ _ ha hb hc]
 have qa := pop_le 8 a
 have qb := pop_le 8 b
 have qc := pop_le 8 c
 generalize pop 8 a = x at *
 generalize pop 8 b = y at *
 generalize pop 8 c = z at *
 have e4 : s4 ((256 * (256 * z + y) + x : Nat) : Int) = ((65536 * z + 256 * (y + z) + (x + y) : Nat) : Int) := by
  unfold s4
  rw [show (((256 * (256 * z + y) + x : Nat) : Int) + ((256 * (256 * z + y) + x : Nat) : Int) / 256) = ((65536 * z + 256 * (y + z) + (x + y) : Nat) : Int) by omega, u64_small (by omega)]
 have e5 : s5 ((65536 * z + 256 * (y + z) + (x + y) : Nat) : Int) = ((65536 * z + 256 * (y + z) + (x + y + z) : Nat) : Int) := by
  unfold s5
  rw [show (((65536 * z + 256 * (y + z) + (x + y) : Nat) : Int) + ((65536 * z + 256 * (y + z) + (x + y) : Nat) : Int) / 65536) = ((65536 * z + 256 * (y + z) + (x + y + z) : Nat) : Int) by omega, u64_small (by omega)]
 have e6 : s6 ((65536 * z + 256 * (y + z) + (x + y + z) : Nat) : Int) = ((65536 * z + 256 * (y + z) + (x + y + z) : Nat) : Int) := by
  unfold s6
  rw [show (((65536 * z + 256 * (y + z) + (x + y + z) : Nat) : Int) + ((65536 * z + 256 * (y + z) + (x + y + z) : Nat) : Int) / 4294967296) = ((65536 * z + 256 * (y + z) + (x + y + z) : Nat) : Int) by omega, u64_small (by omega)]
 rw [e4, e5, e6, wrap64_id (by omega) (by omega), show (127 : Int) = ((127 : Nat) : Int) from rfl, bits_and (by omega) (by decide)]
 congr 2
 rw [show (127 : Nat) = 2 ^ 7 - 1 from rfl, Nat.and_two_pow_sub_one_eq_mod]
 omega
theorem ones_eq' {n s : Nat} (hn : n ≤ 24) (h : s < 2 ^ n) : bits_OnesCount.f (s : Int) = some (pop n s : Int) := by
 rw [ones_eq (Nat.lt_of_lt_of_le h (Nat.pow_le_pow_right (by decide) hn)), pop_big h hn]
end Go.Proofs.Ytoohcdfokejkdaa.P
namespace Go.Proofs.Ytoohcdfokejkdaa.P
open Go.RowKit Go.Proofs.YtoohcdfokejkdaaW.PrintWords
set_option linter.unusedVariables false
set_option linter.unusedSimpArgs false

theorem run_zero (v : Nat) : run 0 v = ints (List.range v) := by
 unfold run ints
 exact List.map_congr_left fun t _ => by omega
theorem isCellI_nat {w h : Int} {c : Nat} (hc : c < cellsN w h) : isCellI w h c = true := by
 have := cellsN_cast w h
 unfold isCellI
 rw [decide_eq_true_eq]; omega
section
variable {w h : Int} {n : Nat} (hg : gridOk w h = true) (hn : n < 2 ^ gapsN w h)
include hg hn
theorem mazeOk_nat : mazeOk w h n = true := mazeOk_iff.2 ⟨hg, n, rfl, hn⟩
theorem impl_Reached_ev {s : Nat} (hs : s < cellsN w h) : Ev (fun k => impl_Reached.f k w h n s) (ints (reachN w h n s)) := by
 have h16 := cellsN_le w h
 unfold impl_Reached.f
 refine Ev.bnd0 (impl_isIn_one w h n s) (Ev.tt (by rw [mazeOk_nat hg hn, isCellI_nat hs]; rfl) ?_)
 refine Ev.bind (impl_distances_ev hg hn hs) ?_
 rw [dlist_length]
 refine Ev.bind (impl_upTo_ev _ (by omega)) (Ev.tt ?_ (Ev.ret ?_))
 ·rw [List.all_eq_true]
  intro c hc
  have := mem_run.1 hc
  rw [decide_eq_true_eq]
  omega
 ·rw [run_zero]
  unfold reachN ints
  rw [List.filter_map]
  congr 1
  refine List.filter_congr fun c hc => ?_
  rw [List.mem_range] at hc
  simp only [Function.comp]
  rw [rd_dlist hc]
  by_cases h1 : distN w h n s c < 0
  ·rw [decide_eq_true h1, decide_eq_false (show ¬ 0 ≤ distN w h n s c by omega)]; rfl
  ·rw [decide_eq_false h1, decide_eq_true (show 0 ≤ distN w h n s c by omega)]; rfl
omit hg hn in
theorem head_is {s : Nat} (hn : n < 2 ^ gapsN w h) (hs : s < cellsN w h) : 0 < ((ints (reachN w h n s)).length : Int) ∧ rd (ints (reachN w h n s)) 0 = labN w h n s := by
 obtain ⟨t, ht⟩ := reachN_head hn hs
 rw [ht]
 exact ⟨by simp [ints], rfl⟩
theorem impl_parts_l0 : ∀ (d c m : Nat), c + d = cellsN w h → m ≤ c → Ev (fun k => impl_CountParts.l0 k m c w h n) (((m + (cnt (fun i => labN w h n i == i) (cellsN w h) - cnt (fun i => labN w h n i == i) c) : Nat)) : Int)
 | 0, c, m, hd, hm => by
  have hcast := cellsN_cast w h
  refine Ev.step (fun _ => impl_CountParts.l0.eq_2 ..) (Ev.bnd0 (impl_isIn_one w h n c) (Ev.ff ?_ (Ev.ret ?_)))
  ·have : isCellI w h c = false := by unfold isCellI; rw [decide_eq_false_iff_not]; omega
   rw [this]; simp
  ·rw [show c = cellsN w h by omega, Nat.sub_self, Nat.add_zero]
 | d + 1, c, m, hd, hm => by
  have h16 := cellsN_le w h
  have hcv : c < cellsN w h := by omega
  obtain ⟨e1, e2⟩ := head_is hn hcv
  refine Ev.step (fun _ => impl_CountParts.l0.eq_2 ..) (Ev.bnd0 (impl_isIn_one w h n c) (Ev.tt (by rw [mazeOk_nat hg hn, isCellI_nat hcv]; rfl) ?_))
  refine Ev.bind (impl_Reached_ev hg hn hcv) (Ev.tt e1 ?_)
  rw [e2, wsucc (by omega), wsucc (by omega)]
  have hle : cnt (fun i => labN w h n i == i) (c + 1) ≤ cnt (fun i => labN w h n i == i) (cellsN w h) := by
   obtain ⟨x, hx⟩ := Nat.exists_eq_add_of_le (show c + 1 ≤ cellsN w h by omega)
   rw [hx]
   have : ∀ x, cnt (fun i => labN w h n i == i) (c + 1) ≤ cnt (fun i => labN w h n i == i) (c + 1 + x) := by
    intro x
    induction x with
    | zero => exact Nat.le_refl _
    | succ x ih => rw [← Nat.add_assoc]; simp only [cnt]; simp only [cnt] at ih; omega
   exact this x
  simp only [cnt] at hle
  refine Ev.ite (fun h1 => ?_) (fun h1 => ?_)
  ·refine Ev.eq (impl_parts_l0 d (c + 1) (m + 1) (by omega) (by omega)) ?_
   have : (labN w h n c == c) = true := by rw [beq_iff_eq]; omega
   simp only [cnt, this, Bool.toNat_true] at hle ⊢
   omega
  ·refine Ev.eq (impl_parts_l0 d (c + 1) m (by omega) (by omega)) ?_
   have : (labN w h n c == c) = false := by rw [beq_eq_false_iff_ne]; omega
   simp only [cnt, this, Bool.toNat_false] at hle ⊢
   omega
theorem impl_CountParts_ev : Ev (fun k => impl_CountParts.f k w h n) (partsN w h n : Int) := by
 unfold impl_CountParts.f
 refine Ev.eq (impl_parts_l0 hg hn (cellsN w h) 0 0 (by omega) (by omega)) ?_
 simp only [cnt, Nat.zero_add, Nat.sub_zero]
 rfl
end
end Go.Proofs.Ytoohcdfokejkdaa.P
namespace Go.Proofs.Ytoohcdfokejkdaa.P
open Go.RowKit Go.Proofs.YtoohcdfokejkdaaW.PrintWords Go.Proofs.YtoohcdfokejkdaaW.PrintLast Go.Proofs.YtoohcdfokejkdaaW.PrintMore
attribute [local go_sem] max2_int min2_int max_two min_two max_three min_three max_four min_four   -- for this text's walks alone
set_option linter.unusedVariables false
set_option linter.unusedSimpArgs false

end Go.Proofs.Ytoohcdfokejkdaa.P
namespace Go.Proofs.Ytoohcdfokejkdaa.P
open Go.RowKit Go.Proofs.YtoohcdfokejkdaaW.PrintWords
set_option linter.unusedVariables false
set_option linter.unusedSimpArgs false

theorem cnt_len (p : Nat → Bool) {a b : Nat} (h : a ≤ b) : cnt p a ≤ cnt p b := by
 obtain ⟨x, rfl⟩ := Nat.exists_eq_add_of_le h
 induction x with
 | zero => exact Nat.le_refl _
 | succ x ih => rw [← Nat.add_assoc]; simp only [cnt]; have := ih (by omega); omega
theorem pop_cnt (n k : Nat) : pop k n = cnt n.testBit k := by
 induction k with
 | zero => rfl
 | succ k ih => simp only [pop, cnt]; rw [ih]
theorem shift_count {p : Nat → Bool} {c v m : Nat} (hc : c < v) : m + (p c).toNat + (cnt p v - cnt p (c + 1)) = m + (cnt p v - cnt p c) := by
 have := cnt_len p (show c + 1 ≤ v by omega)
 simp only [cnt] at this ⊢
 omega
section
variable {w h : Int} {n : Nat} (hg : gridOk w h = true) (hn : n < 2 ^ gapsN w h)
include hg hn
theorem impl_CountPassages_eq : impl_CountPassages.f w h n = some (pop (gapsN w h) n : Int) := by
 have hs := open_small hn
 unfold impl_CountPassages.f
 rw [impl_MazeOk_eq, Option.bind_some, if_pos (mazeOk_nat hg hn), u64_small (by omega), ones_eq' (gapsN_le w h) hn, Option.bind_some]
theorem spec_passages_l0 : ∀ (d c m : Nat), c + d = gapsN w h → m ≤ c → Ev (fun k => spec_CountPassages.l0 k m c w h n) (((m + (cnt n.testBit (gapsN w h) - cnt n.testBit c) : Nat)) : Int)
 | 0, c, m, hd, hm => by
  have hcast := gapsN_cast w h
  refine Ev.step (fun _ => spec_CountPassages.l0.eq_2 ..) (Ev.bnd0 (spec_CountGaps_eq w h) (Ev.ff (by omega) ?_))
  refine Ev.step (fun _ => spec_CountPassages.j1.eq_2 ..) (Ev.ff (by decide) (Ev.ret ?_))
  rw [show c = gapsN w h by omega, Nat.sub_self, Nat.add_zero]
 | d + 1, c, m, hd, hm => by
  have hcast := gapsN_cast w h
  have h24 := gapsN_le w h
  have hs := open_small hn
  refine Ev.step (fun _ => spec_CountPassages.l0.eq_2 ..) (Ev.bnd0 (spec_CountGaps_eq w h) (Ev.tt (by omega) (Ev.bnd0 (spec_MazeOk_eq w h n) ?_)))
  rw [mazeOk_nat hg hn]
  refine Ev.step (fun _ => spec_CountPassages.j1.eq_2 ..) (Ev.tt rfl (Ev.bnd0 (spec_l03Bit_eq hs (by omega)) ?_))
  rw [openI_nat', wsucc (by omega), wsucc (by omega)]
  refine Ev.ite (fun h1 => ?_) (fun h1 => ?_)
  ·refine Ev.eq (spec_passages_l0 d (c + 1) (m + 1) (by omega) (by omega)) ?_
   rw [← shift_count (p := n.testBit) (c := c) (v := gapsN w h) (m := m) (by omega), h1]
   rfl
  ·refine Ev.eq (spec_passages_l0 d (c + 1) m (by omega) (by omega)) ?_
   rw [← shift_count (p := n.testBit) (c := c) (v := gapsN w h) (m := m) (by omega), Bool.eq_false_iff.2 h1]
   rfl
theorem spec_CountPassages_ev : Ev (fun k => spec_CountPassages.f k w h n) (pop (gapsN w h) n : Int) := by
 unfold spec_CountPassages.f
 refine Ev.eq (spec_passages_l0 hg hn (gapsN w h) 0 0 (by omega) (by omega)) ?_
 rw [pop_cnt]
 simp [cnt]
omit hn in
theorem perf_value : (if (decide (((partsN w h n : Nat) : Int) = 1)) = true then decide (((pop (gapsN w h) n : Nat) : Int) = wrap64 (cellsOf w h - 1)) else false) = perfN w h n := by
 have h16 := cellsN_le w h
 have hpos := cells_pos hg
 have hcast := cellsN_cast w h
 have hpop := pop_le (gapsN w h) n
 rw [wrap64_id (by omega) (by omega)]
 unfold perfN perf
 by_cases h1 : partsN w h n = 1
 ·have h1' := h1
  unfold partsN at h1'
  rw [h1, h1']
  simp only [Int.natCast_one, decide_true, if_true, true_and]
  rw [decide_eq_decide]
  omega
 ·have h1' := h1
  unfold partsN at h1'
  rw [if_neg (by simp; omega)]
  symm
  rw [decide_eq_false_iff_not]
  exact fun h2 => h1' h2.1
theorem impl_IsPerfect_ev : Ev (fun k => impl_IsPerfect.f k w h n) (perfN w h n) := by
 unfold impl_IsPerfect.f impl_IsConnected.f
 rw [← perf_value hg]
 refine Ev.bind (Ev.bind (impl_CountParts_ev hg hn) (Ev.ret rfl)) ?_
 refine Ev.ite (fun h1 => Ev.bnd0 (impl_CountPassages_eq hg hn) (Ev.bnd0 (impl_CountCells_eq w h) (Ev.ret ?_))) (fun h1 => Ev.ret ?_)
 ·rw [if_pos (by simpa using h1)]
  rw [Bool.eq_iff_iff]
  simp
 ·rw [if_neg (by simpa using h1)]
end
end Go.Proofs.Ytoohcdfokejkdaa.P
namespace Go.Proofs.Ytoohcdfokejkdaa.P
open Go.RowKit Go.Proofs.YtoohcdfokejkdaaW.PrintWords
set_option linter.unusedVariables false
set_option linter.unusedSimpArgs false

def lcF (x : Int) : Int := x * 6364136223846793005 + 1442695040888963407
def lcI : Nat → Int → Int
 | 0, x => x
 | k + 1, x => lcI k (lcF x)
theorem lcI_add : ∀ (j k : Nat) (x : Int), lcI (j + k) x = lcI k (lcI j x)
 | 0, k, x => by rw [Nat.zero_add]; rfl
 | j + 1, k, x => by
  rw [show j + 1 + k = (j + k) + 1 by omega]
  exact lcI_add j k (lcF x)
theorem lcI_form : ∀ j : Nat, ∃ t s : Int, ∀ x, lcI (2 ^ j) x = (1 + 4 * 2 ^ j * t) * x + 2 ^ j * (2 * s + 1)
 | 0 => ⟨1591034055961698251, 721347520444481703, fun x => by
   show lcF x = _
   unfold lcF
   rw [Int.pow_zero]
   omega⟩
 | j + 1 => by
  obtain ⟨t, s, h⟩ := lcI_form j
  refine ⟨t + 2 * 2 ^ j * t * t, s + (2 * s + 1) * 2 ^ j * t, fun x => ?_⟩
  rw [show 2 ^ (j + 1) = 2 ^ j + 2 ^ j by omega, lcI_add, h, h, Int.pow_succ]
  generalize (2 : Int) ^ j = P
  grind
theorem lcI_reach : ∀ (j : Nat) (x y : Int), ∃ (k : Nat) (q : Int), lcI k x = y + 2 ^ j * q
 | 0, x, y => ⟨0, x - y, by rw [Int.pow_zero]; show x = _; omega⟩
 | j + 1, x, y => by
  obtain ⟨k, q, hk⟩ := lcI_reach j x y
  obtain ⟨t, s, h⟩ := lcI_form j
  rcases Int.emod_two_eq q with e | e
  ·refine ⟨k, q / 2, ?_⟩
   have : q = 2 * (q / 2) := by omega
   rw [hk, Int.pow_succ]
   generalize (2 : Int) ^ j = P at *
   generalize q / 2 = r at *
   subst this
   grind
  ·have : q = 2 * (q / 2) + 1 := by omega
   refine ⟨k + 2 ^ j, q / 2 + 1 + s + 2 * t * (y + 2 ^ j * q), ?_⟩
   rw [lcI_add, hk, h, Int.pow_succ]
   generalize (2 : Int) ^ j = P at *
   generalize q / 2 = r at *
   subst this
   grind
def hs64 (h : Int) : Int := wrap64 (wrap64 (h * 6364136223846793005) + 1442695040888963407)
def hsI : Nat → Int → Int
 | 0, h => h
 | k + 1, h => hsI k (hs64 h)
theorem hs_wrap (z : Int) : hs64 (wrap64 z) = wrap64 (lcF z) := by
 unfold hs64 lcF wrap64
 omega
theorem hsI_wrap : ∀ (k : Nat) (z : Int), hsI k (wrap64 z) = wrap64 (lcI k z)
 | 0, z => rfl
 | k + 1, z => by
  show hsI k (hs64 (wrap64 z)) = _
  rw [hs_wrap, hsI_wrap k]
  rfl
theorem hs_reach (h y : Int) (h0 : -9223372036854775808 ≤ y) (h1 : y ≤ 9223372036854775807) : ∃ k, hsI (k + 1) h = y := by
 obtain ⟨k, q, hk⟩ := lcI_reach 64 (wrap64 (h * 6364136223846793005) + 1442695040888963407) y
 refine ⟨k, ?_⟩
 show hsI k (hs64 h) = y
 unfold hs64
 rw [hsI_wrap, hk]
 unfold wrap64
 omega
def byteOf (h : Int) : Int := Go.bits .and .i64 (Go.bits .xor .i64 (h / 8589934592) (h / 35184372088832)) 255
theorem byte_goal : ∀ g : Nat, g < 24 → byteOf ((g : Int) * 8589934592) = g := by decide +kernel
theorem byte_range (h : Int) : 0 ≤ byteOf h ∧ byteOf h ≤ 255 := bits_255 _
section
variable {l : List Int} (hl : l.length ≤ 1048576)
include hl in
theorem below_in {i : Nat} (hi : i < l.length) (h : Int) {n : Int} (h1 : 1 ≤ n) (h2 : n ≤ 256) : ∃ b h' : Int, spec_l01Below.f l i h n = some (b, ((i + 1 : Nat) : Int), h') ∧ 0 ≤ b ∧ b < n := by
 unfold spec_l01Below.f
 rw [if_neg (by omega), if_pos h2]
 unfold spec_l01Byte.f
 rw [if_pos (by omega), if_pos (by omega), Option.bind_some, if_neg (by omega), wsucc (by omega)]
 exact ⟨_, _, rfl, Int.tmod_nonneg _ (bits_255 _).1, Int.tmod_lt_of_pos _ (by omega)⟩
theorem below_out {i : Nat} (hi : l.length ≤ i) (h : Int) {n : Int} (h1 : 1 ≤ n) (h2 : n ≤ 256) : spec_l01Below.f l i h n = some (Int.tmod (byteOf (hs64 h)) n, (i : Int), hs64 h) := by
 unfold spec_l01Below.f
 rw [if_neg (by omega), if_pos h2]
 unfold spec_l01Byte.f
 rw [if_neg (by omega), Option.bind_some, if_neg (by omega)]
 rfl
variable {w h : Int} (hg : gridOk w h = true) (hpos : 1 ≤ gapsN w h)
include hg in
theorem small_step {n : Nat} (hn : n < 2 ^ gapsN w h) (h12 : 12 < pop (gapsN w h) n) {b : Nat} (hb : b < gapsN w h) {i1 h1 i2 h2 : Int} (e : spec_l01Below.f l i1 h1 (gapsOf w h) = some ((b : Int), i2, h2)) {r : Int × Int × Int × Int × Int}
  (next : Ev (fun k => spec_l12Small.l0 k l i2 h2 w h (setB n b false : Nat)) r) : Ev (fun k => spec_l12Small.l0 k l i1 h1 w h n) r := by
 exact Ev.step (fun _ => spec_l12Small.l0.eq_2 ..) (Ev.bind (spec_CountPassages_ev hg hn) (Ev.tt (by omega) (Ev.bnd0 (spec_CountGaps_eq w h) (Ev.bnd0 e (Ev.bind (spec_SetGap_ev hg hn hb false) next)))))
include hl hg hpos in
theorem small_l0 : ∀ (p n i : Nat) (h1 : Int), pop (gapsN w h) n = p → n < 2 ^ gapsN w h → ∃ (m : Nat) (i2 h2 : Int), m < 2 ^ gapsN w h ∧ pop (gapsN w h) m ≤ 12 ∧ Ev (fun k => spec_l12Small.l0 k l i h1 w h n) (w, h, (m : Int), i2, h2) := by
 intro p
 induction p using Nat.strongRecOn with
 | _ p IH =>
 intro n i h1 hp hn
 have hgc := gapsN_cast w h
 have h24 := gapsN_le w h
 by_cases h12 : pop (gapsN w h) n ≤ 12
 ·exact ⟨n, i, h1, hn, h12, Ev.step (fun _ => spec_l12Small.l0.eq_2 ..) (Ev.bind (spec_CountPassages_ev hg hn) (Ev.ff (by omega) (Ev.ret rfl)))⟩
 have hopen : ∃ g, g < gapsN w h ∧ n.testBit g = true := by
  apply Classical.byContradiction
  intro hno
  have : cnt n.testBit (gapsN w h) = 0 := cnt_zero_iff.2 fun j hj => Bool.eq_false_iff.2 fun q => hno ⟨j, hj, q⟩
  rw [← pop_cnt] at this
  omega
 obtain ⟨g, hgl, hgt⟩ := hopen
 have hit : ∀ (b i2 : Nat) (h2 : Int), b < gapsN w h → n.testBit b = true → ∃ (m : Nat) (i3 h3 : Int), m < 2 ^ gapsN w h ∧ pop (gapsN w h) m ≤ 12 ∧ Ev (fun k => spec_l12Small.l0 k l i2 h2 w h (setB n b false : Nat)) (w, h, (m : Int), i3, h3) := by
  intro b i2 h2 hb hbt
  have := (parts_del (gr_grid w h) hn hbt).1
  exact IH (pop (gapsN w h) (setB n b false)) (by omega) (setB n b false) i2 h2 rfl (setB_lt false hn hb)
 have miss : ∀ b, n.testBit b = false → setB n b false = n := fun b q => setB_same q
 -- the bytes are used up
 have outer : ∀ (k : Nat) (i : Nat) (h1 : Int), l.length ≤ i → hsI (k + 1) h1 = (g : Int) * 8589934592 → ∃ (m : Nat) (i2 h2 : Int), m < 2 ^ gapsN w h ∧ pop (gapsN w h) m ≤ 12 ∧ Ev (fun k => spec_l12Small.l0 k l i h1 w h n) (w, h, (m : Int), i2, h2) := by
  intro k
  induction k with
  | zero =>
   intro i h1 hi hk
   have e := below_out hi h1 (n := gapsOf w h) (by omega) (by omega)
   have hk' : hs64 h1 = (g : Int) * 8589934592 := hk
   rw [hk', byte_goal g (by omega), Int.tmod_eq_of_lt (by omega) (by omega)] at e
   obtain ⟨m, i3, h3, m1, m2, ev⟩ := hit g i _ hgl hgt
   exact ⟨m, i3, h3, m1, m2, small_step hg hn (by omega) hgl e ev⟩
  | succ k ih =>
   intro i h1 hi hk
   have e := below_out hi h1 (n := gapsOf w h) (by omega) (by omega)
   have hb0 := Int.tmod_nonneg (gapsOf w h) (byte_range (hs64 h1)).1
   have hb1 := Int.tmod_lt_of_pos (byteOf (hs64 h1)) (show 0 < gapsOf w h by omega)
   obtain ⟨b, hb⟩ := Int.eq_ofNat_of_zero_le hb0
   rw [hb] at e
   have hbl : b < gapsN w h := by omega
   cases hbt : n.testBit b with
   | true =>
    obtain ⟨m, i3, h3, m1, m2, ev⟩ := hit b i _ hbl hbt
    exact ⟨m, i3, h3, m1, m2, small_step hg hn (by omega) hbl e ev⟩
   | false =>
    obtain ⟨m, i3, h3, m1, m2, ev⟩ := ih i (hs64 h1) hi hk
    refine ⟨m, i3, h3, m1, m2, small_step hg hn (by omega) hbl e ?_⟩
    rw [miss b hbt]
    exact ev
 have inner : ∀ (d i : Nat) (h1 : Int), l.length - i = d → ∃ (m : Nat) (i2 h2 : Int), m < 2 ^ gapsN w h ∧ pop (gapsN w h) m ≤ 12 ∧ Ev (fun k => spec_l12Small.l0 k l i h1 w h n) (w, h, (m : Int), i2, h2) := by
  intro d
  induction d with
  | zero =>
   intro i h1 hd
   obtain ⟨k, hk⟩ := hs_reach h1 ((g : Int) * 8589934592) (by omega) (by omega)
   exact outer k i h1 (by omega) hk
  | succ d ih =>
   intro i h1 hd
   obtain ⟨b', h2, e, b0, b1⟩ := below_in hl (show i < l.length by omega) h1 (n := gapsOf w h) (by omega) (by omega)
   obtain ⟨b, rfl⟩ := Int.eq_ofNat_of_zero_le b0
   have hbl : b < gapsN w h := by omega
   cases hbt : n.testBit b with
   | true =>
    obtain ⟨m, i3, h3, m1, m2, ev⟩ := hit b (i + 1) h2 hbl hbt
    exact ⟨m, i3, h3, m1, m2, small_step hg hn (by omega) hbl e ev⟩
   | false =>
    obtain ⟨m, i3, h3, m1, m2, ev⟩ := ih (i + 1) h2 (by omega)
    refine ⟨m, i3, h3, m1, m2, small_step hg hn (by omega) hbl e ?_⟩
    rw [miss b hbt]
    exact ev
 exact inner _ i h1 rfl
end
theorem spec_DrawSmall_ev {l : List Int} (hl : l.length ≤ 1048576) : ∃ (w h : Int) (m : Nat), gridOk w h = true ∧ m < 2 ^ gapsN w h ∧ pop (gapsN w h) m ≤ 12 ∧ Ev (fun k => spec_DrawSmallMaze.f k l) (w, h, (m : Int)) := by
 obtain ⟨h', e1⟩ := spec_New_ev hl
 obtain ⟨w, h, n, i2, h2, hg, hn, hi2, ev⟩ := spec_l12Maze_ev hl (i1 := 0) (by omega) h'
 obtain ⟨i, rfl⟩ := Int.eq_ofNat_of_zero_le hi2
 have key : ∃ (m : Nat) (i3 h3 : Int), m < 2 ^ gapsN w h ∧ pop (gapsN w h) m ≤ 12 ∧ Ev (fun k => spec_l12Small.l0 k l i h2 w h n) (w, h, (m : Int), i3, h3) := by
  rcases Nat.eq_zero_or_pos (gapsN w h) with h0 | h0
  ·have hp := pop_le (gapsN w h) n
   exact ⟨n, i, h2, hn, by omega, Ev.step (fun _ => spec_l12Small.l0.eq_2 ..) (Ev.bind (spec_CountPassages_ev hg hn) (Ev.ff (by omega) (Ev.ret rfl)))⟩
  ·exact small_l0 hl hg h0 _ n i h2 rfl hn
 obtain ⟨m, i3, h3, m1, m2, ev2⟩ := key
 refine ⟨w, h, m, hg, m1, m2, ?_⟩
 have hS : Ev (fun k => spec_l12Small.f k l 0 h') (w, h, (m : Int), i3, h3) := by
  unfold spec_l12Small.f
  exact Ev.bind ev ev2
 unfold spec_DrawSmallMaze.f
 exact Ev.bind e1 (Ev.bind hS (Ev.ret rfl))
end Go.Proofs.Ytoohcdfokejkdaa.P
namespace Go.Proofs.Ytoohcdfokejkdaa.P
open Go.RowKit Go.Proofs.YtoohcdfokejkdaaW.PrintWords Go.Proofs.YtoohcdfokejkdaaW.PrintLast Go.Proofs.YtoohcdfokejkdaaW.PrintMore
attribute [local go_sem] max2_int min2_int max_two min_two max_three min_three max_four min_four   -- for this text's walks alone
set_option linter.unusedVariables false
set_option linter.unusedSimpArgs false

end Go.Proofs.Ytoohcdfokejkdaa.P
namespace Go.Proofs.Ytoohcdfokejkdaa.P
open Go.RowKit Go.Proofs.YtoohcdfokejkdaaW.PrintWords
set_option linter.unusedVariables false
set_option linter.unusedSimpArgs false

theorem cnt_all {p : Nat → Bool} {n : Nat} (h : ∀ i, i < n → p i = true) : cnt p n = n := by
 induction n with
 | zero => rfl
 | succ n ih => simp only [cnt]; rw [ih fun i hi => h i (by omega), h n (by omega)]; rfl
theorem cnt_shift (p : Nat → Bool) (t : Nat) (ht : p t = false) : ∀ x, cnt (fun i => if i < t then p i else p (i + 1)) x = cnt p (if x < t then x else x + 1)
 | 0 => by
  by_cases h : 0 < t
  ·rw [if_pos h]; rfl
  ·have : t = 0 := by omega
   subst this
   simp [cnt, ht]
 | x + 1 => by
  simp only [cnt]
  rw [cnt_shift p t ht x]
  by_cases h : x + 1 < t
  ·rw [if_pos (by omega), if_pos (by omega), if_pos h]; rfl
  ·rw [if_neg h]
   by_cases e : x < t
   ·have e1 : t = x + 1 := by omega
    subst e1
    rw [if_pos e, if_pos e]
    simp only [cnt, ht]
    rfl
   ·rw [if_neg e, if_neg e]; rfl
theorem dt_comp : ∀ (d V : Nat) (p : Nat → Bool) (A B : Nat → Nat → Int), cnt p V + d = V → (∀ x y, x < V → y < V → p x = false → A x y = dl x y) → (∀ x y, x < V → y < V → p x = true → p y = true → B (cnt p x) (cnt p y) = A x y) → dt V A = dt (cnt p V) B
 | 0, V, p, A, B, hc, hu, hB => by
  have hall : ∀ i, i < V → p i = true := by
   intro i hi
   cases hp : p i
   ·have := cnt_one (p := fun j => p j || decide (j = i)) (q := p) hi (by simp) hp (fun j _ hne => by simp [hne])
    have := cnt_le (fun j => p j || decide (j = i)) V
    omega
   ·rfl
  rw [cnt_all hall]
  refine dt_congr fun x y hx hy => ?_
  have := hB x y hx hy (hall x hx) (hall y hy)
  rw [cnt_all fun i hi => hall i (by omega), cnt_all fun i hi => hall i (by omega)] at this
  exact this.symm
 | d + 1, V, p, A, B, hc, hu, hB => by
  obtain ⟨t, ht, hpt⟩ : ∃ t, t < V ∧ p t = false := by
   apply Classical.byContradiction
   intro h
   have := cnt_all (p := p) (n := V) fun i hi => by
    cases hp : p i
    ·exact absurd ⟨i, hi, hp⟩ h
    ·rfl
   omega
  obtain ⟨r, rfl⟩ : ∃ r, V = r + 1 := ⟨V - 1, by omega⟩
  rw [unit_row (show t ≤ r by omega) fun c hc => hu t c ht (by omega) hpt]
  have hs : ∀ x, cnt (fun i => if i < t then p i else p (i + 1)) x = cnt p (if x < t then x else x + 1) := cnt_shift p t hpt
  have hr := hs r
  rw [if_neg (by omega)] at hr
  have hA : ∀ x y, er t (ec t A) x y = A (if x < t then x else x + 1) (if y < t then y else y + 1) := fun x y => by
   unfold er ec
   by_cases h1 : x < t <;> by_cases h2 : y < t <;> simp [h1, h2]
  rw [dt_comp d r (fun i => if i < t then p i else p (i + 1)) (er t (ec t A)) B (by omega) ?_ ?_, hr]
  ·intro x y hx hy hp
   rw [hA]
   by_cases h1 : x < t <;> by_cases h2 : y < t <;> simp only [h1, h2, if_true, if_false] at hp ⊢
   ·exact hu _ _ (by omega) (by omega) hp
   ·rw [hu _ _ (by omega) (by omega) hp, dl_ne (by omega), dl_ne (by omega)]
   ·rw [hu _ _ (by omega) (by omega) hp, dl_ne (by omega), dl_ne (by omega)]
   ·rw [hu _ _ (by omega) (by omega) hp]; unfold dl; by_cases e : x = y
    ·rw [if_pos (by omega), if_pos e]
    ·rw [if_neg (by omega), if_neg e]
  ·intro x y hx hy hpx hpy
   rw [hs, hs, hA]
   refine hB _ _ (by split <;> omega) (by split <;> omega) ?_ ?_
   ·by_cases h1 : x < t
    ·simpa only [h1, if_true] using hpx
    ·simpa only [h1, if_false] using hpx
   ·by_cases h1 : y < t
    ·simpa only [h1, if_true] using hpy
    ·simpa only [h1, if_false] using hpy
end Go.Proofs.Ytoohcdfokejkdaa.P
namespace Go.Proofs.Ytoohcdfokejkdaa.P
open Go.RowKit Go.Proofs.YtoohcdfokejkdaaW.PrintWords
set_option linter.unusedVariables false
set_option linter.unusedSimpArgs false

def plc (e : Nat → Nat × Nat) (E c x : Nat) : Nat := cnt (fun z => lab e c E z == z) (lab e c E x)
def pm (e : Nat → Nat × Nat) (E : Nat) (P : Nat → Nat) (U : Nat → Bool) (i j : Nat) : Int := sumTo E fun g => if U g then (dl i (P (e g).1) - dl i (P (e g).2)) * (dl j (P (e g).1) - dl j (P (e g).2)) else 0
theorem cnt_lt {p : Nat → Bool} {m n : Nat} (h : m < n) (hp : p m = true) : cnt p m < cnt p n := by
 obtain ⟨d, rfl⟩ := Nat.exists_eq_add_of_lt h
 induction d with
 | zero => simp only [Nat.add_zero, cnt, hp]; simp
 | succ d ih =>
  have := ih (by omega)
  have e : cnt p (m + (d + 1) + 1) = cnt p (m + d + 1) + (p (m + d + 1)).toNat := rfl
  omega
theorem cnt_inj {p : Nat → Bool} {m n : Nat} (hm : p m = true) (hn : p n = true) (h : cnt p m = cnt p n) : m = n := by
 rcases Nat.lt_trichotomy m n with h1 | h1 | h1
 ·have := cnt_lt h1 hm; omega
 ·exact h1
 ·have := cnt_lt h1 hn; omega
section
variable {e : Nat → Nat × Nat} {V E c b : Nat}
theorem lab_rep (x : Nat) : (lab e c E (lab e c E x) == lab e c E x) = true := by rw [lab_lab]; simp
theorem plc_lt {x : Nat} (hx : x < V) : plc e E c x < parts e V E c := cnt_lt (Nat.lt_of_le_of_lt (lab_le e c E x) hx) (lab_rep x)
theorem plc_eq {x y : Nat} : plc e E c x = plc e E c y ↔ lab e c E x = lab e c E y :=
 ⟨fun h => cnt_inj (p := fun z => lab e c E z == z) (lab_rep x) (lab_rep y) h, fun h => by unfold plc; rw [h]⟩
theorem lab_zero : lab e c E 0 = 0 := Nat.le_zero.1 (lab_le e c E 0)
theorem cnt_drop0 (q : Nat → Bool) (h0 : q 0 = true) : ∀ x, cnt (fun z => q z && decide (z ≠ 0)) x = cnt q x - 1
 | 0 => rfl
 | 1 => by simp [cnt, h0]
 | x + 2 => by
  have ih := cnt_drop0 q h0 (x + 1)
  have h1 : 0 < cnt q (x + 1) := cnt_pos (m := 0) (by omega) h0
  have e1 : cnt (fun z => q z && decide (z ≠ 0)) (x + 2) = cnt (fun z => q z && decide (z ≠ 0)) (x + 1) + (q (x + 1) && decide (x + 1 ≠ 0)).toNat := rfl
  have e2 : cnt q (x + 2) = cnt q (x + 1) + (q (x + 1)).toNat := rfl
  rw [e1, e2, ih]
  simp
  omega
theorem trees_place (hG : Gr e V E) (hV : 0 < V) (hc : c < 2 ^ E) (hb : b < 2 ^ E) (hd : ∀ i, c.testBit i = true → b.testBit i = false) (hf : pop E c + parts e V E c = V) :
  (trees e V E c b : Int) = dt (parts e V E c - 1) (fun i j => pm e E (plc e E c) (und c b) (i + 1) (j + 1)) := by
 rw [← trees_det hG hV _ c b hc hb hd hf rfl]
 have hq0 : (fun z => lab e c E z == z) 0 = true := by simp [lab_zero]
 have hcn := cnt_drop0 (fun z => lab e c E z == z) hq0
 have hpos : 0 < parts e V E c := parts_pos hc hV
 have hcV : cnt (fun z => (lab e c E z == z) && decide (z ≠ 0)) V = parts e V E c - 1 := hcn V
 rw [dt_comp (V - (parts e V E c - 1)) V (fun z => (lab e c E z == z) && decide (z ≠ 0)) (treeM e E c b 0) (fun i j => pm e E (plc e E c) (und c b) (i + 1) (j + 1)) (by rw [hcV]; have := cnt_le (fun z => lab e c E z == z) V; unfold parts; omega), hcV]
 ·intro x y hx hy hp
  have hr : lab e c E x ≠ x ∨ x = 0 := by
   simp only [Bool.and_eq_false_iff, decide_eq_false_iff_not, beq_eq_false_iff_ne, ne_eq, Classical.not_not] at hp
   exact hp
  unfold treeM big
  rw [lab_zero]
  have hv : ∀ g, vg (lab e c E) 0 (e g) x = 0 := fun g => by
   unfold vg
   rcases hr with h | h
   ·have : ∀ a, dl x (lab e c E a) = 0 := fun a => dl_ne fun h' => h (by rw [h', lab_lab])
    rw [this, this]; simp
   ·rw [if_pos h]
  have : sg e E (lab e c E) 0 (und c b) x y = 0 := by
   unfold sg
   exact sumTo_zero fun g _ => by rw [hv]; simp
  rw [this]
  unfold dg dl
  by_cases e1 : x = y
  ·rw [if_pos ⟨e1, hr⟩, if_pos e1]; rfl
  ·rw [if_neg fun h => e1 h.1, if_neg e1]; rfl
 ·intro x y hx hy hpx hpy
  simp only [Bool.and_eq_true, beq_iff_eq, decide_eq_true_eq] at hpx hpy
  rw [hcn, hcn]
  have hx1 : 0 < cnt (fun z => lab e c E z == z) x := cnt_pos (m := 0) (by omega) hq0
  have hy1 : 0 < cnt (fun z => lab e c E z == z) y := cnt_pos (m := 0) (by omega) hq0
  have hk : ∀ z, lab e c E z = z → ∀ a, dl (cnt (fun z => lab e c E z == z) z) (plc e E c a) = dl z (lab e c E a) := fun z hz a => by
   have e1 : cnt (fun z => lab e c E z == z) z = plc e E c z := by unfold plc; rw [hz]
   unfold dl
   rw [e1]
   by_cases h : z = lab e c E a
   ·rw [if_pos h, if_pos (plc_eq.2 (by rw [hz, h]))]
   ·rw [if_neg h, if_neg fun h' => h (by rw [← plc_eq.1 h', hz])]
  unfold treeM big pm
  rw [lab_zero, Nat.sub_add_cancel hx1, Nat.sub_add_cancel hy1]
  have : dg (lab e c E) 0 x y = 0 := by
   unfold dg
   exact if_neg fun h => h.2.elim (fun h => h hpx.1) (fun h => hpx.2 h)
  rw [this, Int.zero_add]
  unfold sg
  refine sumTo_congr fun g _ => ?_
  unfold vg
  rw [if_neg hpx.2, if_neg hpy.2, hk x hpx.1, hk x hpx.1, hk y hpy.1, hk y hpy.1]
end
end Go.Proofs.Ytoohcdfokejkdaa.P
namespace Go.Proofs.Ytoohcdfokejkdaa.P
open Go.RowKit Go.Proofs.YtoohcdfokejkdaaW.PrintWords
set_option linter.unusedVariables false
set_option linter.unusedSimpArgs false

def bd (A : Nat → Nat → Int) (k i j : Nat) : Nat → Nat → Int := fun r c => A (if r < k then r else i) (if c < k then c else j)
def mnB (A : Nat → Nat → Int) (k i j : Nat) : Int := dt (k + 1) (bd A k i j)
theorem mn_zero (A : Nat → Nat → Int) (i j : Nat) : mnB A 0 i j = A i j := by
 simp [mnB, dt, sumTo, bd, sgn]
theorem mn_diag (A : Nat → Nat → Int) (k : Nat) : mnB A k k k = dt (k + 1) A := by
 refine dt_congr fun r c hr hc => ?_
 unfold bd
 rw [show (if r < k then r else k) = r by split <;> omega, show (if c < k then c else k) = c by split <;> omega]
theorem mn_row (A : Nat → Nat → Int) (k i : Nat) : ∃ f : Nat → Int, ∀ j, mnB A k i j = dt k A * A i j + sumTo k (fun l => f l * A l j) := by
 refine ⟨fun l => sgn (k - l) * dt k (er l (bd A k i 0)), fun j => ?_⟩
 unfold mnB
 simp only [dt, sumTo]
 rw [Int.add_comm]
 congr 1
 ·rw [Nat.sub_self, show bd A k i j k k = A i j by simp [bd], show dt k (er k (bd A k i j)) = dt k A from dt_congr fun r c hr hc => by simp [er, bd, hr, hc]]
  simp [sgn, Int.mul_comm]
 ·refine sumTo_congr fun l hl => ?_
  rw [show bd A k i j l k = A l j by simp [bd, hl], show dt k (er l (bd A k i j)) = dt k (er l (bd A k i 0)) from dt_congr fun r c hr hc => by
   by_cases h : r < l <;> simp [er, bd, hc, h]]
  grind
theorem mn_col {A : Nat → Nat → Int} {k i j : Nat} (h : j < k) : mnB A k i j = 0 := by
 unfold mnB
 rw [← dt_tr]
 refine dt_eq _ (i := j) (j := k) (by omega) (by omega) (by omega) fun c => ?_
 simp [tr, bd]
theorem dt_comb {r : Nat} (A : Nat → Nat → Int) {i : Nat} (hi : i < r) (p : Int) (f : Nat → Int) : ∀ m, m ≤ i → dt r (rp A i (fun x => p * A i x + sumTo m (fun l => f l * A l x))) = p * dt r A
 | 0, _ => by
  have h := dt_lin A hi p 0 (A i) (A i)
  rw [rp_self] at h
  rw [show (fun x => p * A i x + sumTo 0 (fun l => f l * A l x)) = fun x => p * A i x + 0 * A i x by funext x; simp [sumTo], h]
  omega
 | m + 1, hm => by
  have h := dt_lin A hi 1 (f m) (fun x => p * A i x + sumTo m (fun l => f l * A l x)) (A m)
  rw [dt_comb A hi p f m (by omega), dt_eq (rp A i (A m)) (i := i) (j := m) (by omega) hi (by omega) (fun c => by rw [rp_same, rp_ne _ (by omega)])] at h
  rw [show (fun x => p * A i x + sumTo (m + 1) (fun l => f l * A l x)) = fun x => 1 * (p * A i x + sumTo m (fun l => f l * A l x)) + f m * A m x by
   funext x; simp only [sumTo]; omega, h]
  omega
theorem syl (A : Nat → Nat → Int) (k i j : Nat) (hp : dt k A ≠ 0) : dt k A * mnB A (k + 1) i j = mnB A k k k * mnB A k i j - mnB A k i k * mnB A k k j := by
 obtain ⟨f, hf⟩ := mn_row A k k
 obtain ⟨g, hg⟩ := mn_row A k i
 have hM : ∀ l, l ≤ k → ∀ x, bd A (k + 1) i j l x = A l (if x < k + 1 then x else j) := fun l hl x => by unfold bd; rw [if_pos (show l < k + 1 by omega)]
 have hL : ∀ x, bd A (k + 1) i j (k + 1) x = A i (if x < k + 1 then x else j) := fun x => by unfold bd; rw [if_neg (show ¬ k + 1 < k + 1 by omega)]
 generalize hMM : bd A (k + 1) i j = M at *
 have e1 := dt_comb (r := k + 2) M (i := k) (by omega) (dt k A) f k (Nat.le_refl k)
 have e1' : (fun x => dt k A * M k x + sumTo k (fun l => f l * M l x)) = fun x => mnB A k k (if x < k + 1 then x else j) := by
  funext x
  rw [hf, hM k (Nat.le_refl k)]
  congr 1
  exact sumTo_congr fun l hl => by rw [hM l (by omega)]
 rw [e1'] at e1
 generalize hN : rp M k (fun x => mnB A k k (if x < k + 1 then x else j)) = N at *
 have e2 := dt_comb (r := k + 2) N (i := k + 1) (by omega) (dt k A) g k (by omega)
 have hNl : ∀ l, l ≠ k → N l = M l := fun l hl => by rw [← hN, rp_ne _ hl]
 have hNk : ∀ x, N k x = mnB A k k (if x < k + 1 then x else j) := fun x => by rw [← hN, rp_same]
 have e2' : (fun x => dt k A * N (k + 1) x + sumTo k (fun l => g l * N l x)) = fun x => mnB A k i (if x < k + 1 then x else j) := by
  funext x
  rw [hg, hNl (k + 1) (by omega), hL]
  congr 1
  exact sumTo_congr fun l hl => by rw [hNl l (by omega), hM l (by omega)]
 rw [e2'] at e2
 generalize hR : rp N (k + 1) (fun x => mnB A k i (if x < k + 1 then x else j)) = R at *
 have hRl : ∀ l, l < k → ∀ x, R l x = A l (if x < k + 1 then x else j) := fun l hl x => by rw [← hR, rp_ne _ (by omega), hNl l (by omega), hM l (by omega)]
 have hRk : ∀ x, R k x = mnB A k k (if x < k + 1 then x else j) := fun x => by rw [← hR, rp_ne _ (by omega), hNk]
 have hRi : ∀ x, R (k + 1) x = mnB A k i (if x < k + 1 then x else j) := fun x => by rw [← hR, rp_same]
 have e3 : dt (k + 2) R = dt k A * (mnB A k k k * mnB A k i j - mnB A k i k * mnB A k k j) := by
  rw [dt_lastvec]
  have z : sumTo (k + 2) (fun c => sgn (k + 1 - c) * R (k + 1) c * dt (k + 1) (ec c R)) = sumTo k (fun c => sgn (k + 1 - c) * R (k + 1) c * dt (k + 1) (ec c R)) + sgn (k + 1 - k) * R (k + 1) k * dt (k + 1) (ec k R) + sgn (k + 1 - (k + 1)) * R (k + 1) (k + 1) * dt (k + 1) (ec (k + 1) R) := rfl
  rw [z, sumTo_zero (fun c hc => by rw [hRi, if_pos (by omega), mn_col hc]; simp)]
  have u1 : dt (k + 1) (ec k R) = mnB A k k j * dt k A := by
   rw [dt_unit (ec k R) (p := k) (q := k) (Nat.le_refl k) (Nat.le_refl k) (fun c hc hne => by
    rw [show ec k R k c = R k c from if_pos (by omega), hRk, if_pos (by omega), mn_col (by omega)])]
   rw [show ec k R k k = R k (k + 1) from if_neg (by omega), hRk, if_neg (by omega), sgn_par (show (k + k) % 2 = 0 % 2 by omega)]
   rw [show dt k (er k (ec k (ec k R))) = dt k A from dt_congr fun r c hr hc => by
    rw [show er k (ec k (ec k R)) r c = R r c by simp [er, ec, hr, hc], hRl r hr, if_pos (by omega)]]
   simp [sgn]
  have u2 : dt (k + 1) (ec (k + 1) R) = mnB A k k k * dt k A := by
   rw [dt_unit (ec (k + 1) R) (p := k) (q := k) (Nat.le_refl k) (Nat.le_refl k) (fun c hc hne => by
    rw [show ec (k + 1) R k c = R k c from if_pos (by omega), hRk, if_pos (by omega), mn_col (by omega)])]
   rw [show ec (k + 1) R k k = R k k from if_pos (by omega), hRk, if_pos (by omega), sgn_par (show (k + k) % 2 = 0 % 2 by omega)]
   rw [show dt k (er k (ec k (ec (k + 1) R))) = dt k A from dt_congr fun r c hr hc => by
    rw [show er k (ec k (ec (k + 1) R)) r c = R r c by simp [er, ec, hr, hc, show c < k + 1 by omega], hRl r hr, if_pos (by omega)]]
   simp [sgn]
  rw [u1, u2, hRi, hRi, if_pos (by omega), if_neg (by omega), show k + 1 - k = 1 by omega, Nat.sub_self, show sgn 1 = -1 from rfl, show sgn 0 = 1 from rfl]
  grind
 rw [e3, e1] at e2
 have e4 : dt k A * (mnB A k k k * mnB A k i j - mnB A k i k * mnB A k k j) = dt k A * (dt k A * mnB A (k + 1) i j) := by
  rw [e2]; unfold mnB; rw [hMM]
 exact (Int.eq_of_mul_eq_mul_left hp e4).symm
def sumFrom (k n : Nat) (f : Nat → Int) : Int := sumTo n fun j => if k ≤ j then f j else 0
structure Heavy (n : Nat) (A : Nat → Nat → Int) : Prop where
 off : ∀ i j, i < n → j < n → i ≠ j → A i j ≤ 0
 row : ∀ i, i < n → 0 ≤ sumTo n (A i)
structure HeavyK (n : Nat) (A : Nat → Nat → Int) (k : Nat) : Prop where
 off : ∀ i j, k ≤ i → k ≤ j → i < n → j < n → i ≠ j → mnB A k i j ≤ 0
 row : ∀ i, k ≤ i → i < n → 0 ≤ sumFrom k n (mnB A k i)
 pos : 0 < dt k A
theorem sumTo_ge {n i : Nat} {f : Nat → Int} (hi : i < n) (h : ∀ j, j < n → j ≠ i → f j ≤ 0) : sumTo n f ≤ f i := by
 induction n with
 | zero => omega
 | succ n ih =>
  simp only [sumTo]
  by_cases e : i = n
  ·subst e
   have : ∀ m, m ≤ i → sumTo m f ≤ 0 := by
    intro m
    induction m with
    | zero => intro _; exact Int.le_refl _
    | succ m ihm => intro hm; simp only [sumTo]; have := ihm (by omega); have := h m (by omega) (by omega); omega
   have := this i (Nat.le_refl i)
   omega
  ·have := ih (by omega) (fun j hj hne => h j (by omega) hne)
   have := h n (by omega) (fun e' => e e'.symm)
   omega
theorem sumTo_ge2 {n i j : Nat} {f : Nat → Int} (hi : i < n) (hj : j < n) (hij : i ≠ j) (h : ∀ j, j < n → j ≠ i → f j ≤ 0) : sumTo n f ≤ f i + f j := by
 have h1 := sumTo_one (f := fun k => if k = j then 0 else f k) (g := f) hj (fun k hk hne => by simp [hne])
 have h2 := sumTo_ge (f := fun k => if k = j then 0 else f k) hi (fun k hk hne => by
  show (if k = j then 0 else f k) ≤ 0
  by_cases e : k = j
  ·rw [if_pos e]; omega
  ·rw [if_neg e]; exact h k hk hne)
 rw [if_pos rfl] at h1
 rw [if_neg hij] at h2
 omega
theorem HeavyK.diag {n k : Nat} {A : Nat → Nat → Int} (H : HeavyK n A k) {i : Nat} (h1 : k ≤ i) (h2 : i < n) : 0 ≤ mnB A k i i := by
 have := H.row i h1 h2
 unfold sumFrom at this
 have h3 := sumTo_ge (f := fun j => if k ≤ j then mnB A k i j else 0) h2 (fun j hj hne => by
  show (if k ≤ j then mnB A k i j else 0) ≤ 0
  split
  ·rename_i hkj; exact H.off i j h1 hkj h2 hj hne.symm
  ·omega)
 simp only [h1, if_true] at h3
 omega
theorem HeavyK.abs {n k : Nat} {A : Nat → Nat → Int} (H : HeavyK n A k) {i j : Nat} (h1 : k ≤ i) (h2 : i < n) (h3 : k ≤ j) (h4 : j < n) (hij : i ≠ j) : -mnB A k i i ≤ mnB A k i j := by
 have := H.row i h1 h2
 unfold sumFrom at this
 have h5 := sumTo_ge2 (f := fun j => if k ≤ j then mnB A k i j else 0) h2 h4 hij (fun j hj hne => by
  show (if k ≤ j then mnB A k i j else 0) ≤ 0
  split
  ·rename_i hkj; exact H.off i j h1 hkj h2 hj hne.symm
  ·omega)
 simp only [h1, h3, if_true] at h5
 omega
theorem HeavyK.start {n : Nat} {A : Nat → Nat → Int} (H : Heavy n A) : HeavyK n A 0 where
 off := fun i j _ _ hi hj hij => by rw [mn_zero]; exact H.off i j hi hj hij
 row := fun i _ hi => by
  unfold sumFrom
  simp only [mn_zero, Nat.zero_le, if_true]
  exact H.row i hi
 pos := by simp [dt]
theorem HeavyK.next {n k : Nat} {A : Nat → Nat → Int} (H : HeavyK n A k) (hk : k < n) (hp : mnB A k k k ≠ 0) : HeavyK n A (k + 1) := by
 have hd := H.diag (Nat.le_refl k) hk
 have hpos := H.pos
 have S := fun i j => syl A k i j (by omega)
 refine { off := fun i j hi hj hin hjn hij => ?_, row := fun i hi hin => ?_, pos := by rw [← mn_diag]; omega }
 ·have h1 := H.off i j (by omega) (by omega) hin hjn hij
  have h2 := H.off i k (by omega) (by omega) hin hk (by omega)
  have h3 := H.off k j (by omega) (by omega) hk hjn (by omega)
  have e := S i j
  have a1 : mnB A k k k * mnB A k i j ≤ 0 := Int.mul_nonpos_of_nonneg_of_nonpos hd h1
  have a2 : 0 ≤ mnB A k i k * mnB A k k j := Int.mul_nonneg_of_nonpos_of_nonpos h2 h3
  rcases Int.lt_or_le 0 (mnB A (k + 1) i j) with hc | hc
  ·have := Int.mul_pos hpos hc
   omega
  ·exact hc
 ·have e : dt k A * sumFrom (k + 1) n (mnB A (k + 1) i) = mnB A k k k * sumFrom k n (mnB A k i) - mnB A k i k * sumFrom k n (mnB A k k) := by
   unfold sumFrom
   rw [← sumTo_mul, ← sumTo_mul, ← sumTo_mul, Int.sub_eq_add_neg, ← sumTo_neg, ← sumTo_add]
   refine sumTo_congr fun j hj => ?_
   by_cases h1 : k + 1 ≤ j
   ·rw [if_pos h1, if_pos (by omega), if_pos (by omega), S i j]; omega
   ·rw [if_neg h1]
    by_cases h2 : k = j
    ·subst h2
     rw [if_pos (Nat.le_refl _), if_pos (Nat.le_refl _), Int.mul_comm (mnB A k i k)]; omega
    ·rw [if_neg (by omega), if_neg (by omega)]; omega
  have h1 := H.row i (by omega) hin
  have h2 := H.row k (Nat.le_refl k) hk
  have h3 := H.off i k (by omega) (by omega) hin hk (by omega)
  have a1 := Int.mul_nonneg hd h1
  have a2 : mnB A k i k * sumFrom k n (mnB A k k) ≤ 0 := Int.mul_nonpos_of_nonpos_of_nonneg h3 h2
  rcases Int.lt_or_le (sumFrom (k + 1) n (mnB A (k + 1) i)) 0 with hc | hc
  ·have := Int.mul_neg_of_pos_of_neg hpos hc
   omega
  ·exact hc
theorem HeavyK.zero {n k : Nat} {A : Nat → Nat → Int} (H : HeavyK n A k) (hk : k < n) (hp : mnB A k k k = 0) : dt n A = 0 := by
 have hpos := H.pos
 have hz : ∀ j, j < n → mnB A k k j = 0 := by
  intro j hj
  by_cases h1 : j < k
  ·exact mn_col h1
  ·by_cases h2 : k = j
   ·rw [← h2]; exact hp
   ·have := H.off k j (Nat.le_refl k) (by omega) hk hj h2
    have := H.abs (Nat.le_refl k) hk (show k ≤ j by omega) hj h2
    omega
 obtain ⟨f, hf⟩ := mn_row A k k
 have h1 := dt_comb A hk (dt k A) f k (Nat.le_refl k)
 rw [dt_zero _ hk (fun c hc => by rw [rp_same, ← hf, hz c hc])] at h1
 rcases Int.mul_eq_zero.1 h1.symm with h | h
 ·omega
 ·exact h
theorem HeavyK.step_le {n k : Nat} {A : Nat → Nat → Int} (H : HeavyK n A k) (hk : k < n) {i : Nat} (hi : k < i) (hin : i < n) : dt k A * mnB A (k + 1) i i ≤ dt (k + 1) A * mnB A k i i := by
 rw [syl A k i i (by have := H.pos; omega), ← mn_diag]
 have := Int.mul_nonneg_of_nonpos_of_nonpos (H.off i k (by omega) (by omega) hin hk (by omega)) (H.off k i (by omega) (by omega) hk hin (by omega))
 omega
/-- The product of the first k numbers of the diagonal. -/
def dprod (A : Nat → Nat → Int) : Nat → Int
  | 0 => 1
  | k + 1 => dprod A k * A k k
theorem Heavy.diag {n : Nat} {A : Nat → Nat → Int} (H : Heavy n A) {i : Nat} (hi : i < n) : 0 ≤ A i i := by
  have := H.row i hi
  have := sumTo_ge (f := A i) hi (fun j hj hne => H.off i j hi hj (Ne.symm hne))
  omega
theorem dprod_nonneg {n : Nat} {A : Nat → Nat → Int} (H : Heavy n A) : ∀ k, k ≤ n → 0 ≤ dprod A k
  | 0, _ => by simp [dprod]
  | k + 1, h => Int.mul_nonneg (dprod_nonneg H k (by omega)) (H.diag (by omega))
/-- What is kept from step to step. -/
structure Stage (n : Nat) (A : Nat → Nat → Int) (k : Nat) : Prop extends HeavyK n A k where
  ple : dt k A ≤ dprod A k
  dle : ∀ i, k ≤ i → i < n → mnB A k i i ≤ dt k A * A i i
theorem Stage.start {n : Nat} {A : Nat → Nat → Int} (H : Heavy n A) : Stage n A 0 :=
  { HeavyK.start H with ple := by simp [dt, dprod], dle := fun i _ _ => by rw [mn_zero]; simp [dt] }
theorem Stage.next {n k : Nat} {A : Nat → Nat → Int} (H : Heavy n A) (K : Stage n A k) (hk : k < n) (hp : mnB A k k k ≠ 0) : Stage n A (k + 1) := by
  have N := K.toHeavyK.next hk hp
  have hpos := K.pos
  refine { N with ple := ?_, dle := fun i hi hin => ?_ }
  · have h1 := K.dle k (Nat.le_refl k) hk
    rw [mn_diag] at h1
    have h2 := Int.mul_le_mul_of_nonneg_right K.ple (H.diag hk)
    exact Int.le_trans h1 h2
  · have h1 := K.toHeavyK.step_le hk (show k < i by omega) hin
    have h2 := K.dle i (by omega) hin
    have h3 := Int.mul_le_mul_of_nonneg_left h2 (Int.le_of_lt N.pos)
    have h4 : dt k A * mnB A (k + 1) i i ≤ dt k A * (dt (k + 1) A * A i i) := by
      refine Int.le_trans h1 (Int.le_trans h3 (Int.le_of_eq ?_))
      rw [← Int.mul_assoc, ← Int.mul_assoc, Int.mul_comm (dt (k + 1) A)]
    exact Int.le_of_mul_le_mul_left h4 hpos
theorem cube_pow : ∀ d : Nat, d ^ 3 ≤ 3 ^ d
  | 0 => by decide
  | 1 => by decide
  | 2 => by decide
  | 3 => by decide
  | d + 4 => by
    have ih := cube_pow (d + 3)
    rw [Nat.pow_succ 3 (d + 3)]
    have : (d + 4) ^ 3 ≤ (d + 3) ^ 3 * 3 := by
      have e1 : (d + 4) ^ 3 = d * d * d + 12 * (d * d) + 48 * d + 64 := by grind
      have e2 : (d + 3) ^ 3 = d * d * d + 9 * (d * d) + 27 * d + 27 := by grind
      rw [e1, e2]
      omega
    omega
theorem cube_le {a b : Nat} (h : a ^ 3 ≤ b ^ 3) : a ≤ b := by
  rcases Nat.lt_or_ge b a with h1 | h1
  · have := Nat.pow_lt_pow_left h1 (show 3 ≠ 0 by decide)
    omega
  · exact h1
theorem dprod_cube {n : Nat} {A : Nat → Nat → Int} (H : Heavy n A) : ∀ k, k ≤ n → ∃ s : Nat, sumTo k (fun l => A l l) = s ∧ (dprod A k).toNat ^ 3 ≤ 3 ^ s
  | 0, _ => ⟨0, rfl, by simp [dprod]⟩
  | k + 1, hk => by
    obtain ⟨s, h1, h2⟩ := dprod_cube H k (by omega)
    have hd := H.diag (show k < n by omega)
    obtain ⟨a, ha⟩ := Int.eq_ofNat_of_zero_le hd
    obtain ⟨p, hp⟩ := Int.eq_ofNat_of_zero_le (dprod_nonneg H k (by omega))
    refine ⟨s + a, by simp only [sumTo]; rw [h1, ha]; rfl, ?_⟩
    simp only [dprod]
    rw [hp] at h2
    rw [ha, hp, ← Int.natCast_mul, Int.toNat_natCast, Nat.mul_pow, Nat.pow_add]
    exact Nat.mul_le_mul (by simpa using h2) (cube_pow a)
theorem sumTo_mono {n m : Nat} {f : Nat → Int} (h : ∀ i, i < m → 0 ≤ f i) (hn : n ≤ m) : sumTo n f ≤ sumTo m f := by
  induction m with
  | zero => rw [Nat.le_zero.1 hn]; exact Int.le_refl _
  | succ m ih =>
    by_cases e : n = m + 1
    · rw [e]; exact Int.le_refl _
    · have := ih (fun i hi => h i (by omega)) (by omega)
      simp only [sumTo]
      have := h m (by omega)
      omega
theorem sumTo_mono1 {n m i : Nat} {f : Nat → Int} (h : ∀ i, i < m → 0 ≤ f i) (hn : n ≤ i) (hi : i < m) : sumTo n f + f i ≤ sumTo m f := by
  have h1 := sumTo_mono (f := f) (fun j hj => h j (by omega)) hn (m := i)
  have h2 := sumTo_mono (f := f) h (show i + 1 ≤ m by omega)
  simp only [sumTo] at h2
  omega
/-- Every bordered minor is small. -/
theorem Stage.small {n k : Nat} {A : Nat → Nat → Int} (H : Heavy n A) (K : Stage n A k) (hs : sumTo n (fun l => A l l) ≤ 48) {i j : Nat} (hi : k ≤ i) (hin : i < n) (hj : k ≤ j) (hjn : j < n) : -43046721 ≤ mnB A k i j ∧ mnB A k i j ≤ 43046721 := by
  have hd := H.diag hin
  have hpn := dprod_nonneg H k (by omega)
  have key : mnB A k i i ≤ 43046721 := by
    have h1 := K.dle i hi hin
    have h2 := Int.mul_le_mul_of_nonneg_right K.ple hd
    have h3 : dprod A k * A i i ≤ 43046721 := by
      obtain ⟨s, e1, e2⟩ := dprod_cube H k (by omega)
      obtain ⟨a, ha⟩ := Int.eq_ofNat_of_zero_le hd
      obtain ⟨p, hp⟩ := Int.eq_ofNat_of_zero_le hpn
      have h4 := sumTo_mono1 (f := fun l => A l l) (fun l hl => H.diag hl) hi hin
      simp only [e1, ha] at h4
      rw [hp] at e2
      have h5 : (p * a) ^ 3 ≤ 43046721 ^ 3 := by
        rw [Nat.mul_pow]
        refine Nat.le_trans (Nat.mul_le_mul (by simpa using e2) (cube_pow a)) ?_
        rw [← Nat.pow_add, show (43046721 : Nat) ^ 3 = 3 ^ 48 by decide]
        exact Nat.pow_le_pow_right (by decide) (by omega)
      have h6 := cube_le h5
      rw [ha, hp, ← Int.natCast_mul]
      omega
    omega
  have h0 := K.toHeavyK.diag hi hin
  by_cases e : i = j
  · subst e; omega
  · have := K.off i j hi hj hin hjn e
    have := K.toHeavyK.abs hi hin hj hjn e
    omega
theorem setB_false_sub {n j i : Nat} (h : (setB n j false).testBit i = true) : n.testBit i = true := by
 rw [testBit_setB] at h
 split at h
 ·cases h
 ·exact h
theorem setB_false_mono {n m j i : Nat} (hs : ∀ i, m.testBit i = true → n.testBit i = true) (h : (setB m j false).testBit i = true) : (setB n j false).testBit i = true := by
 rw [testBit_setB] at h ⊢
 split at h
 ·cases h
 ·rename_i hne
  rw [if_neg hne]
  exact hs i h
theorem bridges_forest {e : Nat → Nat × Nat} {V E : Nat} (hG : Gr e V E) : ∀ p n, pop E n = p → n < 2 ^ E → (∀ j, j < E → n.testBit j = true → ¬ Cn e (setB n j false) (e j).1 (e j).2) → pop E n + parts e V E n = V := by
 intro p
 induction p using Nat.strongRecOn with
 | _ p ih =>
  intro n hp hn hb
  by_cases he : ∃ g, g < E ∧ n.testBit g = true
  ·obtain ⟨g, hg, hbg⟩ := he
   have hlt : setB n g false < 2 ^ E := setB_lt _ hn hg
   have p1 := pop_setB (m := E) (n := setB n g false) hg (setB_bit n g false)
   rw [setB_off_on hbg] at p1
   have p2 := (parts_add (v := V) hlt hg (hG g hg).1 (hG g hg).2).2 (hb g hg hbg)
   rw [setB_off_on hbg] at p2
   have := ih (pop E (setB n g false)) (by omega) _ rfl hlt (fun j hj hbj hc => hb j hj (setB_false_sub hbj) (Cn.mono (fun i hi => setB_false_mono (fun i hi => setB_false_sub hi) hi) hc))
   omega
  ·have h0 : n = 0 := by
    refine Nat.eq_of_testBit_eq fun i => ?_
    rw [Nat.zero_testBit]
    cases hbi : n.testBit i
    ·rfl
    ·exact absurd ⟨i, lt_of_testBit hn hbi, hbi⟩ he
   subst h0
   have : ∀ m, pop m 0 = 0 := by
    intro m
    induction m with
    | zero => rfl
    | succ m ih => simp only [pop, Nat.zero_testBit, ih]; rfl
   rw [this, parts_zero, Nat.zero_add]
end Go.Proofs.Ytoohcdfokejkdaa.P
namespace Go.Proofs.Ytoohcdfokejkdaa.P
open Go.RowKit Go.Proofs.YtoohcdfokejkdaaW.PrintWords
set_option linter.unusedVariables false
set_option linter.unusedSimpArgs false

section
variable {e : Nat → Nat × Nat} {V E : Nat}
theorem forest_sub (hG : Gr e V E) {c t : Nat} (ht : t < 2 ^ E) (hc : c < 2 ^ E) (hf : pop E t + parts e V E t = V) (hs : ∀ i, c.testBit i = true → t.testBit i = true) : pop E c + parts e V E c = V := by
 refine bridges_forest hG _ c rfl hc fun j hj hb hcn => ?_
 refine bridge_of_forest hG ht hf (hs j hb) (hcn.mono fun i hi => ?_)
 rw [testBit_setB] at hi ⊢
 by_cases h : i = j
 ·rw [if_pos h] at hi; cases hi
 ·rw [if_neg h] at hi ⊢; exact hs i hi
theorem cnt_ex {p : Nat → Bool} {n : Nat} (h : 0 < cnt p n) : ∃ i, i < n ∧ p i = true := by
 apply Classical.byContradiction
 intro hn
 have : cnt p n = 0 := cnt_zero_iff.2 fun i hi => by
  cases hp : p i
  ·rfl
  ·exact absurd ⟨i, hi, hp⟩ hn
 omega
theorem trees_ex {c b : Nat} (h : 0 < trees e V E c b) : ∃ t, t < 2 ^ E ∧ sup E c b t = true ∧ perf e V E t = true := by
 obtain ⟨t, ht, hp⟩ := cnt_ex h
 rw [Bool.and_eq_true] at hp
 exact ⟨t, ht, hp⟩
theorem trees_pos {c b t : Nat} (ht : t < 2 ^ E) (hs : sup E c b t = true) (hp : perf e V E t = true) : 0 < trees e V E c b := by
 unfold trees
 exact cnt_pos ht (by rw [hs, hp]; rfl)
theorem trees_le (c b : Nat) : trees e V E c b ≤ 2 ^ E := cnt_le _ _
theorem trees_loops (hG : Gr e V E) {c b : Nat} (hc : c < 2 ^ E) (hf : ¬ pop E c + parts e V E c = V) : trees e V E c b = 0 := by
 rcases Nat.eq_zero_or_pos (trees e V E c b) with h | h
 ·exact h
 ·obtain ⟨t, ht, hs, hp⟩ := trees_ex h
  rw [perf_iff] at hp
  refine absurd (forest_sub hG ht hc (by omega) fun i hi => ?_) hf
  exact (sup_iff.1 hs i (lt_of_testBit hc hi)).1 hi
structure Dec (E d c b : Nat) : Prop where
 cl : c < 2 ^ E
 bl : b < 2 ^ E
 dis : ∀ i, c.testBit i = true → b.testBit i = false
 done : ∀ i, i < E - d → c.testBit i = false → b.testBit i = true
 todo : ∀ i, E - d ≤ i → c.testBit i = false ∧ b.testBit i = false
theorem Dec.start : Dec E E 0 0 := ⟨Nat.two_pow_pos E, Nat.two_pow_pos E, fun i h => by simp at h, fun i h => by omega, fun i _ => by simp⟩
theorem Dec.on {d c b : Nat} (h : Dec E (d + 1) c b) (hd : d + 1 ≤ E) : Dec E d (setB c (E - (d + 1)) true) b where
 cl := setB_lt true h.cl (by omega)
 bl := h.bl
 dis := fun i hi => by
  rw [testBit_setB] at hi
  split at hi
  ·rename_i e1; rw [e1]; exact (h.todo _ (Nat.le_refl _)).2
  ·exact h.dis i hi
 done := fun i hi hc => by
  rw [testBit_setB] at hc
  split at hc
  ·cases hc
  ·exact h.done i (by omega) hc
 todo := fun i hi => by
  rw [testBit_setB, if_neg (by omega)]
  exact h.todo i (by omega)
theorem Dec.off {d c b : Nat} (h : Dec E (d + 1) c b) (hd : d + 1 ≤ E) : Dec E d c (setB b (E - (d + 1)) true) where
 cl := h.cl
 bl := setB_lt true h.bl (by omega)
 dis := fun i hi => by
  rw [testBit_setB]
  split
  ·rename_i e1; rw [e1, (h.todo _ (Nat.le_refl _)).1] at hi; cases hi
  ·exact h.dis i hi
 done := fun i hi hc => by
  rw [testBit_setB]
  split
  ·rfl
  ·exact h.done i (by omega) hc
 todo := fun i hi => by
  rw [testBit_setB, if_neg (by omega)]
  exact h.todo i (by omega)
theorem Dec.und {d c b : Nat} (h : Dec E (d + 1) c b) : und c b (E - (d + 1)) = true := by
 unfold P.und
 rw [(h.todo _ (Nat.le_refl _)).1, (h.todo _ (Nat.le_refl _)).2]
 rfl
theorem Dec.split {d c b : Nat} (h : Dec E (d + 1) c b) (hd : d + 1 ≤ E) : trees e V E c b = trees e V E (setB c (E - (d + 1)) true) b + trees e V E c (setB b (E - (d + 1)) true) := trees_split (by omega) h.und
end
end Go.Proofs.Ytoohcdfokejkdaa.P
namespace Go.Proofs.Ytoohcdfokejkdaa.P
open Go.RowKit Go.Proofs.YtoohcdfokejkdaaW.PrintWords
set_option linter.unusedVariables false
set_option linter.unusedSimpArgs false

section
variable {e : Nat → Nat × Nat} {V E : Nat}
theorem lab_none (x : Nat) : lab e 0 E x = x := by
 have h := lab_cn (e := e) (n := 0) (k := E) (Nat.two_pow_pos E) x
 exact (Cn_zero.1 h).symm
theorem pop_none (m : Nat) : pop m 0 = 0 := by
 induction m with
 | zero => rfl
 | succ m ih => simp only [pop, Nat.zero_testBit, ih]; rfl
def lpl (e : Nat → Nat × Nat) (E b : Nat) (i j : Nat) : Int := pm e E id (und 0 b) i j
theorem trees_lpl {b k : Nat} (hG : Gr e V E) (hk : k < V) (hb : b < 2 ^ E) : (trees e V E 0 b : Int) = dt (V - 1) (er k (ec k (lpl e E b))) := by
 have hf : pop E 0 + parts e V E 0 = V := by rw [pop_none, parts_zero, Nat.zero_add]
 rw [← trees_det hG hk _ 0 b (Nat.two_pow_pos E) hb (fun i hi => by simp at hi) hf rfl]
 obtain ⟨r, rfl⟩ : ∃ r, V = r + 1 := ⟨V - 1, by omega⟩
 have hkr : k ≤ r := by omega
 rw [unit_row hkr, Nat.add_sub_cancel]
 ·refine minor_congr hkr fun x y hx hy hxk hyk => ?_
  unfold treeM big lpl pm
  simp only [lab_none]
  have : dg (lab e 0 E) k x y = 0 := by
   unfold dg
   exact if_neg fun h => h.2.elim (fun h => h (lab_none x)) hxk
  rw [this, Int.zero_add]
  unfold sg
  refine sumTo_congr fun g _ => ?_
  unfold vg
  rw [if_neg hxk, if_neg hyk]
  simp only [lab_none, id]
 ·intro c hc
  unfold treeM big
  simp only [lab_none]
  have : sg e E (lab e 0 E) k (und 0 b) k c = 0 := by
   unfold sg
   exact sumTo_zero fun g _ => by unfold vg; rw [if_pos rfl]; simp
  rw [this]
  unfold dg dl
  by_cases e1 : k = c
  ·rw [if_pos ⟨e1, .inr rfl⟩, if_pos e1]; rfl
  ·rw [if_neg fun h => e1 h.1, if_neg e1]; rfl
end
end Go.Proofs.Ytoohcdfokejkdaa.P
namespace Go.Proofs.Ytoohcdfokejkdaa.P
open Go.RowKit Go.Proofs.YtoohcdfokejkdaaW.PrintWords
set_option linter.unusedVariables false
set_option linter.unusedSimpArgs false

def inB (w h c : Int) (d g : Nat) : Bool := decide (0 ≤ nbI w h c d ∧ gapI w h c d = g)
def incB (W H : Nat) (c g : Nat) : Bool := decide ((inB W H c 0 g).toNat + (inB W H c 1 g).toNat + (inB W H c 2 g).toNat + (inB W H c 3 g).toNat = if (endsI W H g).1 = (c : Int) ∨ (endsI W H g).2 = (c : Int) then 1 else 0)
theorem inc_all : (List.range 5).all (fun W => (List.range 5).all fun H => (List.range 16).all fun c => (List.range 24).all fun g => !gridOk W H || !decide (c < cellsN W H) || !decide (g < gapsN W H) || incB W H c g) = true := by decide +kernel
theorem inc_facts {w h : Int} (hg : gridOk w h = true) {c g : Nat} (hc : c < cellsN w h) (hgg : g < gapsN w h) :
  (inB w h c 0 g).toNat + (inB w h c 1 g).toNat + (inB w h c 2 g).toNat + (inB w h c 3 g).toNat = if (ends w h g).1 = c ∨ (ends w h g).2 = c then 1 else 0 := by
 obtain ⟨W, H, rfl, rfl, hW1, hW2, hH1, hH2⟩ := grid_nat hg
 have h16 := cellsN_le (W : Int) (H : Int)
 have h24 := gapsN_le (W : Int) (H : Int)
 have := inc_all
 simp only [List.all_eq_true, List.mem_range] at this
 have := this W hW2 H hH2 c (by omega) g (by omega)
 rw [hg, decide_eq_true hc, decide_eq_true hgg] at this
 simp only [Bool.not_true, Bool.false_or] at this
 unfold incB at this
 rw [decide_eq_true_eq] at this
 rw [this, (ends_facts hgg).1]
 congr 1
 simp only [eq_iff_iff]
 omega
def nbs (w h : Int) (n c : Nat) : List Nat := ([0, 1, 2, 3].filter fun d => decide (0 ≤ st w h n c d)).map fun d => (st w h n c d).toNat
section
variable {w h : Int} {n c : Nat} (hg : gridOk w h = true) (hn : n < 2 ^ gapsN w h) (hc : c < cellsN w h)
include hg hn hc
omit hg in
theorem nbs_mem {x : Nat} (hx : x ∈ nbs w h n c) : x < cellsN w h ∧ x ≠ c := by
 unfold nbs at hx
 obtain ⟨d, hd, rfl⟩ := List.mem_map.1 hx
 rw [List.mem_filter, decide_eq_true_eq] at hd
 obtain ⟨g, g1, g2, g3, g4, g5⟩ := step_open (w := w) (h := h) (c := c) (d := d) hn hd.2
 have hd0 := hd.2
 have hV := cellsN_cast w h
 unfold st at *
 rcases step_facts w h c d with ⟨q1, _⟩ | ⟨q1, q2, q3, _⟩
 ·omega
 ·omega
def wayE (w h : Int) (n c j d : Nat) : Int := if 0 ≤ st w h n c d then dl j c - dl j (st w h n c d).toNat else 0
def gapE (w h : Int) (n c j g : Nat) : Int := if n.testBit g = true then (dl c (ends w h g).1 - dl c (ends w h g).2) * (dl j (ends w h g).1 - dl j (ends w h g).2) else 0
omit hg hn hc in
theorem sum_way (j : Nat) (d : Nat) : sumTo (gapsN w h) (fun g => ((inB w h c d g).toNat : Int) * gapE w h n c j g) = wayE w h n c j d := by
 have hgc := gapsN_cast w h
 rcases step_facts w h c d with ⟨q1, q2⟩ | ⟨q1, q2, q3, q4, q5, q6, _⟩
 ·rw [sumTo_zero]
  ·unfold wayE st stepI
   rw [q1]
   split
   ·split at * <;> omega
   ·rfl
  ·intro g hgg
   have : inB w h c d g = false := by unfold inB; rw [decide_eq_false_iff_not]; omega
   rw [this]; simp
 ·obtain ⟨g, hgd⟩ := Int.eq_ofNat_of_zero_le q4
  have hgg : g < gapsN w h := by omega
  rw [sumTo_single hgg]
  ·have : inB w h c d g = true := by unfold inB; rw [decide_eq_true_eq]; exact ⟨q1, hgd⟩
   rw [this]
   have hst : st w h n c d = if n.testBit g = true then nbI w h c d else -1 := by
    unfold st stepI openI
    rw [hgd]
    simp
   unfold wayE gapE
   rw [hst]
   by_cases hb : n.testBit g = true
   ·rw [if_pos hb, if_pos hb, if_pos q1]
    obtain ⟨x, hx⟩ := Int.eq_ofNat_of_zero_le q1
    have hxc : x ≠ c := by omega
    have he : endsI w h g = (min (c : Int) (x : Int), max (c : Int) (x : Int)) := by rw [← hgd, q6, hx]
    unfold ends
    rw [he, hx]
    rcases Int.le_total (c : Int) (x : Int) with hl | hl
    ·rw [Int.min_eq_left hl, Int.max_eq_right hl]
     simp only [Int.toNat_natCast]
     rw [dl_self, dl_ne (Ne.symm hxc)]
     simp
    ·rw [Int.min_eq_right hl, Int.max_eq_left hl]
     simp only [Int.toNat_natCast]
     rw [dl_self, dl_ne (Ne.symm hxc)]
     simp
     omega
   ·rw [if_neg hb, if_neg hb, if_neg (by omega)]
    simp
  ·intro i hi hne
   have : inB w h c d i = false := by unfold inB; rw [decide_eq_false_iff_not]; omega
   rw [this]; simp
omit hn in
theorem lap_entry (j : Nat) : pm (ends w h) (gapsN w h) id n.testBit c j = ((nbs w h n c).map fun x => dl j c - dl j x).sum := by
 have e1 : pm (ends w h) (gapsN w h) id n.testBit c j = sumTo (gapsN w h) fun g => ((inB w h c 0 g).toNat : Int) * gapE w h n c j g + ((inB w h c 1 g).toNat : Int) * gapE w h n c j g + ((inB w h c 2 g).toNat : Int) * gapE w h n c j g + ((inB w h c 3 g).toNat : Int) * gapE w h n c j g := by
  unfold pm
  refine sumTo_congr fun g hgg => ?_
  have hi := inc_facts hg hc hgg
  show gapE w h n c j g = _
  have hs : ((inB w h c 0 g).toNat : Int) * gapE w h n c j g + ((inB w h c 1 g).toNat : Int) * gapE w h n c j g + ((inB w h c 2 g).toNat : Int) * gapE w h n c j g + ((inB w h c 3 g).toNat : Int) * gapE w h n c j g = (((inB w h c 0 g).toNat + (inB w h c 1 g).toNat + (inB w h c 2 g).toNat + (inB w h c 3 g).toNat : Nat) : Int) * gapE w h n c j g := by
   push_cast
   simp only [Int.add_mul]
  rw [hs, hi]
  by_cases q : (ends w h g).1 = c ∨ (ends w h g).2 = c
  ·rw [if_pos q]; simp
  ·rw [if_neg q]
   unfold gapE
   rw [dl_ne (fun h => q (.inl h.symm)), dl_ne (fun h => q (.inr h.symm))]
   simp
 rw [e1, sumTo_add, sumTo_add, sumTo_add, sum_way j 0, sum_way j 1, sum_way j 2, sum_way j 3]
 unfold nbs wayE
 simp only [List.filter_cons, List.filter_nil]
 by_cases a : 0 ≤ st w h n c 0 <;> by_cases b : 0 ≤ st w h n c 1 <;> by_cases c' : 0 ≤ st w h n c 2 <;> by_cases d : 0 ≤ st w h n c 3 <;> simp [a, b, c', d] <;> omega
end
end Go.Proofs.Ytoohcdfokejkdaa.P
namespace Go.Proofs.Ytoohcdfokejkdaa.P
open Go.RowKit Go.Proofs.YtoohcdfokejkdaaW.PrintWords
set_option linter.unusedVariables false
set_option linter.unusedSimpArgs false

theorem wrap64_shift (x q : Int) : wrap64 (x + 18446744073709551616 * q) = wrap64 x := by unfold wrap64; omega
theorem wrap64_rep (x : Int) : ∃ q, wrap64 x = x + 18446744073709551616 * q := by
 refine ⟨-((x + 9223372036854775808) / 18446744073709551616), ?_⟩
 unfold wrap64
 omega
theorem wrap64_wrap (x : Int) : wrap64 (wrap64 x) = wrap64 x := by unfold wrap64; omega
theorem wrap64_add (x y : Int) : wrap64 (wrap64 x + wrap64 y) = wrap64 (x + y) := by unfold wrap64; omega
theorem wrap64_mull (x y : Int) : wrap64 (wrap64 x * y) = wrap64 (x * y) := by
 obtain ⟨q, hq⟩ := wrap64_rep x
 rw [hq, Int.add_mul, Int.mul_assoc, wrap64_shift]
theorem wrap64_mulr (x y : Int) : wrap64 (x * wrap64 y) = wrap64 (x * y) := by
 rw [Int.mul_comm, wrap64_mull, Int.mul_comm]
theorem wrap64_mul (x y : Int) : wrap64 (wrap64 x * wrap64 y) = wrap64 (x * y) := by rw [wrap64_mull, wrap64_mulr]
end Go.Proofs.Ytoohcdfokejkdaa.P
namespace Go.Proofs.Ytoohcdfokejkdaa.P
open Go.RowKit Go.Proofs.YtoohcdfokejkdaaW.PrintWords Go.Proofs.YtoohcdfokejkdaaW.PrintLast Go.Proofs.YtoohcdfokejkdaaW.PrintMore
attribute [local go_sem] max2_int min2_int max_two min_two max_three min_three max_four min_four   -- for this text's walks alone
set_option linter.unusedVariables false
set_option linter.unusedSimpArgs false

end Go.Proofs.Ytoohcdfokejkdaa.P
namespace Go.Proofs.Ytoohcdfokejkdaa.P
open Go.RowKit Go.Proofs.YtoohcdfokejkdaaW.PrintWords Go.Proofs.Ytoohcdfokejkdaa.Sup
set_option linter.unusedVariables false
set_option linter.unusedSimpArgs false

theorem rdL_get {l : List (List Int)} {i : Nat} (h : i < l.length) : rd_L2 l (i : Int) = l[i] := by simp [rd_L2, List.getD_eq_getElem?_getD, List.getElem?_eq_getElem h]
end Go.Proofs.Ytoohcdfokejkdaa.P
namespace Go.Proofs.Ytoohcdfokejkdaa.P
open Go.RowKit Go.Proofs.YtoohcdfokejkdaaW.PrintWords
set_option linter.unusedVariables false
set_option linter.unusedSimpArgs false

/-- An entry of a matrix. -/
def ent (m : List (List Int)) (r k : Nat) : Int := rd (rd_L2 m r) k
theorem rd_set {X : List Int} {i j : Nat} {v : Int} (hi : i < X.length) : rd (X.set i v) j = if j = i then v else rd X j := by
  by_cases e : j = i
  · subst e
    rw [if_pos rfl, rd_get (by simpa using hi)]
    simp
  · rw [if_neg e, rd_nat, rd_nat, List.getD_eq_getElem?_getD, List.getD_eq_getElem?_getD, List.getElem?_set_ne (fun e' => e e'.symm)]
theorem shl_det {n : Nat} (h : n ≤ 16) : shl .i64 1 (n : Int) = ((2 ^ n : Nat) : Int) := shl_pow (by omega)
theorem pow_small {n : Nat} (h : n ≤ 16) : 2 ^ n ≤ 65536 := Nat.pow_le_pow_right (by decide) h
theorem tmod_two (c : Nat) : (Int.tmod (c : Int) 2 = 1) ↔ ¬ c % 2 = 0 := by
  rw [Int.tmod_eq_emod_of_nonneg (by omega)]
  omega
def rowSum (a : Nat → Nat → Int) (n s j : Nat) : Int := sumTo j fun k => if s.testBit k then term a n s k else 0
theorem rowSum_skip {a : Nat → Nat → Int} {n s j : Nat} (h : s.testBit j = true → a (pop n s - 1) j = 0) : rowSum a n s (j + 1) = rowSum a n s j := by
  unfold rowSum
  simp only [sumTo]
  by_cases hb : s.testBit j = true
  · rw [if_pos hb]
    unfold term
    rw [h hb]
    simp
  · rw [if_neg hb, Int.add_zero]
theorem rowSum_next {a : Nat → Nat → Int} {n s j : Nat} (hb : s.testBit j = true) : rowSum a n s (j + 1) = rowSum a n s j + term a n s j := by
  unfold rowSum
  simp only [sumTo]
  rw [if_pos hb]
section
variable {m : List (List Int)} {n : Nat}
theorem impl_det_l1 (hn : n = m.length) (h16 : n ≤ 16) {s : Nat} (hs : s < 2 ^ n) (h0 : s ≠ 0) (row : List Int) (hr : row = rd_L2 m (pop n s - 1 : Nat)) (hl : row.length = n) (res : Int)
    (next : ∀ X : List Int, X.length = 2 ^ n → (∀ t : Nat, t < 2 ^ n → rd X t = if t < s + 1 then wrap64 (Ds (ent m) n t) else 0) → Ev (fun k => impl_determinant.l0 k m X ((s + 1 : Nat) : Int)) res) :
    ∀ (d j : Nat) (X : List Int), n - j = d → j ≤ n → X.length = 2 ^ n → (∀ t : Nat, t < 2 ^ n → t ≠ s → rd X t = if t < s then wrap64 (Ds (ent m) n t) else 0) → rd X s = wrap64 (rowSum (ent m) n s j) →
      Ev (fun k => impl_determinant.l1 k m X s row (n : Int) j) res
  | 0, j, X, hd, hj, hX, hi, hj2 => by
    have hp := pow_small h16
    refine Ev.step (fun _ => impl_determinant.l1.eq_2 ..) ?_
    refine Ev.ff (by omega) ?_
    rw [wsucc (by omega)]
    refine next X hX fun t ht => ?_
    by_cases e : t = s
    · subst e
      rw [if_pos (by omega), hj2, Ds_sum (pop_ne hs h0), show n = j by omega]
      rfl
    · rw [hi t ht e]
      by_cases h : t < s
      · rw [if_pos h, if_pos (by omega)]
      · rw [if_neg h, if_neg (by omega)]
  | d + 1, j, X, hd, hj, hX, hi, hj2 => by
    have hp := pow_small h16
    have ih := impl_det_l1 hn h16 hs h0 row hr hl res next d (j + 1)
    have hw : rd row j = ent m (pop n s - 1) j := by rw [hr]; rfl
    refine Ev.step (fun _ => impl_determinant.l1.eq_2 ..) ?_
    refine Ev.tt (by omega) (Ev.tt (by omega) (Ev.tt (by omega) ?_))
    have skip : (s.testBit j = true → ent m (pop n s - 1) j = 0) → Ev (fun k => impl_determinant.j2 k m X s j (rd row j) row (n : Int) j true) res := by
      intro h
      refine Ev.step (fun _ => impl_determinant.j2.eq_2 ..) ?_
      refine Ev.tt rfl ?_
      rw [wsucc (by omega)]
      exact ih X (by omega) (by omega) hX hi (by rw [hj2, rowSum_skip h])
    by_cases hv : rd row j = 0
    · exact Ev.tt hv (skip fun _ => by rw [← hw]; exact hv)
    · refine Ev.ff hv ?_
      rw [bit_zero (by omega)]
      cases hb : s.testBit j
      · exact skip fun h => by rw [hb] at h; cases h
      · refine Ev.step (fun _ => impl_determinant.j2.eq_2 ..) ?_
        refine Ev.ff (by simp) ?_
        have hdl := del_le s j
        have hdn : Go.bits .andNot .i64 (s : Int) (shl .i64 1 (j : Int)) = ((del s j : Nat) : Int) := by
          rw [shl_det (by omega), bits_andNot (by omega) (by have := pow_small (show j ≤ 16 by omega); omega)]
          rfl
        rw [wsucc (by omega)]
        refine Ev.tt (by omega) ?_
        rw [shr_nat (by omega), u64_small (by have := Nat.div_le_self s (2 ^ (j + 1)); omega)]
        refine Ev.bnd0 (ones_eq' (n := n) (by omega) (Nat.lt_of_le_of_lt (Nat.div_le_self _ _) hs)) ?_
        rw [hdn]
        have hD : rd X (del s j : Nat) = wrap64 (Ds (ent m) n (del s j)) := by
          have := del_lt hb
          rw [hi _ (by omega) (by omega), if_pos this]
        rw [hD, hj2]
        have fin : ∀ v : Int, wrap64 v = wrap64 (rowSum (ent m) n s (j + 1)) → v = wrap64 v → Ev (fun k => impl_determinant.l1 k m (X.set ((s : Int)).toNat v) s row (n : Int) ((j + 1 : Nat) : Int)) res := by
          intro v hv1 hv2
          rw [Int.toNat_natCast]
          refine ih _ (by omega) (by omega) (by rw [List.length_set]; exact hX) (fun t ht hne => ?_) ?_
          · rw [rd_set (by omega), if_neg hne]
            exact hi t ht hne
          · rw [rd_set (by omega), if_pos rfl, hv2, hv1]
        have ht := rowSum_next (a := ent m) (n := n) (s := s) (j := j) hb
        unfold term at ht
        rw [← hw] at ht
        refine Ev.ite (fun ho => ?_) (fun ho => ?_)
        · refine Ev.tt (by omega) (Ev.tt (by omega) (Ev.tt (by omega) (Ev.tt (by omega) (Ev.tt (by omega) ?_))))
          refine fin _ ?_ (wrap64_wrap _).symm
          rw [wrap64_wrap, wrap64_mul, wrap64_add, ht]
          have hsg : sgn (above n s j) = -1 := by unfold sgn; rw [if_neg]; exact (tmod_two _).1 ho
          rw [hsg]
          congr 2
          simp
        · refine Ev.tt (by omega) (Ev.tt (by omega) (Ev.tt (by omega) (Ev.tt (by omega) (Ev.tt (by omega) ?_))))
          refine fin _ ?_ (wrap64_wrap _).symm
          rw [wrap64_wrap, wrap64_mulr, wrap64_add, ht]
          have hsg : sgn (above n s j) = 1 := by unfold sgn; rw [if_pos]; exact Decidable.not_not.1 (fun h => ho ((tmod_two _).2 h))
          rw [hsg]
          congr 2
          simp
theorem impl_det_l0 (hn : n = m.length) (h16 : n ≤ 16) (hrow : ∀ r, r < n → (rd_L2 m (r : Nat)).length = n) : ∀ (d s : Nat) (X : List Int), 2 ^ n - s = d → s ≤ 2 ^ n → s ≠ 0 → X.length = 2 ^ n → (∀ t : Nat, t < 2 ^ n → rd X t = if t < s then wrap64 (Ds (ent m) n t) else 0) →
      Ev (fun k => impl_determinant.l0 k m X s) (wrap64 (Ds (ent m) n (2 ^ n - 1)))
  | 0, s, X, hd, hs, h0, hX, hi => by
    have hp := pow_small h16
    have hp1 : 0 < 2 ^ n := Nat.two_pow_pos n
    refine Ev.step (fun _ => impl_determinant.l0.eq_2 ..) ?_
    refine Ev.ff (by omega) ?_
    rw [hX, show wrap64 (((2 ^ n : Nat) : Int) - 1) = ((2 ^ n - 1 : Nat) : Int) by rw [wrap64_id (by omega) (by omega)]; omega]
    refine Ev.tt (by omega) (Ev.tt (by omega) (Ev.ret ?_))
    rw [hi _ (by omega), if_pos (by omega)]
  | d + 1, s, X, hd, hs, h0, hX, hi => by
    have hp := pow_small h16
    have hsl : s < 2 ^ n := by omega
    have hpn := pop_ne hsl h0
    have hpl := pop_le n s
    refine Ev.step (fun _ => impl_determinant.l0.eq_2 ..) ?_
    refine Ev.tt (by omega) ?_
    rw [u64_small (by omega)]
    refine Ev.bnd0 (ones_eq' (n := n) (by omega) hsl) ?_
    rw [show wrap64 ((pop n s : Int) - 1) = ((pop n s - 1 : Nat) : Int) by rw [wrap64_id (by omega) (by omega)]; omega]
    refine Ev.tt (by omega) (Ev.tt (by omega) ?_)
    have hl := hrow (pop n s - 1) (by omega)
    rw [hl]
    refine impl_det_l1 hn h16 hsl h0 _ rfl hl _ (fun X' hX' hi' => impl_det_l0 hn h16 hrow d (s + 1) X' (by omega) (by omega) (by omega) hX' hi') n 0 X (by omega) (by omega) hX (fun t ht hne => ?_) ?_
    · rw [hi t ht]
    · rw [hi s hsl, if_neg (by omega), show rowSum (ent m) n s 0 = 0 from rfl, wrap64_id (by decide) (by decide)]
theorem impl_det_ev (hn : n = m.length) (h16 : n ≤ 16) (hrow : ∀ r, r < n → (rd_L2 m (r : Nat)).length = n) : Ev (fun k => impl_determinant.f k m) (wrap64 (Ds (ent m) n (2 ^ n - 1))) := by
  have hp := pow_small h16
  have hp1 : 0 < 2 ^ n := Nat.two_pow_pos n
  unfold impl_determinant.f
  rw [← hn, shl_det h16]
  refine Ev.tt (by omega) (Ev.tt (by omega) (Ev.bnd0 rfl (Ev.tt (by rw [List.length_replicate]; omega) ?_)))
  refine impl_det_l0 hn h16 hrow (2 ^ n - 1) 1 _ rfl (by omega) (by omega) (by rw [List.length_set, List.length_replicate]; omega) fun t ht => ?_
  rw [show ((0 : Int)).toNat = 0 from rfl, rd_set (by rw [List.length_replicate]; omega)]
  by_cases e : t = 0
  · subst e
    rw [if_pos rfl, if_pos (by omega), Ds_zero, wrap64_id (by decide) (by decide)]
  · rw [if_neg e, if_neg (by omega), rd_nat, List.getD_eq_getElem?_getD]
    cases h : (List.replicate (((2 ^ n : Nat) : Int)).toNat (0 : Int))[t]? with
    | none => rfl
    | some v => exact (List.mem_replicate.1 (List.mem_of_getElem? h)).2
end
end Go.Proofs.Ytoohcdfokejkdaa.P
namespace Go.Proofs.Ytoohcdfokejkdaa.P
open Go.RowKit Go.Proofs.YtoohcdfokejkdaaW.PrintWords
set_option linter.unusedVariables false
set_option linter.unusedSimpArgs false

def mat (n m : Nat) (f : Nat → Nat → Int) : List (List Int) := (List.range n).map fun i => dlist m (f i)
theorem mat_len (n m : Nat) (f : Nat → Nat → Int) : (mat n m f).length = n := by simp [mat]
theorem rd_mat {n m i : Nat} {f : Nat → Nat → Int} (h : i < n) : rd_L2 (mat n m f) (i : Int) = dlist m (f i) := by
 rw [rdL_get (by rw [mat_len]; exact h)]
 simp [mat]
theorem mat_get {n m r : Nat} {f : Nat → Nat → Int} (h : r < (mat n m f).length) : (mat n m f)[r] = dlist m (f r) := by
 have h2 : r < ((List.range n).map fun i => dlist m (f i)).length := h
 show ((List.range n).map fun i => dlist m (f i))[r] = _
 rw [List.getElem_map, List.getElem_range]
theorem mat_set {n m a : Nat} {f : Nat → Nat → Int} {D : Nat → Int} : (mat n m f).set a (dlist m D) = mat n m (fun r => if r = a then D else f r) := by
 apply List.ext_getElem
 ·simp [mat_len]
 ·intro r h1 h2
  rw [List.getElem_set, mat_get h2]
  by_cases e : a = r
  ·rw [if_pos e]
   simp only [e, if_true]
  ·rw [if_neg e, mat_get]
   simp only [Ne.symm e, if_false]
theorem mat_app {n m : Nat} {f : Nat → Nat → Int} : mat n m f ++ [dlist m (f n)] = mat (n + 1) m f := by
 unfold mat
 rw [List.range_succ, List.map_append]
 rfl
theorem zeros_dlist (m : Nat) : List.replicate m (0 : Int) = dlist m fun _ => 0 := by
 apply List.ext_getElem
 ·simp [dlist]
 ·intro i h1 h2
  simp [dlist]
def put (f : Nat → Nat → Int) (a b : Nat) (v : Int) : Nat → Nat → Int := fun r => if r = a then upd (f a) b v else f r
theorem mat_put {n m a b : Nat} {f : Nat → Nat → Int} {v : Int} (ha : a < n) (hb : b < m) : (mat n m f).set a ((rd_L2 (mat n m f) (a : Int)).set b v) = mat n m (put f a b v) := by
 rw [rd_mat ha, dlist_set hb, mat_set]
 rfl
def Bd (f : Nat → Nat → Int) (B : Int) : Prop := ∀ i j, -B ≤ f i j ∧ f i j ≤ B
theorem bd_put {f : Nat → Nat → Int} {B v : Int} {a b : Nat} (h : Bd f B) (hB : 0 ≤ B) (h0 : -(B + 1) ≤ v) (h1 : v ≤ B + 1) : Bd (put f a b v) (B + 1) := by
 intro i j
 have := h i j
 have := h a j
 unfold put upd
 by_cases e1 : i = a
 ·simp only [e1, if_true]
  by_cases e2 : j = b
  ·simp only [e2, if_true]; exact ⟨h0, h1⟩
  ·simp only [e2, if_false]; omega
 ·simp only [e1, if_false]; omega
theorem Bd.mono {f : Nat → Nat → Int} {B C : Int} (h : Bd f B) (hc : B ≤ C) : Bd f C := fun i j => by have := h i j; omega
theorem mat_inc {n m a b : Nat} {f : Nat → Nat → Int} {B : Int} (hB : Bd f B) (hs : B ≤ 1000) (ha : a < n) (hb : b < m) :
  (mat n m f).set a ((rd_L2 (mat n m f) (a : Int)).set b (wrap64 (rd (rd_L2 (mat n m f) (a : Int)) (b : Int) + 1))) = mat n m (put f a b (f a b + 1)) := by
 have h1 : rd (rd_L2 (mat n m f) (a : Int)) (b : Int) = f a b := by rw [rd_mat ha, rd_dlist hb]
 have := hB a b
 rw [mat_put ha hb, h1, wrap64_id (by omega) (by omega)]
theorem mat_dec {n m a b : Nat} {f : Nat → Nat → Int} {B : Int} (hB : Bd f B) (hs : B ≤ 1000) (ha : a < n) (hb : b < m) :
  (mat n m f).set a ((rd_L2 (mat n m f) (a : Int)).set b (wrap64 (rd (rd_L2 (mat n m f) (a : Int)) (b : Int) - 1))) = mat n m (put f a b (f a b - 1)) := by
 have h1 : rd (rd_L2 (mat n m f) (a : Int)) (b : Int) = f a b := by rw [rd_mat ha, rd_dlist hb]
 have := hB a b
 rw [mat_put ha hb, h1, wrap64_id (by omega) (by omega)]
def addE (f : Nat → Nat → Int) (a b : Nat) : Nat → Nat → Int := fun i j => f i j + (dl i a - dl i b) * (dl j a - dl j b)
theorem four_put (f : Nat → Nat → Int) (a b : Nat) :
  put (put (put (put f a a (f a a + 1)) b b (put f a a (f a a + 1) b b + 1)) a b (put (put f a a (f a a + 1)) b b (put f a a (f a a + 1) b b + 1) a b - 1)) b a
   (put (put (put f a a (f a a + 1)) b b (put f a a (f a a + 1) b b + 1)) a b (put (put f a a (f a a + 1)) b b (put f a a (f a a + 1) b b + 1) a b - 1) b a - 1) = addE f a b := by
 funext i j
 unfold addE put upd dl
 by_cases e : a = b
 ·subst e
  by_cases e1 : i = a
  ·subst e1
   by_cases e2 : j = i
   ·subst e2; simp
   ·simp [e2]
  ·simp [e1]
 ·have e' : ¬ b = a := fun h => e h.symm
  by_cases e1 : i = a
  ·subst e1
   by_cases e2 : j = i
   ·subst e2; simp [e, e']
   ·by_cases e3 : j = b
    ·subst e3; simp [e, e']; omega
    ·simp [e, e', e2, e3]
  ·by_cases e4 : i = b
   ·subst e4
    by_cases e2 : j = a
    ·subst e2; simp [e, e']; omega
    ·by_cases e3 : j = i
     ·subst e3; simp [e, e']
     ·simp [e, e', e2, e3]
   ·simp [e1, e4]
theorem pm_succ (e : Nat → Nat × Nat) (g : Nat) (P : Nat → Nat) (U : Nat → Bool) : pm e (g + 1) P U = if U g = true then addE (pm e g P U) (P (e g).1) (P (e g).2) else pm e g P U := by
 funext i j
 unfold pm addE
 simp only [sumTo]
 by_cases h : U g = true
 ·rw [if_pos h, if_pos h]
 ·rw [if_neg h, if_neg h]; omega
theorem dl_small (i a b : Nat) : dl i a - dl i b = -1 ∨ dl i a - dl i b = 0 ∨ dl i a - dl i b = 1 := by
 unfold dl
 split <;> split <;> simp
theorem pm_bd (e : Nat → Nat × Nat) (P : Nat → Nat) (U : Nat → Bool) : ∀ g : Nat, Bd (pm e g P U) g
 | 0 => fun i j => by unfold pm; simp [sumTo]
 | g + 1 => by
  intro i j
  have := pm_bd e P U g i j
  rw [pm_succ]
  split
  ·unfold addE
   rcases dl_small i (P (e g).1) (P (e g).2) with h1 | h1 | h1 <;> rcases dl_small j (P (e g).1) (P (e g).2) with h2 | h2 | h2 <;> rw [h1, h2] <;> omega
  ·omega
def minorL (m : List (List Int)) (r : Nat) : List (List Int) := (m.eraseIdx r).map fun row => row.eraseIdx r
theorem minor_snoc (l : List (List Int)) (x : List Int) (r : Nat) : minorL (l ++ [x]) r = if r = l.length then l.map (fun row => row.eraseIdx r) else minorL l r ++ [x.eraseIdx r] := by
 unfold minorL
 rcases Nat.lt_trichotomy r l.length with h | h | h
 ·rw [if_neg (by omega), List.eraseIdx_append_of_lt_length h, List.map_append]; rfl
 ·rw [if_pos h, List.eraseIdx_append_of_length_le (by omega), h, Nat.sub_self]; simp
 ·rw [if_neg (by omega), List.eraseIdx_append_of_length_le (by omega), List.eraseIdx_of_length_le (by omega : l.length ≤ r), List.eraseIdx_of_length_le (show [x].length ≤ r - l.length by simp; omega), List.map_append]
  rfl
theorem minor_len_le (l : List (List Int)) (r : Nat) : (minorL l r).length ≤ l.length := by
 unfold minorL
 rw [List.length_map, List.length_eraseIdx]
 split <;> omega
theorem without_l0 (m : List (List Int)) (r : Nat) (hm : m.length ≤ 1048576) (hrow : ∀ row ∈ m, r < row.length ∧ row.length ≤ 1048576) : ∀ (d i : Nat), i + d = m.length →
  Ev (fun k => impl_without.l0 k r (minorL (m.take i) r) m (m.length : Int) i) (minorL m r)
 | 0, i, hd => by
  refine Ev.step (fun _ => impl_without.l0.eq_2 ..) (Ev.ff (by omega) (Ev.ret ?_))
  rw [List.take_of_length_le (by omega)]
 | d + 1, i, hd => by
  have hi : i < m.length := by omega
  have ht : m.take (i + 1) = m.take i ++ [m[i]] := by rw [List.take_succ_eq_append_getElem hi]
  have hl : (m.take i).length = i := by rw [List.length_take]; omega
  have hle := minor_len_le (m.take i) r
  obtain ⟨q1, q2⟩ := hrow _ (List.getElem_mem hi)
  have ih := without_l0 m r hm hrow d (i + 1) (by omega)
  rw [ht, minor_snoc, hl] at ih
  refine Ev.step (fun _ => impl_without.l0.eq_2 ..) (Ev.tt (by omega) (Ev.tt (by omega) (Ev.tt (by omega) ?_)))
  rw [wsucc (by omega)]
  refine Ev.ite (fun e => ?_) (fun e => ?_)
  ·have er : r = i := by omega
   rw [if_pos er] at ih
   have : minorL (m.take i) r = (m.take i).map fun row => row.eraseIdx r := by
    unfold minorL
    rw [List.eraseIdx_of_length_le (by omega)]
   rw [this]
   exact ih
  ·rw [if_neg (by omega)] at ih
   have hdel : slices_Delete_int_int.f (rd_L2 m (i : Int)) (r : Int) (wrap64 ((r : Int) + 1)) = some (m[i].eraseIdx r) := by
    rw [rdL_get hi, wsucc (by omega)]
    unfold slices_Delete_int_int.f
    rw [if_pos ⟨by omega, by omega, by omega, by omega⟩]
    congr 1
    rw [Int.toNat_natCast, Int.toNat_natCast, ← List.eraseIdx_eq_take_drop_succ]
   exact Ev.bnd0 hdel (Ev.tt (by omega) ih)
theorem without_ev (m : List (List Int)) (r : Nat) (hm : m.length ≤ 1048576) (hrow : ∀ row ∈ m, r < row.length ∧ row.length ≤ 1048576) : Ev (fun k => impl_without.f k m r) (minorL m r) := by
 unfold impl_without.f
 have := without_l0 m r hm hrow m.length 0 (by omega)
 rwa [List.take_zero, show minorL [] r = [] by simp [minorL]] at this
theorem dlist_erase0 (n : Nat) (D : Nat → Int) : (dlist (n + 1) D).eraseIdx 0 = dlist n fun i => D (i + 1) := by
 unfold dlist
 rw [List.range_succ_eq_map]
 simp [Function.comp_def]
theorem minor_mat0 {n : Nat} {f : Nat → Nat → Int} : minorL (mat (n + 1) (n + 1) f) 0 = mat n n fun i j => f (i + 1) (j + 1) := by
 unfold minorL mat
 rw [List.range_succ_eq_map]
 simp only [List.map_cons, List.eraseIdx_zero, List.tail_cons, List.map_map]
 refine List.map_congr_left fun i _ => ?_
 have := dlist_erase0 n (f (i + 1))
 rwa [List.eraseIdx_zero] at this
end Go.Proofs.Ytoohcdfokejkdaa.P
namespace Go.Proofs.Ytoohcdfokejkdaa.P
open Go.RowKit Go.Proofs.YtoohcdfokejkdaaW.PrintWords Go.Proofs.YtoohcdfokejkdaaW.PrintLast Go.Proofs.YtoohcdfokejkdaaW.PrintMore
attribute [local go_sem] max2_int min2_int max_two min_two max_three min_three max_four min_four   -- for this text's walks alone
set_option linter.unusedVariables false
set_option linter.unusedSimpArgs false

end Go.Proofs.Ytoohcdfokejkdaa.P
namespace Go.Proofs.Ytoohcdfokejkdaa.P
open Go.RowKit Go.Proofs.YtoohcdfokejkdaaW.PrintWords Go.Proofs.Ytoohcdfokejkdaa.Sup
set_option linter.unusedVariables false
set_option linter.unusedSimpArgs false

def sumAbs : List Int → Nat
  | [] => 0
  | x :: t => x.natAbs + sumAbs t
theorem sumAbs_nil : sumAbs [] = 0 := rfl
theorem sumAbs_cons (x : Int) (t : List Int) : sumAbs (x :: t) = x.natAbs + sumAbs t := rfl
def small (x : Int) : Bool := decide (-16 ≤ x ∧ x ≤ 16)
def rowOk (n : Nat) (row : List Int) : Bool := decide (row.length = n) && row.all small && decide (sumAbs row ≤ 16)
def squareOk (m : List (List Int)) : Bool := decide (m.length ≤ 16) && m.all (rowOk m.length)
theorem mx_abs {x : Int} (h : small x = true) : mx x (wrap64 (-x)) = (x.natAbs : Int) := by
  have := of_decide_eq_true h
  rw [wrap64_id (by omega) (by omega)]
  unfold mx
  split <;> omega
theorem impl_row (m : List (List Int)) (row : List Int) (h16 : row.length ≤ 16) (i : Nat) (hi : i < m.length) (hm : m.length ≤ 1048576) (r : Bool) (hk : Ev (fun k => impl_SquareOk.l0 k m m (m.length : Int) ((i + 1 : Nat) : Int)) r) :
    ∀ (d j acc : Nat), row.length - j = d → j ≤ row.length → acc ≤ 16 * j →
      Ev (fun k => impl_SquareOk.l1 k m acc m (m.length : Int) i row (row.length : Int) j) ((row.drop j).all small && (decide (acc + sumAbs (row.drop j) ≤ 16) && r))
  | 0, j, acc, hd, hj, hacc => by
    refine Ev.step (fun _ => impl_SquareOk.l1.eq_2 ..) ?_
    refine Ev.ff (by omega) ?_
    rw [List.drop_eq_nil_of_le (by omega), wsucc (by omega)]
    rw [List.all_nil, sumAbs_nil, Bool.true_and]
    by_cases h : acc ≤ 16
    · rw [decide_eq_true (show acc + 0 ≤ 16 from h), Bool.true_and]; exact Ev.ff (by omega) hk
    · rw [decide_eq_false (show ¬ acc + 0 ≤ 16 from h), Bool.false_and]; exact Ev.tt (by omega) (Ev.ret rfl)
  | d + 1, j, acc, hd, hj, hacc => by
    have hjl : j < row.length := by omega
    refine Ev.step (fun _ => impl_SquareOk.l1.eq_2 ..) ?_
    rw [rd_get hjl, List.drop_eq_getElem_cons hjl]
    refine Ev.tt (by omega) (Ev.tt (by omega) (Ev.tt (by omega) ?_))
    rw [List.all_cons, sumAbs_cons]
    by_cases hs : small row[j] = true
    · have hb := of_decide_eq_true hs
      refine Ev.ff (by omega) (Ev.ff (by omega) ?_)
      rw [mx_abs hs, wsucc (by omega), show ((acc : Int) + (row[j].natAbs : Int)) = ((acc + row[j].natAbs : Nat) : Int) by omega, wrap64_id (by omega) (by omega)]
      refine Ev.eq (impl_row m row h16 i hi hm r hk d (j + 1) (acc + row[j].natAbs) (by omega) (by omega) (by omega)) ?_
      rw [hs, Bool.true_and, Nat.add_assoc]
    · have hb : ¬ (-16 ≤ row[j] ∧ row[j] ≤ 16) := fun h => hs (decide_eq_true h)
      rw [Bool.not_eq_true] at hs
      rw [hs, Bool.false_and, Bool.false_and]
      by_cases h1 : row[j] < -16
      · exact Ev.tt h1 (Ev.ret rfl)
      · exact Ev.ff h1 (Ev.tt (by omega) (Ev.ret rfl))
theorem impl_rows (m : List (List Int)) (hm : m.length ≤ 1048576) : ∀ (d i : Nat), m.length - i = d → i ≤ m.length →
      Ev (fun k => impl_SquareOk.l0 k m m (m.length : Int) i) ((m.drop i).all fun row => decide (row.length ≤ 16) && rowOk m.length row)
  | 0, i, hd, hi => by
    refine Ev.step (fun _ => impl_SquareOk.l0.eq_2 ..) ?_
    refine Ev.ff (by omega) (Ev.ret ?_)
    rw [List.drop_eq_nil_of_le (by omega)]
    simp
  | d + 1, i, hd, hi => by
    have hil : i < m.length := by omega
    refine Ev.step (fun _ => impl_SquareOk.l0.eq_2 ..) ?_
    refine Ev.tt (by omega) (Ev.tt (by omega) (Ev.tt (by omega) ?_))
    rw [List.drop_eq_getElem_cons hil, rdL_get hil, List.all_cons]
    have ih := impl_rows m hm d (i + 1) (by omega) (by omega)
    by_cases hr : (m[i]).length = m.length
    · refine Ev.tt (by omega) ?_
      refine Ev.step (fun _ => impl_SquareOk.j1.eq_2 ..) ?_
      by_cases h16 : (m[i]).length ≤ 16
      · refine Ev.ff (by simp; omega) ?_
        refine Ev.eq (impl_row m m[i] h16 i hil hm _ ih (m[i]).length 0 0 (by omega) (by omega) (by omega)) ?_
        simp only [List.drop_zero, Nat.zero_add, rowOk, hr, decide_true, Bool.true_and]
        rw [hr] at h16
        by_cases h1 : (m[i]).all small = true <;> by_cases h2 : sumAbs m[i] ≤ 16 <;> simp [h1, h2, h16]
      · refine Ev.tt (by simp; omega) (Ev.ret ?_)
        simp [h16]
    · refine Ev.ff (by omega) ?_
      refine Ev.step (fun _ => impl_SquareOk.j1.eq_2 ..) ?_
      refine Ev.tt rfl (Ev.ret ?_)
      simp [rowOk, hr]
theorem impl_SquareOk_ev (m : List (List Int)) (hm : m.length ≤ 1048576) : Ev (fun k => impl_SquareOk.f k m) (squareOk m) := by
  unfold impl_SquareOk.f
  refine Ev.eq (impl_rows m hm m.length 0 (by omega) (by omega)) ?_
  rw [List.drop_zero]
  unfold squareOk
  rw [Bool.eq_iff_iff]
  simp only [List.all_eq_true, Bool.and_eq_true, decide_eq_true_eq]
  constructor
  · intro h
    refine ⟨?_, fun x hx => (h x hx).2⟩
    cases m with
    | nil => simp
    | cons a t =>
      obtain ⟨h1, h2⟩ := h a List.mem_cons_self
      have h3 : a.length = (a :: t).length := by
        simp only [rowOk, Bool.and_eq_true, decide_eq_true_eq] at h2
        exact h2.1.1
      omega
  · rintro ⟨h1, h2⟩ x hx
    refine ⟨?_, h2 x hx⟩
    have h3 := h2 x hx
    simp only [rowOk, Bool.and_eq_true, decide_eq_true_eq] at h3
    omega
end Go.Proofs.Ytoohcdfokejkdaa.P
namespace Go.Proofs.Ytoohcdfokejkdaa.P
open Go.RowKit Go.Proofs.YtoohcdfokejkdaaW.PrintWords Go.Proofs.YtoohcdfokejkdaaW.PrintLast Go.Proofs.YtoohcdfokejkdaaW.PrintMore
attribute [local go_sem] max2_int min2_int max_two min_two max_three min_three max_four min_four   -- for this text's walks alone
set_option linter.unusedVariables false
set_option linter.unusedSimpArgs false

end Go.Proofs.Ytoohcdfokejkdaa.P
namespace Go.Proofs.Ytoohcdfokejkdaa.P
open Go.RowKit Go.Proofs.YtoohcdfokejkdaaW.PrintWords
set_option linter.unusedVariables false
set_option linter.unusedSimpArgs false

def lapN (w h : Int) (n : Nat) : List (List Int) := mat (cellsN w h) (cellsN w h) (pm (ends w h) (gapsN w h) id n.testBit)
def lapI (w h o : Int) : List (List Int) := if mazeOk w h o = true then lapN w h o.toNat else []
def rowS (c : Nat) (L : List Nat) (j : Nat) : Int := (L.map fun x => dl j c - dl j x).sum
theorem rowS_snoc (c : Nat) (L : List Nat) (x j : Nat) : rowS c (L ++ [x]) j = rowS c L j + (dl j c - dl j x) := by simp [rowS]
theorem rowS_bd (c : Nat) (j : Nat) : ∀ L : List Nat, -(L.length : Int) ≤ rowS c L j ∧ rowS c L j ≤ L.length
 | [] => by simp [rowS]
 | x :: L => by
  have := rowS_bd c j L
  have e : rowS c (x :: L) j = (dl j c - dl j x) + rowS c L j := by simp [rowS]
  rw [e, List.length_cons]
  rcases dl_small j c x with h | h | h <;> rw [h] <;> omega
def waysN (w h : Int) (n c : Nat) : List Nat := [0, 1, 2, 3].filter fun d => decide (0 ≤ st w h n c d)
theorem waysN_len (w h : Int) (n c : Nat) : (waysN w h n c).length ≤ 4 := List.length_filter_le _ [0, 1, 2, 3]
theorem waysN_st {w h : Int} {n c k : Nat} (hk : k < (waysN w h n c).length) : 0 ≤ st w h n c (waysN w h n c)[k] := by
 have := List.getElem_mem hk
 unfold waysN at this
 rw [List.mem_filter, decide_eq_true_eq] at this
 exact this.2
theorem nbs_len (w h : Int) (n c : Nat) : (nbs w h n c).length = (waysN w h n c).length := by unfold nbs waysN; rw [List.length_map]
theorem nbs_get {w h : Int} {n c k : Nat} (hk : k < (waysN w h n c).length) : (nbs w h n c)[k]'(by rw [nbs_len]; exact hk) = (st w h n c (waysN w h n c)[k]).toNat := by
 unfold nbs waysN
 rw [List.getElem_map]
 rfl
section
variable {w h : Int} {n : Nat} (hg : gridOk w h = true) (hn : n < 2 ^ gapsN w h)
include hg hn
theorem ilap_l1 {c : Nat} (hc : c < cellsN w h) {M : List (List Int)} (hM : M.length ≤ 16) {R : List (List Int)} (next : Ev (fun k => impl_LaplaceOf.l0 k (M ++ [dlist (cellsN w h) (rowS c (nbs w h n c))]) ((c + 1 : Nat) : Int) w h n) R) :
  ∀ d k : Nat, k + d = (waysN w h n c).length → Ev (fun f => impl_LaplaceOf.l1 f M c (dlist (cellsN w h) (rowS c ((nbs w h n c).take k))) (ints (waysN w h n c)) ((ints (waysN w h n c)).length : Int) k w h n) R
 | 0, k, hd => by
  have hl := nbs_len w h n c
  have h16 := cellsN_le w h
  refine Ev.step (fun _ => impl_LaplaceOf.l1.eq_2 ..) (Ev.ff (by rw [ints_length]; omega) (Ev.tt (by omega) ?_))
  rw [List.take_of_length_le (by omega), wsucc (by omega)]
  exact next
 | d + 1, k, hd => by
  have hk : k < (waysN w h n c).length := by omega
  have h4 := waysN_len w h n c
  have hl := nbs_len w h n c
  have hV := cellsN_cast w h
  have hwk : rd (ints (waysN w h n c)) (k : Int) = ((waysN w h n c)[k] : Nat) := rd_ints (List.getElem?_eq_getElem hk)
  have h0 := waysN_st hk
  have hx := nbs_get hk
  obtain ⟨x, hxx⟩ : ∃ x : Nat, x = (nbs w h n c)[k]'(by omega) := ⟨_, rfl⟩
  have hxm := nbs_mem hn hc (x := x) (by rw [hxx]; exact List.getElem_mem _)
  have hst : st w h n c (waysN w h n c)[k] = (x : Int) := by rw [hxx, hx]; omega
  have htake : (nbs w h n c).take (k + 1) = (nbs w h n c).take k ++ [x] := by rw [List.take_succ_eq_append_getElem (by omega), hxx]
  have hstep := impl_Step_ev hg hn (c : Int) ((waysN w h n c)[k] : Int)
  rw [show stepI w h n c ((waysN w h n c)[k] : Int) = (x : Int) from hst] at hstep
  have b1 := rowS_bd c c ((nbs w h n c).take k)
  have b2 := rowS_bd c x ((nbs w h n c).take k)
  have hlt : ((nbs w h n c).take k).length ≤ 4 := by rw [List.length_take]; omega
  refine Ev.step (fun _ => impl_LaplaceOf.l1.eq_2 ..) (Ev.tt (by rw [ints_length]; omega) (Ev.tt (by omega) (Ev.tt (by rw [ints_length]; omega) (Ev.tt (by omega) (Ev.tt (by rw [dlist_length]; omega) (Ev.bnd0 rfl ?_))))))
  rw [hwk]
  refine Ev.bind hstep (Ev.tt (by omega) (Ev.tt (by rw [dlist_length]; omega) ?_))
  have ih := ilap_l1 hc hM next d (k + 1) (by omega)
  rw [rd_dlist hc, Int.toNat_natCast, dlist_set hc, rd_dlist hxm.1, Int.toNat_natCast, dlist_set hxm.1, wsucc (by omega), wrap64_id (x := rowS c ((nbs w h n c).take k) c + 1) (by omega) (by omega)]
  have e0 : upd (rowS c ((nbs w h n c).take k)) c (rowS c ((nbs w h n c).take k) c + 1) x = rowS c ((nbs w h n c).take k) x := by unfold upd; rw [if_neg hxm.2]
  rw [e0, wrap64_id (x := rowS c ((nbs w h n c).take k) x - 1) (by omega) (by omega)]
  have e1 : upd (upd (rowS c ((nbs w h n c).take k)) c (rowS c ((nbs w h n c).take k) c + 1)) x (rowS c ((nbs w h n c).take k) x - 1) = rowS c ((nbs w h n c).take (k + 1)) := by
   funext j
   rw [htake, rowS_snoc]
   unfold upd
   by_cases q1 : j = x
   ·subst q1
    rw [if_pos rfl, dl_self, dl_ne hxm.2]
    omega
   ·rw [if_neg q1, dl_ne q1]
    by_cases q2 : j = c
    ·subst q2; rw [if_pos rfl, dl_self]; omega
    ·rw [if_neg q2, dl_ne q2]; omega
  rw [e1]
  exact ih
omit hn in
theorem lap_row {c : Nat} (hc : c < cellsN w h) : dlist (cellsN w h) (rowS c (nbs w h n c)) = dlist (cellsN w h) (pm (ends w h) (gapsN w h) id n.testBit c) := by
 unfold dlist
 refine List.map_congr_left fun j _ => ?_
 rw [lap_entry hg hc j]
 rfl
theorem ilap_l0 : ∀ d c : Nat, c + d = cellsN w h → Ev (fun f => impl_LaplaceOf.l0 f (mat c (cellsN w h) (pm (ends w h) (gapsN w h) id n.testBit)) c w h n) (lapN w h n)
 | 0, c, hd => by
  have hV := cellsN_cast w h
  obtain rfl : c = cellsN w h := by omega
  exact Ev.step (fun _ => impl_LaplaceOf.l0.eq_2 ..) (Ev.bnd0 (impl_CountCells_eq w h) (Ev.ff (by omega) (Ev.ret rfl)))
 | d + 1, c, hd => by
  have hV := cellsN_cast w h
  have h16 := cellsN_le w h
  have hc : c < cellsN w h := by omega
  have hw := impl_Ways_ev hg hn (c : Int)
  rw [waysI_ints] at hw
  refine Ev.step (fun _ => impl_LaplaceOf.l0.eq_2 ..) (Ev.bnd0 (impl_CountCells_eq w h) (Ev.tt (by omega) (Ev.bnd0 (impl_CountCells_eq w h) ?_)))
  rw [← hV]
  refine Ev.tt (by omega) (Ev.tt (by omega) (Ev.bind hw ?_))
  rw [Int.toNat_natCast, zeros_dlist]
  have ih := ilap_l0 d (c + 1) (by omega)
  have := ilap_l1 hg hn hc (M := mat c (cellsN w h) (pm (ends w h) (gapsN w h) id n.testBit)) (by rw [mat_len]; omega) (by
   rw [lap_row hg hc, mat_app]; exact ih) (waysN w h n c).length 0 (by omega)
  rw [List.take_zero] at this
  exact this
end
theorem impl_LaplaceOf_ev (w h o : Int) : Ev (fun k => impl_LaplaceOf.f k w h o) (lapI w h o) := by
 unfold impl_LaplaceOf.f lapI
 refine Ev.bnd0 (impl_MazeOk_eq ..) (Ev.ite (fun e => ?_) (fun e => ?_))
 ·obtain ⟨hg, n, rfl, hn⟩ := mazeOk_iff.1 e
  rw [if_pos e, Int.toNat_natCast]
  exact ilap_l0 hg hn (cellsN w h) 0 (by omega)
 ·rw [if_neg e]; exact Ev.ret rfl
theorem lapN_rows {w h : Int} {n : Nat} {row : List Int} (hr : row ∈ lapN w h n) : row.length = cellsN w h := by
 unfold lapN mat at hr
 obtain ⟨i, _, rfl⟩ := List.mem_map.1 hr
 rw [dlist_length]
theorem lapN_len (w h : Int) (n : Nat) : (lapN w h n).length = cellsN w h := mat_len ..
def withoutI (m : List (List Int)) (r : Int) : List (List Int) := if squareOk m = true ∧ 0 ≤ r ∧ r < m.length then minorL m r.toNat else []
theorem square_all {m : List (List Int)} (h : squareOk m = true) : m.length ≤ 16 ∧ ∀ row ∈ m, row.length = m.length := by
 unfold squareOk at h
 rw [Bool.and_eq_true, decide_eq_true_eq, List.all_eq_true] at h
 refine ⟨h.1, fun row hr => ?_⟩
 have := h.2 row hr
 unfold rowOk at this
 simp only [Bool.and_eq_true, decide_eq_true_eq] at this
 exact this.1.1
theorem impl_WithoutRow_ev (m : List (List Int)) (hm : m.length ≤ 1048576) (r : Int) : Ev (fun k => impl_WithoutRow.f k m r) (withoutI m r) := by
 unfold impl_WithoutRow.f withoutI
 refine Ev.bind (impl_SquareOk_ev m hm) (Ev.ite (fun e => Ev.ite (fun e1 => ?_) (fun e1 => Ev.ite (fun e2 => ?_) (fun e2 => ?_))) (fun e => ?_))
 ·rw [if_neg (by omega)]; exact Ev.ret rfl
 ·rw [if_neg (by omega)]; exact Ev.ret rfl
 ·obtain ⟨q1, q2⟩ := square_all e
  obtain ⟨x, rfl⟩ := Int.eq_ofNat_of_zero_le (show 0 ≤ r by omega)
  rw [if_pos ⟨e, by omega, by omega⟩, Int.toNat_natCast]
  exact Ev.bind (without_ev m x hm fun row hr => by have := q2 row hr; omega) (Ev.ret rfl)
 ·rw [if_neg fun q => e q.1]; exact Ev.ret rfl
end Go.Proofs.Ytoohcdfokejkdaa.P
namespace Go.Proofs.Ytoohcdfokejkdaa.P
open Go.RowKit Go.Proofs.YtoohcdfokejkdaaW.PrintWords
set_option linter.unusedVariables false
set_option linter.unusedSimpArgs false

theorem sumTo_place {n s : Nat} {F G : Nat → Int} (h : ∀ k, k < n → s.testBit k = true → G (pop k s) = F k) : sumTo n (fun k => if s.testBit k then F k else 0) = sumTo (pop n s) G := by
 induction n with
 | zero => rfl
 | succ n ih =>
  simp only [sumTo, pop]
  rw [ih fun k hk hb => h k (by omega) hb]
  cases hb : s.testBit n
  ·simp
  ·simp only [if_true, Bool.toNat_true, sumTo]
   rw [h n (by omega) hb]
theorem above_pop {n s k : Nat} (hk : k < n) (hs : s < 2 ^ n) (hb : s.testBit k = true) : above n s k + pop k s + 1 = pop n s := by
 have h1 : pop n s = pop (k + 1) s + pop (n - (k + 1)) (s / 2 ^ (k + 1)) := by
  have := pop_add (k + 1) (n - (k + 1)) s
  rwa [show k + 1 + (n - (k + 1)) = n by omega] at this
 have h2 : above n s k = pop (n - (k + 1)) (s / 2 ^ (k + 1)) := by
  unfold above
  exact pop_big (Nat.div_lt_of_lt_mul (by rw [← Nat.pow_add]; exact Nat.lt_of_lt_of_le hs (Nat.pow_le_pow_right (by decide) (by omega)))) (by omega)
 simp only [pop, hb, Bool.toNat_true] at h1
 omega
theorem pop_del_lt {s k j : Nat} (h : j ≤ k) : pop j (del s k) = pop j s := pop_congr fun i hi => by rw [testBit_del]; simp; omega
theorem pop_mono {m n s : Nat} (h : m ≤ n) : pop m s ≤ pop n s := by
 obtain ⟨d, rfl⟩ := Nat.exists_eq_add_of_le h
 rw [pop_add]; omega
theorem Ds_dt (a : Nat → Nat → Int) (n : Nat) : ∀ (r s : Nat) (B : Nat → Nat → Int), s < 2 ^ n → pop n s = r → (∀ k, k < n → s.testBit k = true → ∀ c, B (pop k s) c = a c k) → Ds a n s = dt r B
 | 0, s, B, hs, hr, hB => by unfold Ds; rw [hr]; rfl
 | r + 1, s, B, hs, hr, hB => by
  rw [Ds_sum (by omega)]
  simp only [dt]
  rw [← hr]
  refine sumTo_place fun k hk hb => ?_
  have h1 := above_pop hk hs hb
  have h2 := pop_del hk hb
  unfold term
  rw [hB k hk hb, show pop n s - 1 = r by omega, show above n s k = r - pop k s by omega]
  rw [Ds_dt a n r (del s k) (er (pop k s) B) (Nat.lt_of_le_of_lt (del_le s k) hs) (by omega)]
  intro j hj hbj c
  rw [testBit_del] at hbj
  simp only [Bool.and_eq_true, decide_eq_true_eq] at hbj
  unfold er
  by_cases e : j < k
  ·have h3 : pop (j + 1) s ≤ pop k s := pop_mono (by omega)
   simp only [pop, hbj.1, Bool.toNat_true] at h3
   rw [pop_del_lt (by omega), if_pos (by omega)]
   exact hB j hj hbj.1 c
  ·have h3 := pop_del (n := j) (show k < j by omega) hb
   have h4 : pop (k + 1) s ≤ pop j s := pop_mono (by omega)
   simp only [pop, hb, Bool.toNat_true] at h4
   rw [if_neg (by omega), show pop j (del s k) + 1 = pop j s by omega]
   exact hB j hj hbj.1 c
theorem pop_all {n s : Nat} (h : ∀ i, i < n → s.testBit i = true) : pop n s = n := by
 induction n with
 | zero => rfl
 | succ n ih => simp only [pop]; rw [ih fun i hi => h i (by omega), h n (by omega)]; rfl
theorem Ds_full (a : Nat → Nat → Int) (n : Nat) : Ds a n (2 ^ n - 1) = dt n a := by
 have hp : 0 < 2 ^ n := Nat.two_pow_pos n
 rw [Ds_dt a n n (2 ^ n - 1) (tr a) (by omega) (pop_full n), dt_tr]
 intro k hk hb c
 rw [pop_all fun i hi => by rw [Nat.testBit_two_pow_sub_one]; simp; omega]
 rfl
theorem impl_EndsOf_eq (w h g : Int) : impl_EndsOf.f w h g = some (endsI w h g) := by
 unfold impl_EndsOf.f endsI
 rw [impl_isGap_eq, Option.bind_some]
 unfold isGapI
 by_cases hc : 0 ≤ g ∧ g < gapsOf w h
 ·rw [if_pos hc, if_pos (by simpa using hc)]
  obtain ⟨hg, hgw⟩ := gapsOf_valid hc.1 hc.2
  have hgr := gridOk_iff.1 hg
  have hrr := gapsOf_range w h
  have hq0 : 0 ≤ (w - 1) * h := Int.mul_nonneg (by omega) (by omega)
  have hq1 : (w - 1) * h ≤ 3 * 4 := Int.mul_le_mul (by omega) (by omega) (by omega) (by omega)
  have hw1 : w - 1 = 0 → (w - 1) * h = 0 := fun e => by rw [e, Int.zero_mul]
  rw [wrap64_id (x := w - 1) (by omega) (by omega), wrap64_id (x := (w - 1) * h) (by omega) (by omega)]
  by_cases hlt : g < (w - 1) * h
  ·rw [if_pos hlt, if_neg (by omega)]
   have hne : w - 1 ≠ 0 := fun e => by have := hw1 e; omega
   have ha0 : 0 ≤ g / (w - 1) := Int.ediv_nonneg hc.1 (by omega)
   have ha1 : g / (w - 1) ≤ g := Int.ediv_le_self _ hc.1
   have hb0 : 0 ≤ g % (w - 1) := Int.emod_nonneg _ (by omega)
   have hb1 : g % (w - 1) < w - 1 := Int.emod_lt_of_pos _ (by omega)
   have hp0 : 0 ≤ g / (w - 1) * w := Int.mul_nonneg ha0 (by omega)
   have hp1 : g / (w - 1) * w ≤ 23 * 4 := Int.mul_le_mul (by omega) (by omega) (by omega) (by omega)
   rw [if_neg hne, Int.tmod_eq_emod_of_nonneg hc.1, Int.tdiv_eq_ediv_of_nonneg hc.1, wrap64_id (x := g / (w - 1)) (by omega) (by omega), wrap64_id (x := g / (w - 1) * w) (by omega) (by omega), wrap64_id (x := g / (w - 1) * w + g % (w - 1)) (by omega) (by omega), wrap64_id (by omega) (by omega)]
  ·rw [if_neg hlt, if_pos (by omega)]
   rw [wrap64_id (x := g - (w - 1) * h) (by omega) (by omega), wrap64_id (by omega) (by omega)]
 ·rw [if_neg hc, if_neg (by simpa using hc)]
end Go.Proofs.Ytoohcdfokejkdaa.P
namespace Go.Proofs.Ytoohcdfokejkdaa.P
open Go.RowKit Go.Proofs.YtoohcdfokejkdaaW.PrintWords
set_option linter.unusedVariables false
set_option linter.unusedSimpArgs false

def totN (w h : Int) (a b : Nat) : Nat := trees (ends w h) (cellsN w h) (gapsN w h) a b
theorem totN_le (w h : Int) (a b : Nat) : totN w h a b ≤ 16777216 := by
 have h1 := trees_le (e := ends w h) (V := cellsN w h) (E := gapsN w h) a b
 have h2 : 2 ^ gapsN w h ≤ 2 ^ 24 := Nat.pow_le_pow_right (by decide) (gapsN_le w h)
 unfold totN
 omega
def plN (w h : Int) (c x : Nat) : Nat := plc (ends w h) (gapsN w h) c x
def rowsZ (n i : Nat) : List (List Int) := (List.range n).map fun r => if r < i then dlist n (fun _ => 0) else []
theorem rowsZ_len (n i : Nat) : (rowsZ n i).length = n := by simp [rowsZ]
theorem rowsZ_get {n i r : Nat} (h : r < (rowsZ n i).length) : (rowsZ n i)[r] = if r < i then dlist n (fun _ => 0) else [] := by
 have h2 : r < ((List.range n).map fun r => if r < i then dlist n (fun _ => 0) else []).length := h
 show ((List.range n).map fun r => if r < i then dlist n (fun _ => 0) else [])[r] = _
 rw [List.getElem_map, List.getElem_range]
theorem rowsZ_set {n i : Nat} (h : i < n) : (rowsZ n i).set i (dlist n fun _ => 0) = rowsZ n (i + 1) := by
 apply List.ext_getElem
 ·simp [rowsZ_len]
 ·intro r h1 h2
  rw [List.getElem_set, rowsZ_get h2]
  by_cases e : i = r
  ·rw [if_pos e, if_pos (by omega)]
  ·rw [if_neg e, rowsZ_get]
   by_cases e2 : r < i
   ·rw [if_pos e2, if_pos (by omega)]
   ·rw [if_neg e2, if_neg (by omega)]
theorem rowsZ_zero (n : Nat) : List.replicate n ([] : List Int) = rowsZ n 0 := by
 apply List.ext_getElem
 ·simp [rowsZ]
 ·intro i h1 h2
  rw [rowsZ_get h2]
  simp
theorem rowsZ_all (n : Nat) : rowsZ n n = mat n n fun _ _ => 0 := by
 apply List.ext_getElem
 ·simp [rowsZ_len, mat_len]
 ·intro i h1 h2
  have : i < n := by rwa [rowsZ_len] at h1
  rw [rowsZ_get h1, mat_get h2, if_pos this]
theorem mat_four {w h : Int} {c b g n A B V : Nat} {f : Nat → Nat → Int} {R : Int} {P : Nat → Int} (hB : Bd f g) (hg : g ≤ 24) (p1 : A < n) (p2 : B < n)
  (ih : Ev (fun k => impl_CountFixed.l2 k c b (dlist V P) (mat n n (put (put (put (put f A A (f A A + 1)) B B (put f A A (f A A + 1) B B + 1)) A B (put (put f A A (f A A + 1)) B B (put f A A (f A A + 1) B B + 1) A B - 1)) B A
   (put (put (put f A A (f A A + 1)) B B (put f A A (f A A + 1) B B + 1)) A B (put (put f A A (f A A + 1)) B B (put f A A (f A A + 1) B B + 1) A B - 1) B A - 1))) ((g + 1 : Nat) : Int) w h) R) :
  Ev (fun k => if 0 ≤ (A : Int) then if (A : Int) < ((mat n n f).length : Int) then if (A : Int) < ((rd_L2 (mat n n f) (A : Int)).length : Int) then
   (some ((mat n n f).set A ((rd_L2 (mat n n f) (A : Int)).set A (wrap64 (rd (rd_L2 (mat n n f) (A : Int)) (A : Int) + 1))))).bind fun y133 =>
   if 0 ≤ (B : Int) then if (B : Int) < ((mat n n f).length : Int) then if (B : Int) < ((rd_L2 y133 (B : Int)).length : Int) then
   (some (y133.set B ((rd_L2 y133 (B : Int)).set B (wrap64 (rd (rd_L2 y133 (B : Int)) (B : Int) + 1))))).bind fun y138 =>
   if (B : Int) < ((rd_L2 y138 (A : Int)).length : Int) then
   (some (y138.set A ((rd_L2 y138 (A : Int)).set B (wrap64 (rd (rd_L2 y138 (A : Int)) (B : Int) - 1))))).bind fun y143 =>
   if (A : Int) < ((rd_L2 y143 (B : Int)).length : Int) then
    impl_CountFixed.l2 k c b (dlist V P) (y143.set B ((rd_L2 y143 (B : Int)).set A (wrap64 (rd (rd_L2 y143 (B : Int)) (A : Int) - 1)))) ((g + 1 : Nat) : Int) w h
   else none else none else none else none else none else none else none else none) R := by
 have b0 : 0 ≤ (g : Int) := by omega
 have v1 := hB A A
 have hB1 := bd_put (a := A) (b := A) (v := f A A + 1) hB b0 (by omega) (by omega)
 have v2 := hB1 B B
 have hB2 := bd_put (a := B) (b := B) (v := put f A A (f A A + 1) B B + 1) hB1 (by omega) (by omega) (by omega)
 have v3 := hB2 A B
 have hB3 := bd_put (a := A) (b := B) (v := put (put f A A (f A A + 1)) B B (put f A A (f A A + 1) B B + 1) A B - 1) hB2 (by omega) (by omega) (by omega)
 refine Ev.tt (by omega) (Ev.tt (by rw [mat_len]; omega) (Ev.tt (by rw [rd_mat p1, dlist_length]; omega) ?_))
 refine Ev.bnd0 (congrArg some (mat_inc hB (by omega) p1 p1)) ?_
 refine Ev.tt (by omega) (Ev.tt (by rw [mat_len]; omega) (Ev.tt (by rw [rd_mat p2, dlist_length]; omega) ?_))
 refine Ev.bnd0 (congrArg some (mat_inc hB1 (by omega) p2 p2)) ?_
 refine Ev.tt (by rw [rd_mat p1, dlist_length]; omega) ?_
 refine Ev.bnd0 (congrArg some (mat_dec hB2 (by omega) p1 p2)) ?_
 refine Ev.tt (by rw [rd_mat p2, dlist_length]; omega) ?_
 rw [mat_dec hB3 (by omega) p2 p1]
 exact ih
section
variable {w h : Int} {c b : Nat} (hg : gridOk w h = true) (hc : c < 2 ^ gapsN w h) (hb : b < 2 ^ gapsN w h)
include hg hc hb
omit hg hc hb in
theorem plN_lt {x : Nat} (hx : x < cellsN w h) : plN w h c x < partsN w h c := plc_lt hx
omit hg in
theorem cf_l2 {R : Int} (next : Ev (fun k => (impl_without.f k (mat (partsN w h c) (partsN w h c) (pm (ends w h) (gapsN w h) (plN w h c) (und c b))) 0).bind fun t149 => (impl_determinant.f k t149).bind fun t152 => some t152) R) :
  ∀ d g : Nat, g + d = gapsN w h → Ev (fun k => impl_CountFixed.l2 k c b (dlist (cellsN w h) fun x => (plN w h c x : Nat)) (mat (partsN w h c) (partsN w h c) (pm (ends w h) g (plN w h c) (und c b))) g w h) R
 | 0, g, hd => by
  have hcc := gapsN_cast w h
  obtain rfl : g = gapsN w h := by omega
  refine Ev.step (fun _ => impl_CountFixed.l2.eq_2 ..) (Ev.bnd0 (impl_CountGaps_eq w h) (Ev.ff (by omega) next))
 | d + 1, g, hd => by
  have hcc := gapsN_cast w h
  have h24 := gapsN_le w h
  have hgg : g < gapsN w h := by omega
  have hcs := open_small hc
  have hbs := open_small hb
  obtain ⟨e1, e2, e3⟩ := ends_facts hgg
  have hor : (c ||| b) < 2 ^ gapsN w h := Nat.or_lt_two_pow hc hb
  have hos := open_small hor
  have ih := cf_l2 next d (g + 1) (by omega)
  have p1 : plN w h c (ends w h g).1 < partsN w h c := plN_lt (by omega)
  have p2 : plN w h c (ends w h g).2 < partsN w h c := plN_lt e3
  refine Ev.step (fun _ => impl_CountFixed.l2.eq_2 ..) (Ev.bnd0 (impl_CountGaps_eq w h) (Ev.tt (by omega) (Ev.tt (by omega) ?_)))
  rw [bits_or (by omega) (by omega), wsucc (by omega)]
  have hbit : (Go.bits .and .i64 (shr .i64 ((c ||| b : Nat) : Int) (g : Int)) 1 = 1) ↔ (c ||| b).testBit g = true := by
   rw [← bit_one (show (c ||| b) < 4611686018427387904 by omega) g, beq_iff_eq]
  have hun : und c b g = !(c ||| b).testBit g := by unfold und; rw [Nat.testBit_or]; cases c.testBit g <;> cases b.testBit g <;> rfl
  refine Ev.ite (fun e => ?_) (fun e => ?_)
  ·rw [hbit] at e
   rw [pm_succ, if_neg (by rw [hun, e]; simp)] at ih
   exact ih
  ·rw [hbit] at e
   rw [pm_succ, if_pos (by rw [hun, Bool.eq_false_iff.2 e]; rfl)] at ih
   have hB := pm_bd (ends w h) (plN w h c) (und c b) g
   rw [← four_put] at ih
   refine Ev.bnd0 (impl_EndsOf_eq w h g) ?_
   rw [e1]
   refine Ev.tt (by omega) (Ev.tt (by rw [dlist_length]; omega) (Ev.tt (by omega) (Ev.tt (by rw [dlist_length]; omega) ?_)))
   rw [rd_dlist (show (ends w h g).1 < cellsN w h by omega), rd_dlist e3, Int.toNat_natCast, Int.toNat_natCast]
   generalize plN w h c (ends w h g).1 = A at *
   generalize plN w h c (ends w h g).2 = B at *
   generalize pm (ends w h) g (plN w h c) (und c b) = f at *
   generalize partsN w h c = n at *
   exact mat_four hB (by omega) p1 p2 ih
theorem cf_det (hf : pop (gapsN w h) c + partsN w h c = cellsN w h) (hd : ∀ i, c.testBit i = true → b.testBit i = false) : Ev (fun k => (impl_without.f k (mat (partsN w h c) (partsN w h c) (pm (ends w h) (gapsN w h) (plN w h c) (und c b))) 0).bind fun t149 => (impl_determinant.f k t149).bind fun t152 => some t152) ((totN w h c b : Nat) : Int) := by
 have hV := cells_pos hg
 have hp : 0 < partsN w h c := parts_pos hc (by omega)
 have h16 := partsN_le w h c
 have htot := trees_place (gr_grid w h) hV hc hb hd hf
 obtain ⟨n, hn⟩ : ∃ n, partsN w h c = n + 1 := ⟨partsN w h c - 1, by omega⟩
 have hw := without_ev (mat (partsN w h c) (partsN w h c) (pm (ends w h) (gapsN w h) (plN w h c) (und c b))) 0 (by rw [mat_len]; omega) (fun row hr => by
  unfold mat at hr
  obtain ⟨i, _, rfl⟩ := List.mem_map.1 hr
  rw [dlist_length]
  omega)
 refine Ev.bind hw ?_
 rw [hn, minor_mat0]
 have hrow : ∀ r : Nat, r < n → (rd_L2 (mat n n fun i j => pm (ends w h) (gapsN w h) (plN w h c) (und c b) (i + 1) (j + 1)) (r : Nat)).length = n := fun r hr => by rw [rd_mat hr, dlist_length]
 refine Ev.bind (impl_det_ev (m := mat n n fun i j => pm (ends w h) (gapsN w h) (plN w h c) (und c b) (i + 1) (j + 1)) (n := n) (by rw [mat_len]) (by omega) hrow) (Ev.ret ?_)
 rw [Ds_full, dt_congr (B := fun i j => pm (ends w h) (gapsN w h) (plc (ends w h) (gapsN w h) c) (und c b) (i + 1) (j + 1)) (fun i j hi hj => by unfold ent; rw [rd_mat hi, rd_dlist hj]; rfl)]
 have hpn : parts (ends w h) (cellsN w h) (gapsN w h) c - 1 = n := by unfold partsN at hn; omega
 rw [hpn] at htot
 have hle := totN_le w h c b
 unfold totN at hle ⊢
 rw [← htot, wrap64_id (by omega) (by omega)]
omit hg hb hc in
theorem plc_first {x : Nat} (hl : labN w h c x = x) : plN w h c x = cnt (fun z => lab (ends w h) c (gapsN w h) z == z) x := by
 unfold plN plc
 unfold labN at hl
 rw [hl]
omit hg hb hc in
theorem plc_lab (x : Nat) : plN w h c (labN w h c x) = plN w h c x := by
 unfold plN plc labN
 rw [lab_lab]
omit hg hc hb in
theorem cf_l1 {R : Int} (L : List Int) (next : Ev (fun k => impl_CountFixed.l2 k c b L (mat (partsN w h c) (partsN w h c) fun _ _ => 0) 0 w h) R) :
  ∀ d i : Nat, i + d = partsN w h c → Ev (fun k => impl_CountFixed.l1 k c b L (partsN w h c : Nat) (rowsZ (partsN w h c) i) (partsN w h c : Nat) i w h) R
 | 0, i, hd => by
  refine Ev.step (fun _ => impl_CountFixed.l1.eq_2 ..) (Ev.ff (by omega) ?_)
  rw [show i = partsN w h c by omega, rowsZ_all]
  exact next
 | d + 1, i, hd => by
  have h16 := partsN_le w h c
  refine Ev.step (fun _ => impl_CountFixed.l1.eq_2 ..) (Ev.tt (by omega) (Ev.tt (by omega) (Ev.tt (by omega) (Ev.tt (by omega) (Ev.tt (by rw [rowsZ_len]; omega) ?_)))))
  rw [Int.toNat_natCast, Int.toNat_natCast, zeros_dlist, rowsZ_set (by omega), wsucc (by omega)]
  exact cf_l1 L next d (i + 1) (by omega)
omit hb in
theorem cf_l0 {R : Int} (next : Ev (fun k => impl_CountFixed.l1 k c b (dlist (cellsN w h) fun x => (plN w h c x : Nat)) (partsN w h c : Nat) (rowsZ (partsN w h c) 0) (partsN w h c : Nat) 0 w h) R) :
  ∀ d i : Nat, i + d = cellsN w h → Ev (fun k => impl_CountFixed.l0 k c b (dlist (cellsN w h) fun x => if x < i then (plN w h c x : Nat) else 0) (cnt (fun z => lab (ends w h) c (gapsN w h) z == z) i : Nat) (cellsN w h : Nat) i w h w h c) R
 | 0, i, hd => by
  have h16 := partsN_le w h c
  obtain rfl : i = cellsN w h := by omega
  have e1 : (dlist (cellsN w h) fun x => if x < cellsN w h then (plN w h c x : Int) else 0) = dlist (cellsN w h) fun x => (plN w h c x : Nat) := by
   unfold dlist
   exact List.map_congr_left fun x hx => by rw [if_pos (List.mem_range.1 hx)]
  rw [e1]
  have e2 : cnt (fun z => lab (ends w h) c (gapsN w h) z == z) (cellsN w h) = partsN w h c := rfl
  rw [e2]
  refine Ev.step (fun _ => impl_CountFixed.l0.eq_2 ..) (Ev.ff (by omega) (Ev.tt (by omega) (Ev.tt (by omega) ?_)))
  rw [Int.toNat_natCast, rowsZ_zero]
  refine Ev.bnd0 rfl ?_
  rw [rowsZ_len]
  exact next
 | d + 1, i, hd => by
  have h16 := cellsN_le w h
  have hi : i < cellsN w h := by omega
  obtain ⟨e1, e2⟩ := head_is hc hi
  have ih := cf_l0 next d (i + 1) (by omega)
  have hle : labN w h c i ≤ i := lab_le _ _ _ _
  have hcl := cnt_le (fun z => lab (ends w h) c (gapsN w h) z == z) i
  have key : ∀ v : Int, v = (plN w h c i : Int) → (dlist (cellsN w h) fun x => if x < i then (plN w h c x : Int) else 0).set i v = dlist (cellsN w h) fun x => if x < i + 1 then (plN w h c x : Int) else 0 := by
   intro v hv
   rw [dlist_set hi]
   unfold dlist upd
   refine List.map_congr_left fun x _ => ?_
   by_cases q : x = i
   ·subst q; rw [if_pos rfl, if_pos (by omega), hv]
   ·rw [if_neg q]
    show (if x < i then (plN w h c x : Int) else 0) = _
    by_cases q2 : x < i
    ·rw [if_pos q2, if_pos (by omega)]
    ·rw [if_neg q2, if_neg (by omega)]
  refine Ev.step (fun _ => impl_CountFixed.l0.eq_2 ..) (Ev.tt (by omega) (Ev.bind (impl_Reached_ev hg hc hi) (Ev.tt e1 ?_)))
  rw [e2, wsucc (show i < 4611686018427387904 by omega)]
  refine Ev.ite (fun q => ?_) (fun q => ?_)
  ·refine Ev.tt (by omega) (Ev.tt (by rw [dlist_length]; omega) (Ev.tt (by omega) (Ev.tt (by rw [dlist_length]; omega) ?_)))
   rw [rd_dlist (show labN w h c i < cellsN w h by omega), if_pos (show labN w h c i < i by omega), Int.toNat_natCast, key _ (by rw [plc_lab])]
   have : cnt (fun z => lab (ends w h) c (gapsN w h) z == z) (i + 1) = cnt (fun z => lab (ends w h) c (gapsN w h) z == z) i := by
    have hne : (lab (ends w h) c (gapsN w h) i == i) = false := by
     rw [beq_eq_false_iff_ne]
     intro hq
     unfold labN at q
     omega
    show cnt _ i + (lab (ends w h) c (gapsN w h) i == i).toNat = _
    rw [hne]
    rfl
   rw [this] at ih
   exact ih
  ·refine Ev.tt (by omega) (Ev.tt (by rw [dlist_length]; omega) ?_)
   have hl : labN w h c i = i := by omega
   rw [Int.toNat_natCast, key _ (by rw [plc_first hl]), wsucc (by omega)]
   have : cnt (fun z => lab (ends w h) c (gapsN w h) z == z) (i + 1) = cnt (fun z => lab (ends w h) c (gapsN w h) z == z) i + 1 := by
    have heq : (lab (ends w h) c (gapsN w h) i == i) = true := by
     rw [beq_iff_eq]; exact hl
    show cnt _ i + (lab (ends w h) c (gapsN w h) i == i).toNat = _
    rw [heq]
    rfl
   rw [this] at ih
   exact ih
omit hb in
theorem impl_CountLoops_ev : Ev (fun k => impl_CountLoops.f k w h c) (((pop (gapsN w h) c : Nat) : Int) - (cellsN w h : Nat) + (partsN w h c : Nat)) := by
 have h24 := gapsN_le w h
 have hV := cellsN_cast w h
 have h16 := cellsN_le w h
 have hp := partsN_le w h c
 have hpo := pop_le (gapsN w h) c
 unfold impl_CountLoops.f
 refine Ev.bnd0 (impl_MazeOk_eq ..) (Ev.tt (mazeOk_nat hg hc) (Ev.bnd0 (impl_CountPassages_eq hg hc) (Ev.bnd0 (impl_CountCells_eq w h) (Ev.bind (impl_CountParts_ev hg hc) (Ev.ret ?_)))))
 rw [← hV, wrap64_id (x := ((pop (gapsN w h) c : Nat) : Int) - (cellsN w h : Nat)) (by omega) (by omega), wrap64_id (by omega) (by omega)]
theorem cf_j0 (hd : ∀ i, c.testBit i = true → b.testBit i = false) : Ev (fun k => impl_CountFixed.j0 k c b false w h) ((totN w h c b : Nat) : Int) := by
 have hV := cellsN_cast w h
 have h16 := cellsN_le w h
 have hno := loops_nonneg (v := cellsN w h) (gr_grid w h) c hc
 refine Ev.step (fun _ => impl_CountFixed.j0.eq_2 ..) (Ev.ff (by simp) (Ev.bind (impl_CountLoops_ev hg hc) ?_))
 refine Ev.ite (fun e => ?_) (fun e => ?_)
 ·refine Ev.ret ?_
  have := trees_loops (gr_grid w h) (b := b) hc (show ¬ pop (gapsN w h) c + parts (ends w h) (cellsN w h) (gapsN w h) c = cellsN w h by unfold partsN at e; omega)
  unfold totN
  rw [this]
  rfl
 ·have hf : pop (gapsN w h) c + partsN w h c = cellsN w h := by unfold partsN at e ⊢; omega
  refine Ev.bnd0 (impl_CountCells_eq w h) ?_
  rw [← hV]
  refine Ev.tt (by omega) (Ev.tt (by omega) (Ev.bnd0 rfl ?_))
  rw [Int.toNat_natCast, List.length_replicate, zeros_dlist]
  have := cf_l0 hg hc (cf_l1 _ (cf_l2 hc hb (cf_det hg hc hb hf hd) (gapsN w h) 0 (by omega)) (partsN w h c) 0 (by omega)) (cellsN w h) 0 (by omega)
  have e0 : (dlist (cellsN w h) fun x => if x < 0 then (plN w h c x : Int) else 0) = dlist (cellsN w h) fun _ => 0 := by
   unfold dlist
   exact List.map_congr_left fun x _ => by rw [if_neg (by omega)]
  rw [e0] at this
  exact this
end
end Go.Proofs.Ytoohcdfokejkdaa.P
namespace Go.Proofs.Ytoohcdfokejkdaa.P
open Go.RowKit Go.Proofs.YtoohcdfokejkdaaW.PrintWords Go.Proofs.YtoohcdfokejkdaaW.PrintLast Go.Proofs.YtoohcdfokejkdaaW.PrintMore
attribute [local go_sem] max2_int min2_int max_two min_two max_three min_three max_four min_four   -- for this text's walks alone
set_option linter.unusedVariables false
set_option linter.unusedSimpArgs false

end Go.Proofs.Ytoohcdfokejkdaa.P
namespace Go.Proofs.Ytoohcdfokejkdaa.P
open Go.RowKit Go.Proofs.YtoohcdfokejkdaaW.PrintWords
set_option linter.unusedVariables false
set_option linter.unusedSimpArgs false

section
variable {w h : Int} {c b : Nat} (hg : gridOk w h = true) (hc : c < 2 ^ gapsN w h) (hb : b < 2 ^ gapsN w h) (hd : ∀ i, c.testBit i = true → b.testBit i = false)
include hg hc hb hd
end
def cfI (w h a b : Int) : Int := if gridOk w h = true ∧ (0 ≤ a ∧ a < 2 ^ gapsN w h) ∧ (0 ≤ b ∧ b < 2 ^ gapsN w h) ∧ a.toNat &&& b.toNat = 0 then (totN w h a.toNat b.toNat : Nat) else 0
theorem cfI_nat {w h : Int} {a b : Nat} (hg : gridOk w h = true) (ha : a < 2 ^ gapsN w h) (hb : b < 2 ^ gapsN w h) (hd : ∀ i, a.testBit i = true → b.testBit i = false) : cfI w h a b = (totN w h a b : Nat) := by
 have e : a &&& b = 0 := by
  apply Nat.eq_of_testBit_eq
  intro i
  rw [Nat.testBit_and, Nat.zero_testBit]
  cases q : a.testBit i
  ·rfl
  ·rw [hd i q]; rfl
 unfold cfI
 have ha' : (a : Int) < 2 ^ gapsN w h := by exact_mod_cast ha
 have hb' : (b : Int) < 2 ^ gapsN w h := by exact_mod_cast hb
 rw [if_pos ⟨hg, ⟨by omega, ha'⟩, ⟨by omega, hb'⟩, by rw [Int.toNat_natCast, Int.toNat_natCast]; exact e⟩, Int.toNat_natCast, Int.toNat_natCast]
theorem and_zero {a b : Nat} (h : a &&& b = 0) (i : Nat) (hi : a.testBit i = true) : b.testBit i = false := by
 have := Nat.testBit_and a b i
 rw [h, Nat.zero_testBit, hi] at this
 simpa using this.symm
theorem impl_CountFixed_ev (w h a b : Int) : Ev (fun k => impl_CountFixed.f k w h a b) (cfI w h a b) := by
 have hgr := gapsOf_range w h
 have h24 := gapsN_le w h
 have hcast := gapsN_cast w h
 have hS : wrap64 (shl .i64 1 (gapsOf w h) - 1) = 2 ^ gapsN w h - 1 := by
  have hp : (2 : Int) ^ gapsN w h = ((2 ^ gapsN w h : Nat) : Int) := by norm_cast
  have h2 : 2 ^ gapsN w h ≤ 2 ^ 24 := Nat.pow_le_pow_right (by decide) h24
  have h3 := Nat.two_pow_pos (gapsN w h)
  rw [shl_one hgr.1 hgr.2]
  have : (gapsOf w h).toNat = gapsN w h := rfl
  rw [this, hp, wrap64_id (by omega) (by omega)]
 have hp : (2 : Int) ^ gapsN w h = ((2 ^ gapsN w h : Nat) : Int) := by norm_cast
 have bad : ¬ (gridOk w h = true ∧ (0 ≤ a ∧ a < 2 ^ gapsN w h) ∧ (0 ≤ b ∧ b < 2 ^ gapsN w h) ∧ a.toNat &&& b.toNat = 0) → Ev (fun k => impl_CountFixed.j0 k a b true w h) (cfI w h a b) := by
  intro hc
  unfold cfI
  rw [if_neg hc]
  exact Ev.step (fun _ => impl_CountFixed.j0.eq_2 ..) (Ev.tt rfl (Ev.ret rfl))
 unfold impl_CountFixed.f
 refine Ev.bnd0 (impl_CountGaps_eq w h) (Ev.tt hgr.1 (Ev.bnd0 (impl_GridOk_eq w h) ?_))
 rw [hS]
 refine Ev.ite (fun hg => ?_) (fun hg => bad fun hc => hg hc.1)
 refine Ev.ite (fun q => bad fun hc => by omega) (fun q1 => Ev.ite (fun q => bad fun hc => by omega) (fun q2 => Ev.ite (fun q => bad fun hc => by omega) (fun q3 => Ev.ite (fun q => bad fun hc => by omega) (fun q4 => ?_))))
 obtain ⟨c, rfl⟩ := Int.eq_ofNat_of_zero_le (show 0 ≤ a by omega)
 obtain ⟨d, rfl⟩ := Int.eq_ofNat_of_zero_le (show 0 ≤ b by omega)
 have hc : c < 2 ^ gapsN w h := by omega
 have hd : d < 2 ^ gapsN w h := by omega
 have hcs := open_small hc
 have hds := open_small hd
 rw [bits_and (by omega) (by omega)]
 by_cases e : c &&& d = 0
 ·rw [e, cfI_nat hg hc hd (and_zero e)]
  exact cf_j0 hg hc hd (and_zero e)
 ·have : (((c &&& d : Nat) : Int) != 0) = true := by
   rw [bne_iff_ne]
   omega
  rw [this]
  exact bad fun hx => e (by have := hx.2.2.2; rwa [Int.toNat_natCast, Int.toNat_natCast] at this)
end Go.Proofs.Ytoohcdfokejkdaa.P
namespace Go.Proofs.Ytoohcdfokejkdaa.P
open Go.RowKit Go.Proofs.YtoohcdfokejkdaaW.PrintWords Go.Proofs.YtoohcdfokejkdaaW.PrintLast Go.Proofs.YtoohcdfokejkdaaW.PrintMore
attribute [local go_sem] max2_int min2_int max_two min_two max_three min_three max_four min_four   -- for this text's walks alone
set_option linter.unusedVariables false
set_option linter.unusedSimpArgs false

end Go.Proofs.Ytoohcdfokejkdaa.P
namespace Go.Proofs.Ytoohcdfokejkdaa.P
open Go.RowKit Go.Proofs.YtoohcdfokejkdaaW.PrintWords
set_option linter.unusedVariables false
set_option linter.unusedSimpArgs false

def cpl (w h : Int) (n : Nat) : Nat := andNot (2 ^ gapsN w h - 1) n
theorem cpl_bit {w h : Int} {n g : Nat} (hg : g < gapsN w h) : (cpl w h n).testBit g = !n.testBit g := by
 unfold cpl
 rw [testBit_andNot, Nat.testBit_two_pow_sub_one, decide_eq_true hg, Bool.true_and]
theorem cpl_lt (w h : Int) (n : Nat) : cpl w h n < 2 ^ gapsN w h := by
 have := andNot_le (2 ^ gapsN w h - 1) n
 have := Nat.two_pow_pos (gapsN w h)
 unfold cpl
 omega
theorem cpl_und {w h : Int} {n g : Nat} (hg : g < gapsN w h) : und 0 (cpl w h n) g = n.testBit g := by
 unfold und
 rw [cpl_bit hg]
 simp
def ctN (w h : Int) (n : Nat) : Nat := totN w h 0 (cpl w h n)
def ctI (w h o : Int) : Int := if mazeOk w h o = true then (ctN w h o.toNat : Nat) else 0
theorem ctI_nat {w h : Int} {n : Nat} (hg : gridOk w h = true) (hn : n < 2 ^ gapsN w h) : ctI w h n = (ctN w h n : Nat) := by
 unfold ctI
 rw [if_pos (mazeOk_nat hg hn), Int.toNat_natCast]
theorem impl_CountTrees_ev (w h o : Int) : Ev (fun k => impl_CountTrees.f k w h o) (ctI w h o) := by
 have hgr := gapsOf_range w h
 have h24 := gapsN_le w h
 have hS : wrap64 (shl .i64 1 (gapsOf w h) - 1) = ((2 ^ gapsN w h - 1 : Nat) : Int) := by
  have hp : (2 : Int) ^ gapsN w h = ((2 ^ gapsN w h : Nat) : Int) := by norm_cast
  have h2 : 2 ^ gapsN w h ≤ 2 ^ 24 := Nat.pow_le_pow_right (by decide) h24
  have h3 := Nat.two_pow_pos (gapsN w h)
  rw [shl_one hgr.1 hgr.2]
  have : (gapsOf w h).toNat = gapsN w h := rfl
  rw [this, hp, wrap64_id (by omega) (by omega)]
  omega
 unfold impl_CountTrees.f
 refine Ev.bnd0 (impl_MazeOk_eq ..) (Ev.ite (fun e => Ev.bnd0 (impl_CountGaps_eq w h) (Ev.tt hgr.1 ?_)) (fun e => Ev.ret ?_))
 ·obtain ⟨hg, n, rfl, hn⟩ := mazeOk_iff.1 e
  have hns := open_small hn
  have h2 : 2 ^ gapsN w h ≤ 2 ^ 24 := Nat.pow_le_pow_right (by decide) h24
  rw [hS, bits_andNot (by omega) (by omega)]
  have := impl_CountFixed_ev w h 0 (cpl w h n)
  rw [show (0 : Int) = ((0 : Nat) : Int) from rfl, cfI_nat hg (Nat.two_pow_pos _) (cpl_lt w h n) (fun i hi => by simp at hi)] at this
  rw [ctI_nat hg hn]
  exact Ev.bind this (Ev.ret rfl)
 ·unfold ctI
  rw [if_neg e]
theorem sumAbs_map_add (f g : Nat → Int) : ∀ l : List Nat, sumAbs (l.map fun j => f j + g j) ≤ sumAbs (l.map f) + sumAbs (l.map g)
 | [] => by simp [sumAbs]
 | x :: l => by
  have := sumAbs_map_add f g l
  simp only [List.map_cons, sumAbs_cons]
  omega
theorem sumAbs_dl (c : Nat) : ∀ l : List Nat, (c ∉ l → sumAbs (l.map fun j => dl j c) = 0) ∧ (l.Nodup → sumAbs (l.map fun j => dl j c) ≤ 1)
 | [] => by simp [sumAbs]
 | x :: l => by
  obtain ⟨h1, h2⟩ := sumAbs_dl c l
  simp only [List.map_cons, sumAbs_cons]
  refine ⟨fun hc => ?_, fun hn => ?_⟩
  ·rw [List.mem_cons, not_or] at hc
   rw [h1 hc.2, dl_ne (Ne.symm hc.1)]
   rfl
  ·rw [List.nodup_cons] at hn
   by_cases e : x = c
   ·subst e
    rw [h1 hn.1, dl_self]
    decide
   ·have := h2 hn.2
    rw [dl_ne e]
    simpa using this
theorem sumAbs_neg (f : Nat → Int) : ∀ l : List Nat, sumAbs (l.map fun j => -f j) = sumAbs (l.map f)
 | [] => rfl
 | x :: l => by simp only [List.map_cons, sumAbs_cons, sumAbs_neg f l]; omega
theorem sumAbs_row (V c : Nat) : ∀ L : List Nat, sumAbs (dlist V (rowS c L)) ≤ 2 * L.length
 | [] => by
  have : dlist V (rowS c []) = (List.range V).map fun _ => (0 : Int) := by unfold dlist; exact List.map_congr_left fun j _ => rfl
  rw [this]
  have z : ∀ l : List Nat, sumAbs (l.map fun _ => (0 : Int)) = 0 := by
   intro l
   induction l with
   | nil => rfl
   | cons x l ih => rw [List.map_cons, sumAbs_cons, ih]; rfl
  rw [z]
  omega
 | x :: L => by
  have ih := sumAbs_row V c L
  have e : dlist V (rowS c (x :: L)) = (List.range V).map fun j => dl j c + (-dl j x + rowS c L j) := by
   unfold dlist
   refine List.map_congr_left fun j _ => ?_
   simp only [rowS, List.map_cons, List.sum_cons]
   omega
  rw [e]
  have a1 : sumAbs ((List.range V).map fun j => dl j c + (-dl j x + rowS c L j)) ≤ sumAbs ((List.range V).map fun j => dl j c) + sumAbs ((List.range V).map fun j => -dl j x + rowS c L j) := sumAbs_map_add (fun j => dl j c) (fun j => -dl j x + rowS c L j) _
  have a2 : sumAbs ((List.range V).map fun j => -dl j x + rowS c L j) ≤ sumAbs ((List.range V).map fun j => -dl j x) + sumAbs ((List.range V).map (rowS c L)) := sumAbs_map_add (fun j => -dl j x) (rowS c L) _
  have a3 := (sumAbs_dl c (List.range V)).2 List.nodup_range
  have a4 := (sumAbs_dl x (List.range V)).2 List.nodup_range
  have a5 : sumAbs ((List.range V).map fun j => -dl j x) = sumAbs ((List.range V).map fun j => dl j x) := sumAbs_neg (fun j => dl j x) _
  unfold dlist at ih
  rw [List.length_cons]
  omega
theorem lap_square {w h : Int} {n : Nat} (hg : gridOk w h = true) (hn : n < 2 ^ gapsN w h) : squareOk (lapN w h n) = true := by
 have h16 := cellsN_le w h
 unfold squareOk
 rw [Bool.and_eq_true, decide_eq_true_eq, List.all_eq_true, lapN_len]
 refine ⟨h16, fun row hr => ?_⟩
 have hl := lapN_rows hr
 unfold lapN mat at hr
 obtain ⟨c, hc, rfl⟩ := List.mem_map.1 hr
 have hc := List.mem_range.1 hc
 have hrow := lap_row hg (n := n) hc
 have h4 := waysN_len w h n c
 have hnl := nbs_len w h n c
 have hs := sumAbs_row (cellsN w h) c (nbs w h n c)
 rw [hrow] at hs
 unfold rowOk
 simp only [Bool.and_eq_true, decide_eq_true_eq, List.all_eq_true]
 refine ⟨⟨hl, fun x hx => ?_⟩, by omega⟩
 rw [← hrow] at hx
 unfold dlist at hx
 obtain ⟨j, _, rfl⟩ := List.mem_map.1 hx
 have := rowS_bd c j (nbs w h n c)
 unfold small
 rw [decide_eq_true_eq]
 omega
end Go.Proofs.Ytoohcdfokejkdaa.P
namespace Go.Proofs.Ytoohcdfokejkdaa.P
open Go.RowKit Go.Proofs.YtoohcdfokejkdaaW.PrintWords
set_option linter.unusedVariables false
set_option linter.unusedSimpArgs false

section
variable {e : Nat → Nat × Nat} {V E : Nat}
def fo (e : Nat → Nat × Nat) (V E n : Nat) : Bool := decide (pop E n + parts e V E n = V)
end
end Go.Proofs.Ytoohcdfokejkdaa.P
namespace Go.Proofs.Ytoohcdfokejkdaa.P
open Go.RowKit Go.Proofs.YtoohcdfokejkdaaW.PrintWords
set_option linter.unusedVariables false
set_option linter.unusedSimpArgs false

def mkM (w h : Int) (n : Nat) : S42 := ⟨⟨w, h⟩, (n : Int)⟩
section
variable {w h : Int}
theorem rd_mk {L : List Nat} {i : Nat} (hi : i < L.length) : rd_T42 (L.map (mkM w h)) (i : Int) = mkM w h L[i] := by
 simp [rd_T42, List.getD_eq_getElem?_getD, List.getElem?_eq_getElem hi]
end
end Go.Proofs.Ytoohcdfokejkdaa.P
namespace Go.Proofs.Ytoohcdfokejkdaa.P
open Go.RowKit Go.Proofs.YtoohcdfokejkdaaW.PrintWords
set_option linter.unusedVariables false
set_option linter.unusedSimpArgs false

def subL (m : Nat) : Nat → Nat → Bool
 | 0, _ => true
 | g + 1, s => subL m g s && (!s.testBit g || m.testBit g)
theorem subL_iff {m : Nat} : ∀ {g s : Nat}, subL m g s = true ↔ ∀ i, i < g → s.testBit i = true → m.testBit i = true
 | 0, s => by simp [subL]
 | g + 1, s => by
  unfold subL
  rw [Bool.and_eq_true, subL_iff]
  constructor
  ·rintro ⟨h1, h2⟩ i hi hb
   rcases Nat.lt_succ_iff_lt_or_eq.1 hi with h | rfl
   ·exact h1 i h hb
   ·rw [hb] at h2; simpa using h2
  ·intro h
   refine ⟨fun i hi => h i (by omega), ?_⟩
   cases hb : s.testBit g with
   | false => rfl
   | true => rw [h g (by omega) hb]; rfl
def treesS (e : Nat → Nat × Nat) (V E m : Nat) : List Nat := (List.range (m + 1)).filter fun s => subL m E s && perf e V E s
theorem sub_le {E m s : Nat} (hs : s < 2 ^ E) (h : subL m E s = true) : s ≤ m := by
 apply Nat.le_of_testBit
 intro i hi
 exact subL_iff.1 h i (lt_of_testBit hs hi) hi
theorem treesS_mem {e : Nat → Nat × Nat} {V E m s : Nat} : s ∈ treesS e V E m ↔ s ≤ m ∧ (∀ i, i < E → s.testBit i = true → m.testBit i = true) ∧ perf e V E s = true := by
 unfold treesS
 rw [List.mem_filter, List.mem_range, Bool.and_eq_true, subL_iff]
 constructor
 ·rintro ⟨h1, h2, h3⟩; exact ⟨by omega, h2, h3⟩
 ·rintro ⟨h1, h2, h3⟩; exact ⟨by omega, h2, h3⟩
end Go.Proofs.Ytoohcdfokejkdaa.P
namespace Go.Proofs.Ytoohcdfokejkdaa.P
open Go.RowKit Go.Proofs.YtoohcdfokejkdaaW.PrintWords
set_option linter.unusedVariables false
set_option linter.unusedSimpArgs false

section
variable {w h : Int}
def treesW (w h : Int) (m : Nat) : List Nat := treesS (ends w h) (cellsN w h) (gapsN w h) m
theorem treesW_len {m : Nat} (hm : m < 2 ^ gapsN w h) : (treesW w h m).length ≤ 16777216 := by
 have h1 := List.length_filter_le (fun s => subL m (gapsN w h) s && perf (ends w h) (cellsN w h) (gapsN w h) s) (List.range (m + 1))
 rw [List.length_range] at h1
 have h2 : 2 ^ gapsN w h ≤ 2 ^ 24 := Nat.pow_le_pow_right (by decide) (gapsN_le w h)
 unfold treesW treesS
 omega
theorem andNot_zero {E m i : Nat} (hi : i < 2 ^ E) : andNot i m = 0 ↔ subL m E i = true := by
 rw [subL_iff]
 constructor
 ·intro h0 j hj hb
  have := testBit_andNot i m j
  rw [h0, Nat.zero_testBit, hb] at this
  simpa using this
 ·intro hs
  apply Nat.eq_of_testBit_eq
  intro j
  rw [testBit_andNot, Nat.zero_testBit]
  cases hb : i.testBit j
  ·rfl
  ·rw [hs j (lt_of_testBit hi hb) hb]; rfl
theorem impl_ListW_l0 (hg : gridOk w h = true) {m : Nat} (hm : m < 2 ^ gapsN w h) : ∀ (e i : Nat) (out : List S42), i + e = m + 1 → out.length ≤ i →
  Ev (fun k => impl_ListTrees.l0 k out i w h m) (out ++ ((List.range' i e).filter (fun s => subL m (gapsN w h) s && perf (ends w h) (cellsN w h) (gapsN w h) s)).map (mkM w h))
 | 0, i, out, he, ho => by
  refine Ev.step (fun _ => impl_ListTrees.l0.eq_2 ..) (Ev.ff (by omega) (Ev.ret ?_))
  simp
 | e + 1, i, out, he, ho => by
  have hb : 2 ^ gapsN w h ≤ 2 ^ 24 := Nat.pow_le_pow_right (by decide) (gapsN_le w h)
  have hi : i < 2 ^ gapsN w h := by omega
  have hcc := cellsN_cast w h
  have hcl := cellsN_le w h
  have hcp := cells_pos hg
  refine Ev.step (fun _ => impl_ListTrees.l0.eq_2 ..) (Ev.tt (by omega) ?_)
  rw [bits_andNot (a := i) (b := m) (by omega) (by omega), List.range'_succ, List.filter_cons]
  by_cases hs : subL m (gapsN w h) i = true
  ·rw [(andNot_zero hi).2 hs, hs, Bool.true_and]
   have hu : IntKind.u64.wrap (i : Int) = (i : Int) := by unfold IntKind.wrap; simp [IntKind.bits, IntKind.signed]; omega
   refine Ev.tt rfl ?_
   rw [hu]
   refine Ev.bnd0 (ones_eq' (gapsN_le w h) hi) (Ev.bnd0 (impl_CountCells_eq ..) (Ev.step (fun _ => impl_ListTrees.j2.eq_2 ..) ?_))
   rw [wrap64_id (x := cellsOf w h - 1) (by omega) (by omega), wsucc (by omega)]
   refine Ev.ite (fun e1 => ?_) (fun e1 => ?_)
   ·have hpf : perf (ends w h) (cellsN w h) (gapsN w h) i = false := by
     unfold perf
     rw [decide_eq_false_iff_not]
     intro hh
     rw [bne_iff_ne] at e1
     omega
    rw [hpf, if_neg (by decide)]
    exact impl_ListW_l0 hg hm e (i + 1) out (by omega) (by omega)
   ·refine Ev.bind (impl_IsPerfect_ev hg hi) (Ev.ite (fun e2 => ?_) (fun e2 => ?_))
    ·rw [if_pos (show perf (ends w h) (cellsN w h) (gapsN w h) i = true from e2)]
     refine Ev.tt (by omega) (Ev.eq (impl_ListW_l0 hg hm e (i + 1) (out ++ [mkM w h i]) (by omega) (by simp; omega)) ?_)
     simp
    ·rw [if_neg (show ¬ perf (ends w h) (cellsN w h) (gapsN w h) i = true from e2)]
     exact impl_ListW_l0 hg hm e (i + 1) out (by omega) (by omega)
  ·have hne : ¬ ((andNot i m : Nat) : Int) = 0 := by
    intro h0
    exact hs ((andNot_zero hi).1 (by omega))
   rw [Bool.eq_false_iff.2 hs, Bool.false_and, if_neg (by decide)]
   refine Ev.ff hne (Ev.step (fun _ => impl_ListTrees.j2.eq_2 ..) (Ev.tt rfl ?_))
   rw [wsucc (by omega)]
   exact impl_ListW_l0 hg hm e (i + 1) out (by omega) (by omega)
theorem impl_ListTreesW_ev (hg : gridOk w h = true) {m : Nat} (hm : m < 2 ^ gapsN w h) (h12 : pop (gapsN w h) m ≤ 12) : Ev (fun k => impl_ListTrees.f k w h m) ((treesW w h m).map (mkM w h)) := by
 unfold impl_ListTrees.f
 refine Ev.bnd0 (impl_MazeOk_eq ..) (Ev.tt (mazeOk_iff.2 ⟨hg, m, rfl, hm⟩) (Ev.bnd0 (impl_CountPassages_eq hg hm) (Ev.step (fun _ => impl_ListTrees.j0.eq_2 ..) (Ev.ff (by rw [decide_eq_true_eq]; omega) ?_))))
 have := impl_ListW_l0 hg hm (m + 1) 0 [] (by omega) (by simp)
 rw [List.nil_append, ← List.range_eq_range'] at this
 exact this
end
end Go.Proofs.Ytoohcdfokejkdaa.P
namespace Go.Proofs.Ytoohcdfokejkdaa.P
open Go.RowKit Go.Proofs.YtoohcdfokejkdaaW.PrintWords
set_option linter.unusedVariables false
set_option linter.unusedSimpArgs false

def detI (m : List (List Int)) : Int := if squareOk m then wrap64 (Ds (ent m) m.length (2 ^ m.length - 1)) else 0
theorem square_rows {m : List (List Int)} (h : squareOk m = true) : m.length ≤ 16 ∧ ∀ r : Nat, r < m.length → (rd_L2 m (r : Nat)).length = m.length := by
 unfold squareOk at h
 simp only [Bool.and_eq_true, decide_eq_true_eq, List.all_eq_true] at h
 refine ⟨h.1, fun r hr => ?_⟩
 rw [rdL_get hr]
 have := h.2 _ (List.getElem_mem hr)
 unfold rowOk at this
 simp only [Bool.and_eq_true, decide_eq_true_eq] at this
 exact this.1.1
theorem impl_Determinant_ev (m : List (List Int)) (hm : m.length ≤ 1048576) : Ev (fun k => impl_Determinant.f k m) (detI m) := by
 unfold impl_Determinant.f detI
 refine Ev.bind (impl_SquareOk_ev m hm) ?_
 by_cases h : squareOk m = true
 ·obtain ⟨h1, h2⟩ := square_rows h
  rw [if_pos h]
  exact Ev.tt h (Ev.bind (impl_det_ev rfl h1 h2) (Ev.ret rfl))
 ·rw [if_neg h]
  exact Ev.ff h (Ev.ret rfl)
end Go.Proofs.Ytoohcdfokejkdaa.P
namespace Go.Proofs.Ytoohcdfokejkdaa.P
open Go Go.RowKit Go.Proofs.YtoohcdfokejkdaaW.PrintWords
set_option linter.unusedVariables false
set_option linter.unusedSimpArgs false

section
variable {w h : Int} {xs : List Int} {i1 h1 : Int}
def gapN (n first step k : Nat) : Nat := (first + k * step) % n
theorem tree_l3 {n first step kk : Nat} {P : Nat → Int} {a : Nat} {old : Int} {o : Int} {r : Int × Int × Int × Int × Int} (ha : a < cellsN w h) (hne : ¬ P a = old)
  (hk : Ev (fun k => spec_l03Tree.l2 k n (tabL (fun x => if P x = old then P a else P x) (cellsN w h)) first step (wrap64 ((kk : Int) + 1)) xs i1 h1 w h w h o) r) : ∀ e i : Nat, i + e = cellsN w h →
  Ev (fun k => spec_l03Tree.l3 k n (tabL (fun x => if x < i ∧ P x = old then P a else P x) (cellsN w h)) first step kk a old i xs i1 h1 w h w h o) r
 | 0, i, he => by
  refine Ev.step (fun _ => spec_l03Tree.l3.eq_2 ..) (Ev.ff (by rw [tabL_length]; omega) ?_)
  rw [tabL_congr (Q := fun x => if P x = old then P a else P x) (fun x hx => by
   by_cases e : P x = old
   ·rw [if_pos ⟨by omega, e⟩, if_pos e]
   ·rw [if_neg (fun h => e h.2), if_neg e])]
  exact hk
 | e + 1, i, he => by
  have hl := cellsN_le w h
  have ih := tree_l3 (n := n) (first := first) (step := step) (kk := kk) (P := P) (old := old) (o := o) ha hne hk e (i + 1) (by omega)
  refine Ev.step (fun _ => spec_l03Tree.l3.eq_2 ..) (Ev.tt (by rw [tabL_length]; omega) (Ev.tt (by omega) ?_))
  rw [tabL_rd (show i < cellsN w h by omega), wsucc (show i < 4611686018427387904 by omega)]
  simp only [Nat.lt_irrefl, false_and, if_false]
  refine Ev.ite (fun e1 => ?_) (fun e1 => ?_)
  ·refine Ev.tt (by omega) (Ev.tt (by rw [tabL_length]; omega) ?_)
   rw [tabL_rd ha, if_neg (fun h => hne h.2), Int.toNat_natCast, tabL_set]
   rw [tabL_congr (Q := fun x => if x < i + 1 ∧ P x = old then P a else P x) (fun x hx => by
    by_cases e2 : x = i
    ·subst e2; rw [if_pos rfl, if_pos ⟨by omega, e1⟩]
    ·rw [if_neg e2]
     by_cases e3 : x < i ∧ P x = old
     ·rw [if_pos e3, if_pos ⟨by omega, e3.2⟩]
     ·rw [if_neg e3, if_neg (fun h => e3 ⟨by omega, h.2⟩)])]
   exact ih
  ·rw [tabL_congr (Q := fun x => if x < i + 1 ∧ P x = old then P a else P x) (fun x hx => by
    by_cases e3 : x < i ∧ P x = old
    ·rw [if_pos e3, if_pos ⟨by omega, e3.2⟩]
    ·rw [if_neg e3]
     by_cases e4 : x < i + 1 ∧ P x = old
     ·have : x = i := by
       by_cases e5 : x < i
       ·exact absurd ⟨e5, e4.2⟩ e3
       ·omega
      subst this
      exact absurd e4.2 e1
     ·rw [if_neg e4])]
   exact ih
theorem tree_l2 (hg : gridOk w h = true) {first step : Nat} (hf : first < 25) (hs : step < 100) : ∀ (e kk : Nat) (P : Nat → Int) (o : Nat), kk + e = gapsN w h →
  KInv (ends w h) (cellsN w h) (gapsN w h) (fun g => ∃ j, j < kk ∧ gapN (gapsN w h) first step j = g) P o →
  ∃ (P' : Nat → Int) (o' : Nat), KInv (ends w h) (cellsN w h) (gapsN w h) (fun g => ∃ j, j < gapsN w h ∧ gapN (gapsN w h) first step j = g) P' o' ∧
   Ev (fun k => spec_l03Tree.l2 k (gapsN w h : Nat) (tabL P (cellsN w h)) first step kk xs i1 h1 w h w h o) (w, h, (o' : Int), i1, h1)
 | 0, kk, P, o, he, K => by
  refine ⟨P, o, K.weak (fun g ⟨j, hj, e⟩ => ⟨j, by omega, e⟩), Ev.step (fun _ => spec_l03Tree.l2.eq_2 ..) (Ev.ff (by omega) (Ev.ret rfl))⟩
 | e + 1, kk, P, o, he, K => by
  have hgl := gapsN_le w h
  have hgc := gapsN_cast w h
  have hcl := cellsN_le w h
  have hgN : gapN (gapsN w h) first step kk < gapsN w h := Nat.mod_lt _ (by omega)
  have hkm : kk * step ≤ 24 * 100 := Nat.mul_le_mul (by omega) (by omega)
  have hgap : Int.tmod (wrap64 ((first : Int) + (wrap64 ((kk : Int) * (step : Int))))) (gapsN w h : Nat) = ((gapN (gapsN w h) first step kk : Nat) : Int) := by
   rw [show ((kk : Int) * (step : Int)) = ((kk * step : Nat) : Int) by rw [Int.natCast_mul], wrap64_id (x := ((kk * step : Nat) : Int)) (by omega) (by omega), wrap64_id (by omega) (by omega), Int.tmod_eq_emod_of_nonneg (by omega)]
   unfold gapN
   rw [Int.natCast_emod, Int.natCast_add]
  obtain ⟨f1, f2, f3⟩ := ends_facts hgN
  have hstep : ∀ {P' : Nat → Int} {o' : Nat}, KInv (ends w h) (cellsN w h) (gapsN w h) (fun j => (∃ j', j' < kk ∧ gapN (gapsN w h) first step j' = j) ∨ j = gapN (gapsN w h) first step kk) P' o' →
    KInv (ends w h) (cellsN w h) (gapsN w h) (fun g => ∃ j, j < kk + 1 ∧ gapN (gapsN w h) first step j = g) P' o' := fun K' => K'.weak (fun g ⟨j, hj, e2⟩ => by
     by_cases e3 : j < kk
     ·exact Or.inl ⟨j, e3, e2⟩
     ·have : j = kk := by omega
      subst this
      exact Or.inr e2.symm)
  by_cases he1 : P (ends w h (gapN (gapsN w h) first step kk)).1 = P (ends w h (gapN (gapsN w h) first step kk)).2
  ·obtain ⟨P', o', K', ih⟩ := tree_l2 hg hf hs e (kk + 1) P o (by omega) (hstep (K.skip (gr_grid w h) hgN he1))
   refine ⟨P', o', K', Ev.step (fun _ => spec_l03Tree.l2.eq_2 ..) (Ev.tt (by omega) (Ev.ff (by omega) ?_))⟩
   rw [hgap, wsucc (show kk < 4611686018427387904 by omega)]
   refine Ev.bnd0 ((spec_EndsOf_eq w h _).trans (congrArg some f1)) ?_
   refine Ev.tt (by omega) (Ev.tt (by rw [tabL_length]; omega) (Ev.tt (by omega) (Ev.tt (by rw [tabL_length]; omega) ?_)))
   rw [tabL_rd (by omega), tabL_rd f3]
   exact Ev.tt he1 ih
  ·obtain ⟨P', o', K', ih⟩ := tree_l2 hg hf hs e (kk + 1) _ (setB o (gapN (gapsN w h) first step kk) true) (by omega) (hstep (K.join (gr_grid w h) hgN he1))
   refine ⟨P', o', K', Ev.step (fun _ => spec_l03Tree.l2.eq_2 ..) (Ev.tt (by omega) (Ev.ff (by omega) ?_))⟩
   rw [hgap]
   refine Ev.bnd0 ((spec_EndsOf_eq w h _).trans (congrArg some f1)) ?_
   refine Ev.tt (by omega) (Ev.tt (by rw [tabL_length]; omega) (Ev.tt (by omega) (Ev.tt (by rw [tabL_length]; omega) ?_)))
   rw [tabL_rd (show (ends w h (gapN (gapsN w h) first step kk)).1 < cellsN w h by omega), tabL_rd f3]
   refine Ev.ff he1 (Ev.tt (by omega) ?_)
   have ho := open_small K.lt
   have hpw : 2 ^ gapN (gapsN w h) first step kk ≤ 2 ^ 24 := Nat.pow_le_pow_right (by decide) (by omega)
   rw [shl_pow (by omega), bits_or (by omega) (by omega), show o ||| 2 ^ gapN (gapsN w h) first step kk = setB o (gapN (gapsN w h) first step kk) true from rfl]
   have := tree_l3 (w := w) (h := h) (xs := xs) (i1 := i1) (h1 := h1) (n := gapsN w h) (first := first) (step := step) (kk := kk) (P := P) (a := (ends w h (gapN (gapsN w h) first step kk)).1) (old := P (ends w h (gapN (gapsN w h) first step kk)).2)
    (o := ((setB o (gapN (gapsN w h) first step kk) true : Nat) : Int)) (r := (w, h, (o' : Int), i1, h1)) (by omega) he1 (by rw [wsucc (show kk < 4611686018427387904 by omega)]; exact ih) (cellsN w h) 0 (by omega)
   rw [tabL_congr (Q := P) (fun x hx => if_neg (fun h => absurd h.1 (by omega)))] at this
   exact this
theorem tree_l1 (hg : gridOk w h = true) (h0 : 0 < gapsN w h) {first : Nat} (hf : first < 25) {P : Nat → Int} {o : Nat} (K : KInv (ends w h) (cellsN w h) (gapsN w h) (fun _ => False) P o) : ∀ d step : Nat, step + d = 2 * gapsN w h + 1 →
  ∃ o' : Nat, o' < 2 ^ gapsN w h ∧ perfN w h o' = true ∧ Ev (fun k => spec_l03Tree.l1 k (gapsN w h : Nat) (tabL P (cellsN w h)) first step xs i1 h1 w h w h o) (w, h, (o' : Int), i1, h1) := by
 have hgl := gapsN_le w h
 have fin : ∀ step : Nat, step < 100 → Nat.gcd step (gapsN w h) ≤ 1 → ∃ o' : Nat, o' < 2 ^ gapsN w h ∧ perfN w h o' = true ∧ Ev (fun k => spec_l03Tree.l1 k (gapsN w h : Nat) (tabL P (cellsN w h)) first step xs i1 h1 w h w h o) (w, h, (o' : Int), i1, h1) := by
  intro step hs hgcd
  obtain ⟨P', o', K', hEv⟩ := tree_l2 (xs := xs) (i1 := i1) (h1 := h1) hg hf hs (gapsN w h) 0 P o (by omega) (K.weak (fun g ⟨j, hj, _⟩ => absurd hj (by omega)))
  refine ⟨o', K'.lt, ?_, Ev.step (fun _ => spec_l03Tree.l1.eq_2 ..) (Ev.bind (spec_Common_ev (gapsN w h) step) (Ev.ff (by rw [decide_eq_true_eq]; omega) hEv))⟩
  exact K'.perfect (cells_pos hg) (fun g hgg => cover (by omega) h0 hgcd hgg) (full := 2 ^ gapsN w h - 1) (by have := Nat.two_pow_pos (gapsN w h); omega) (full_conn hg (fun g hgg => by rw [Nat.testBit_two_pow_sub_one]; simp [hgg]))
 intro d
 induction d with
 | zero =>
  intro step hst
  refine fin step (by omega) ?_
  have : Nat.gcd step (gapsN w h) = 1 := by
   rw [show step = 1 + gapsN w h * 2 by omega, Nat.gcd_add_mul_left_left, Nat.gcd_one_left]
  omega
 | succ d ih =>
  intro step hst
  by_cases hc : Nat.gcd step (gapsN w h) > 1
  ·obtain ⟨o', ho, hp, hEv⟩ := ih (step + 1) (by omega)
   refine ⟨o', ho, hp, Ev.step (fun _ => spec_l03Tree.l1.eq_2 ..) (Ev.bind (spec_Common_ev (gapsN w h) step) (Ev.tt (by rw [decide_eq_true_eq]; exact hc) ?_))⟩
   rw [wsucc (by omega)]
   exact hEv
  ·exact fin step (by omega) (by omega)
theorem tree_l0 (hg : gridOk w h = true) (hl : xs.length ≤ 1048576) (hi : 0 ≤ i1) : ∀ e i : Nat, i + e = cellsN w h →
  ∃ (o' : Nat) (i2 h2 : Int), o' < 2 ^ gapsN w h ∧ perfN w h o' = true ∧ Ev (fun k => spec_l03Tree.l0 k (gapsN w h : Nat) (tabL (fun x => if x < i then (x : Int) else 0) (cellsN w h)) i xs i1 h1 w h w h (0 : Nat)) (w, h, (o' : Int), i2, h2)
 | 0, i, he => by
  have hgl := gapsN_le w h
  have hgc := gapsN_cast w h
  have hK : KInv (ends w h) (cellsN w h) (gapsN w h) (fun _ => False) (fun x => (x : Int)) 0 := KInv.start (fun x => rfl)
  have ht : tabL (fun x => if x < i then (x : Int) else 0) (cellsN w h) = tabL (fun x => (x : Int)) (cellsN w h) := tabL_congr (fun x hx => if_pos (by omega))
  rw [ht]
  by_cases h0 : gapsN w h = 0
  ·refine ⟨0, i1, h1, Nat.two_pow_pos _, ?_, Ev.step (fun _ => spec_l03Tree.l0.eq_2 ..) (Ev.ff (by rw [tabL_length]; omega) (Ev.tt (by omega) (Ev.ret rfl)))⟩
   exact hK.perfect (cells_pos hg) (fun g hgg => absurd hgg (by omega)) (full := 0) (Nat.two_pow_pos _) (full_conn hg (fun g hgg => absurd hgg (by omega)))
  ·obtain ⟨b, i2, h2, e1, b0, b1, hi2⟩ := spec_Below_eq hl hi h1 (n := (gapsN w h : Nat)) (by omega) (by omega)
   obtain ⟨c, i3, h3, e2, c0, c1, hi3⟩ := spec_Below_eq hl hi2 h2 (n := (gapsN w h : Nat)) (by omega) (by omega)
   obtain ⟨b', rfl⟩ := Int.eq_ofNat_of_zero_le b0
   obtain ⟨c', rfl⟩ := Int.eq_ofNat_of_zero_le c0
   obtain ⟨o', ho, hp, hEv⟩ := tree_l1 (xs := xs) (i1 := i3) (h1 := h3) hg (by omega) (first := b') (by omega) hK (2 * gapsN w h - c') (1 + c') (by omega)
   refine ⟨o', i3, h3, ho, hp, Ev.step (fun _ => spec_l03Tree.l0.eq_2 ..) (Ev.ff (by rw [tabL_length]; omega) (Ev.ff (by omega) (Ev.bnd0 e1 (Ev.bnd0 e2 ?_))))⟩
   rw [show wrap64 (1 + (c' : Int)) = ((1 + c' : Nat) : Int) by rw [wrap64_id (by omega) (by omega)]; omega]
   exact hEv
 | e + 1, i, he => by
  have hcl := cellsN_le w h
  obtain ⟨o', i2, h2, ho, hp, ih⟩ := tree_l0 hg hl hi e (i + 1) (by omega)
  refine ⟨o', i2, h2, ho, hp, Ev.step (fun _ => spec_l03Tree.l0.eq_2 ..) (Ev.tt (by rw [tabL_length]; omega) (Ev.tt (by omega) ?_))⟩
  rw [wsucc (show i < 4611686018427387904 by omega), Int.toNat_natCast, tabL_set]
  rw [tabL_congr (Q := fun x => if x < i + 1 then (x : Int) else 0) (fun x hx => by
   by_cases e2 : x = i
   ·subst e2; rw [if_pos rfl, if_pos (by omega)]
   ·rw [if_neg e2]
    by_cases e3 : x < i
    ·rw [if_pos e3, if_pos (by omega)]
    ·rw [if_neg e3, if_neg (by omega)])]
  exact ih
theorem spec_Tree_ev (hg : gridOk w h = true) (hl : xs.length ≤ 1048576) (hi : 0 ≤ i1) : ∃ (o' : Nat) (i2 h2 : Int), o' < 2 ^ gapsN w h ∧ perfN w h o' = true ∧ Ev (fun k => spec_l03Tree.f k xs i1 h1 w h) (w, h, (o' : Int), i2, h2) := by
 have hgc := gapsN_cast w h
 have hcc := cellsN_cast w h
 have hcl := cellsN_le w h
 obtain ⟨o', i2, h2, ho, hp, hEv⟩ := tree_l0 (h1 := h1) hg hl hi (cellsN w h) 0 (by omega)
 refine ⟨o', i2, h2, ho, hp, ?_⟩
 unfold spec_l03Tree.f
 refine Ev.bnd0 (spec_CountGaps_eq ..) (Ev.bnd0 (spec_CountCells_eq ..) (Ev.tt (by omega) (Ev.tt (by omega) ?_)))
 rw [← hgc, show (cellsOf w h).toNat = cellsN w h from rfl]
 rw [show List.replicate (cellsN w h) (0 : Int) = tabL (fun x => if x < 0 then (x : Int) else 0) (cellsN w h) by
  refine List.ext_getElem (by simp [tabL]) fun j hj1 hj2 => ?_
  simp [tabL]]
 exact hEv
end
end Go.Proofs.Ytoohcdfokejkdaa.P
namespace Go.Proofs.Ytoohcdfokejkdaa.P
open Go.RowKit Go.Proofs.YtoohcdfokejkdaaW.PrintWords
set_option linter.unusedVariables false
set_option linter.unusedSimpArgs false

theorem at_eq {l : List Int} (hl : l.length ≤ 1048576) (hz : ∀ x ∈ l, 0 ≤ x ∧ x ≤ 255) {a : Int} (h0 : 0 ≤ a) (h1 : a ≤ 9) : ∃ v, laws_at.f l a = some v ∧ 0 ≤ v ∧ v ≤ 255 := by
 unfold laws_at.f
 by_cases e : (l.length : Int) = 0
 ·exact ⟨0, if_pos e, by omega, by omega⟩
 ·rw [if_neg e, wrap64_id (x := a * 5) (by omega) (by omega), wrap64_id (x := a * 5 + 1) (by omega) (by omega)]
  have t0 : 0 ≤ Int.tmod (a * 5 + 1) (l.length : Int) := Int.tmod_nonneg _ (by omega)
  have t1 : Int.tmod (a * 5 + 1) (l.length : Int) < (l.length : Int) := Int.tmod_lt_of_pos _ (by omega)
  rw [if_pos t0, if_pos t1]
  obtain ⟨i, hi⟩ := Int.eq_ofNat_of_zero_le t0
  rw [hi] at t1 ⊢
  have hm := hz _ (List.getElem_mem (show i < l.length by omega))
  refine ⟨_, rfl, ?_⟩
  show 0 ≤ wrap64 (rd l (i : Int)) ∧ wrap64 (rd l (i : Int)) ≤ 255
  rw [rd_get (show i < l.length by omega), wrap64_id (by omega) (by omega)]
  exact hm
end Go.Proofs.Ytoohcdfokejkdaa.P
namespace Go.Proofs.Ytoohcdfokejkdaa.P
open Go.RowKit Go.Proofs.YtoohcdfokejkdaaW.PrintWords Go.Proofs.Ytoohcdfokejkdaa.Sup
set_option linter.unusedVariables false
set_option linter.unusedSimpArgs false

theorem sumAbs_erase : ∀ (l : List Int) (k : Nat), sumAbs (l.eraseIdx k) ≤ sumAbs l
 | [], k => by simp
 | x :: t, 0 => by rw [List.eraseIdx_cons_zero, sumAbs_cons]; omega
 | x :: t, k + 1 => by
  rw [List.eraseIdx_cons_succ, sumAbs_cons, sumAbs_cons]
  have := sumAbs_erase t k
  omega
theorem dl_get {v r : Nat} {D : Nat → Int} (h : r < (dlist v D).length) : (dlist v D)[r] = D r := by simp [dlist]
theorem dlist_erase {V k : Nat} (hk : k < V) (D : Nat → Int) : (dlist V D).eraseIdx k = dlist (V - 1) fun j => D (if j < k then j else j + 1) := by
 refine List.ext_getElem ?_ fun r h1 h2 => ?_
 ·rw [List.length_eraseIdx, dlist_length, dlist_length, if_pos hk]
 ·have e2 := dl_get h2
  rw [e2, List.getElem_eraseIdx]
  split
  ·rename_i h
   rw [dl_get]
  ·rename_i h
   rw [dl_get]
theorem minor_mat {V k : Nat} (hk : k < V) (f : Nat → Nat → Int) : minorL (mat V V f) k = mat (V - 1) (V - 1) fun i j => f (if i < k then i else i + 1) (if j < k then j else j + 1) := by
 unfold minorL
 refine List.ext_getElem ?_ fun r h1 h2 => ?_
 ·rw [List.length_map, List.length_eraseIdx, mat_len, mat_len, if_pos hk]
 ·rw [List.getElem_map, List.getElem_eraseIdx, mat_get h2]
  split
  ·rename_i h
   rw [mat_get, dlist_erase hk]
  ·rename_i h
   rw [mat_get, dlist_erase hk]
theorem filter_cnt (p : Nat → Bool) : ∀ N : Nat, ((List.range N).filter p).length = cnt p N
 | 0 => rfl
 | N + 1 => by
  rw [List.range_succ, List.filter_append, List.length_append, filter_cnt p N]
  simp only [cnt, List.filter_cons, List.filter_nil]
  cases p N <;> rfl
theorem cnt_tail (q : Nat → Bool) (M : Nat) : ∀ d : Nat, (∀ i, M ≤ i → i < M + d → q i = false) → cnt q (M + d) = cnt q M
 | 0, _ => rfl
 | d + 1, h => by
  rw [← Nat.add_assoc]
  simp only [cnt]
  rw [h (M + d) (by omega) (by omega), cnt_tail q M d fun i h1 h2 => h i h1 (by omega)]
  rfl
section
variable {w h : Int} {n : Nat} (hg : gridOk w h = true) (hn : n < 2 ^ gapsN w h)
include hn in
theorem trees_len : (treesW w h n).length = ctN w h n := by
 unfold treesW treesS ctN totN trees
 rw [filter_cnt]
 obtain ⟨d, hd⟩ : ∃ d, 2 ^ gapsN w h = (n + 1) + d := ⟨2 ^ gapsN w h - (n + 1), by omega⟩
 have key : ∀ s, (sup (gapsN w h) 0 (cpl w h n) s) = subL n (gapsN w h) s := by
  intro s
  rw [Bool.eq_iff_iff, sup_iff, subL_iff]
  constructor
  ·intro h1 i hi hs
   have := (h1 i hi).2
   rw [cpl_bit hi] at this
   cases hb : n.testBit i with
   | true => rfl
   | false => rw [hb] at this; rw [this rfl] at hs; cases hs
  ·intro h1 i hi
   refine ⟨fun q => by simp at q, fun q => ?_⟩
   rw [cpl_bit hi] at q
   cases hs : s.testBit i with
   | false => rfl
   | true => rw [h1 i hi hs] at q; cases q
 have e1 := cnt_tail (fun t => sup (gapsN w h) 0 (cpl w h n) t && perf (ends w h) (cellsN w h) (gapsN w h) t) (n + 1) d (fun s h1 h2 => by
  show (sup (gapsN w h) 0 (cpl w h n) s && _) = false
  rw [key]
  cases hs : subL n (gapsN w h) s with
  | false => rfl
  | true =>
   have := sub_le (show s < 2 ^ gapsN w h by omega) hs
   omega)
 rw [hd, e1]
 exact cnt_congr fun s _ => by
  show (subL n (gapsN w h) s && _) = (sup (gapsN w h) 0 (cpl w h n) s && _)
  rw [key]
include hg hn in
theorem minor_square {k : Nat} (hk : k < cellsN w h) : squareOk (minorL (lapN w h n) k) = true := by
 have hsq := lap_square hg hn
 have h16 := cellsN_le w h
 have hlen : (minorL (lapN w h n) k).length = cellsN w h - 1 := by
  unfold minorL
  rw [List.length_map, List.length_eraseIdx, lapN_len, if_pos hk]
 unfold squareOk at hsq ⊢
 rw [Bool.and_eq_true, decide_eq_true_eq, List.all_eq_true] at hsq ⊢
 refine ⟨by omega, fun row hr => ?_⟩
 rw [hlen]
 unfold minorL at hr
 obtain ⟨a, ha, rfl⟩ := List.mem_map.1 hr
 have := hsq.2 a (List.mem_of_mem_eraseIdx ha)
 rw [lapN_len] at this
 unfold rowOk at this ⊢
 simp only [Bool.and_eq_true, decide_eq_true_eq, List.all_eq_true] at this ⊢
 obtain ⟨⟨a1, a2⟩, a3⟩ := this
 refine ⟨⟨?_, fun x hx => a2 x (List.mem_of_mem_eraseIdx hx)⟩, ?_⟩
 ·rw [List.length_eraseIdx, a1, if_pos hk]
 ·have := sumAbs_erase a k
  omega
include hg hn in
theorem minor_det {k : Nat} (hk : k < cellsN w h) : detI (minorL (lapN w h n) k) = (ctN w h n : Int) := by
 have hlen : (minorL (lapN w h n) k).length = cellsN w h - 1 := by
  unfold minorL
  rw [List.length_map, List.length_eraseIdx, lapN_len, if_pos hk]
 have ht := trees_lpl (b := cpl w h n) (k := k) (gr_grid w h) hk (cpl_lt w h n)
 have hle := totN_le w h 0 (cpl w h n)
 have e : dt (cellsN w h - 1) (ent (minorL (lapN w h n) k)) = dt (cellsN w h - 1) (er k (ec k (lpl (ends w h) (gapsN w h) (cpl w h n)))) := by
  refine dt_congr fun i j hi hj => ?_
  unfold lapN
  rw [minor_mat hk]
  unfold ent
  rw [rd_mat hi, rd_dlist hj]
  have hp : ∀ a b, pm (ends w h) (gapsN w h) id n.testBit a b = lpl (ends w h) (gapsN w h) (cpl w h n) a b := by
   intro a b
   unfold lpl pm
   refine sumTo_congr fun g hg' => ?_
   rw [cpl_und hg']
  rw [hp]
  unfold er ec
  by_cases q1 : i < k <;> by_cases q2 : j < k <;> simp [q1, q2]
 unfold detI
 rw [if_pos (minor_square hg hn hk), Ds_full, hlen, e, ← ht]
 unfold ctN totN
 unfold totN at hle
 exact wrap64_id (by omega) (by omega)
theorem tot_pos2 (hg : gridOk w h = true) : 0 < totN w h 0 0 := by
 obtain ⟨o, _, _, h1, h2, _⟩ := spec_Tree_ev (xs := []) (i1 := 0) (h1 := 0) hg (by simp) (by omega)
 exact trees_pos h1 (sup_iff.2 fun i _ => ⟨fun q => by simp at q, fun q => by simp at q⟩) h2
theorem cpl_full (w h : Int) : cpl w h (fullN w h) = 0 := by
 refine Nat.eq_of_testBit_eq fun i => ?_
 unfold cpl fullN
 rw [testBit_andNot, Nat.zero_testBit]
 cases (2 ^ gapsN w h - 1).testBit i <;> rfl
end
section
variable {w h w2 h2 : Int} {n m c : Nat} (hg : gridOk w h = true) (hn : n < 2 ^ gapsN w h) (hg2 : gridOk w2 h2 = true) (hm : m < 2 ^ gapsN w2 h2) (hc : c < cellsN w h)
include hg hn hg2 hm hc
theorem tc_l0 : ∀ d i : Nat, i + d = (treesW w2 h2 m).length → Ev (fun k => laws_FnTreeCounts.l0 k c ((treesW w2 h2 m).map (mkM w2 h2)) i w h n w2 h2 m) true
 | 0, i, hd => by
  have hV := cells_pos hg
  have h16 := cellsN_le w h
  have hms := open_small hn
  refine Ev.step (fun _ => laws_FnTreeCounts.l0.eq_2 ..) (Ev.ff (by rw [List.length_map]; omega) ?_)
  have hct := impl_CountTrees_ev w h n
  rw [ctI_nat hg hn] at hct
  have hct2 := impl_CountTrees_ev w2 h2 m
  rw [ctI_nat hg2 hm] at hct2
  have hcf := impl_CountTrees_ev w h (fullN w h : Nat)
  rw [ctI_nat hg (fullN_lt w h)] at hcf
  have hlap := impl_LaplaceOf_ev w h n
  rw [show lapI w h n = lapN w h n by unfold lapI; rw [if_pos (mazeOk_nat hg hn), Int.toNat_natCast]] at hlap
  have hwr := impl_WithoutRow_ev (lapN w h n) (by rw [lapN_len]; omega) (c : Int)
  rw [show withoutI (lapN w h n) (c : Int) = minorL (lapN w h n) c by unfold withoutI; rw [if_pos ⟨lap_square hg hn, by omega, by rw [lapN_len]; omega⟩, Int.toNat_natCast]] at hwr
  have hdet := impl_Determinant_ev (minorL (lapN w h n) c) (by
   unfold minorL
   rw [List.length_map]
   have := List.length_eraseIdx_le (lapN w h n) c
   rw [lapN_len] at this
   omega)
  rw [minor_det hg hn hc] at hdet
  have hfix := impl_CountFixed_ev w h 0 (cpl w h n)
  rw [show (0 : Int) = ((0 : Nat) : Int) from rfl, cfI_nat hg (Nat.two_pow_pos _) (cpl_lt w h n) (fun i hi => by simp at hi)] at hfix
  have hpos := tot_pos2 hg
  have hfull : 1 ≤ ctN w h (fullN w h) := by unfold ctN; rw [cpl_full]; omega
  have hfl := open_small (fullN_lt w h)
  refine Ev.bnd0 (impl_FullMaze_eq hg) (Ev.bind hcf (Ev.tt (by omega) (Ev.bind hlap (Ev.bind hwr (Ev.bind hdet (Ev.bind hct (Ev.tt rfl (Ev.bind hct2 (Ev.tt ?_ ?_)))))))))
  ·rw [List.length_map, trees_len hm]
  ·simp only []
   rw [bits_andNot (by omega) (by omega)]
   refine Ev.bind hfix (Ev.bind hct (Ev.ret ?_))
   unfold ctN
   simp
 | d + 1, i, hd => by
  have hi : i < (treesW w2 h2 m).length := by omega
  have hms := open_small hm
  have hlen := treesW_len hm
  obtain ⟨t1, t2, t3⟩ := treesS_mem.1 (List.getElem_mem hi : (treesW w2 h2 m)[i] ∈ treesS (ends w2 h2) (cellsN w2 h2) (gapsN w2 h2) m)
  have htl : (treesW w2 h2 m)[i] < 2 ^ gapsN w2 h2 := by omega
  have ih := tc_l0 d (i + 1) (by omega)
  refine Ev.step (fun _ => laws_FnTreeCounts.l0.eq_2 ..) (Ev.tt (by rw [List.length_map]; omega) (Ev.tt (by omega) ?_))
  rw [rd_mk hi, wsucc (by omega)]
  have hpf := impl_IsPerfect_ev hg2 htl
  rw [show perfN w2 h2 (treesW w2 h2 m)[i] = true from t3] at hpf
  refine Ev.bind hpf (Ev.tt rfl (Ev.tt ?_ (Ev.ite (fun hp => ?_) (fun _ => ih))))
  ·show Go.bits .andNot .i64 (((treesW w2 h2 m)[i] : Nat) : Int) m = 0
   rw [bits_andNot (by omega) (by omega)]
   have : andNot (treesW w2 h2 m)[i] m = 0 := by
    refine Nat.eq_of_testBit_eq fun j => ?_
    rw [testBit_andNot, Nat.zero_testBit]
    cases hb : (treesW w2 h2 m)[i].testBit j with
    | false => rfl
    | true => rw [t2 j (lt_of_testBit htl hb) hb]; rfl
   omega
  ·rw [wrap64_id (x := (i : Int) - 1) (by omega) (by omega)]
   refine Ev.tt (by omega) (Ev.tt (by rw [List.length_map]; omega) ?_)
   rw [show (i : Int) - 1 = ((i - 1 : Nat) : Int) by omega, rd_mk (show i - 1 < (treesW w2 h2 m).length by omega)]
   have hs : (treesW w2 h2 m).Pairwise (· < ·) := List.Pairwise.filter _ List.pairwise_lt_range
   have := List.pairwise_iff_getElem.1 hs (i - 1) i (by omega) hi (by omega)
   refine Ev.ff ?_ ih
   show ¬ ((((treesW w2 h2 m)[i] : Nat) : Int) ≤ (((treesW w2 h2 m)[i - 1] : Nat) : Int))
   omega
end
theorem FnTreeCounts_pure (l : List Int) (hy : l.length ≤ 140737488351232) (hz : ∀ x ∈ l, 0 ≤ x ∧ x ≤ 255) : ∃ k, laws_FnTreeCounts.f k l = some true := by
 refine Ev.rounds ?_
 unfold laws_FnTreeCounts.f
 refine Ev.bnd0 rfl (Ev.ite (fun _ => Ev.ret rfl) (fun hb => ?_))
 have hl : l.length ≤ 1048576 := by simp only [decide_eq_true_eq] at hb; omega
 obtain ⟨w, h, n, hg, hn, ed⟩ := spec_DrawOpen_ev hl
 obtain ⟨w2, h2, m, hg2, hm, h12, es⟩ := spec_DrawSmall_ev hl
 obtain ⟨v, ev, v0, v1⟩ := at_eq hl hz (a := 0) (by omega) (by omega)
 have hV := cells_pos hg
 have hVc := cellsN_cast w h
 refine Ev.bind ed (Ev.bind es (Ev.bnd0 ev (Ev.bnd0 (spec_CountCells_eq w h) (Ev.ff (by omega) (Ev.bind (impl_ListTreesW_ev hg2 hm h12) ?_)))))
 have c0 := Int.tmod_nonneg (cellsOf w h) v0
 have c1 := Int.tmod_lt_of_pos v (show 0 < cellsOf w h by omega)
 obtain ⟨c, hc⟩ := Int.eq_ofNat_of_zero_le c0
 simp only []
 rw [hc]
 exact tc_l0 hg hn hg2 hm (show c < cellsN w h by omega) (treesW w2 h2 m).length 0 (by omega)
end Go.Proofs.Ytoohcdfokejkdaa.P
namespace Go.Proofs.Ytoohcdfokejkdaa.fnTreeCounts
open Go.ChangeShapes Go.WideShapes Go.ChangeAt Go.RowKit Go.Proofs.YtoohcdfokejkdaaW.PrintWords Go.Proofs.Ytoohcdfokejkdaa.Sup
open Go.ChangeMaps (open_string shut_string)
set_option linter.unusedVariables false
theorem own : ownKnob Try.prog.godebug = none := by kernel_rfl
theorem laidOut : laidOutB Try.prog = true := by kernel_rfl
set_option maxRecDepth 100000 in
theorem lifted (os : Os) (started : os.Started) (H : Type) (enc : TypeId × Value → H) :
    ReturnsInHanded {} Try.checked os 12 .any (Rows.fnTreeCountsSpec.pre6 enc Try.prog Try.f12 Rows.fnTreeCountsRow.domain false) (Rows.fnTreeCountsSpec.post enc Try.prog Try.f12 false true false false) := by
  refine returnsInHanded_of_change_sized (C := Try.checked) own started (by kernel_rfl) Try.func12
    (ChangeSpec.witness6 (enc := enc) (C := Try.checked) false ⟨#[], #[.slice none 0 0], []⟩ 8 (by kernel_rfl) (by kernel_rfl) (by kernel_rfl) (by kernel_rfl)) ?_
  intro W base args ds gs before hval0 hW hcnd hsz0 _
  have hsz : (DataW.weightsEach Try.prog (Try.f12.params.toList ++ Rows.fnTreeCountsSpec.plain.varTypes Try.prog) (ds ++ gs)).all (· ≤ reachBytes) = true := hsz0
  have hval : ∀ (j : Nat) t v, Try.f12.params[j]? = some t → args[j]? = some v → Value.okWide Try.prog W .any base t v := hval0
  have hW' := hW
  obtain ⟨p, q, hA0, hV, rfl, hfz, hnd⟩ := hW
  have hA : DataW.TrodAll enc Try.prog W 0 (fun _ => true) true Try.f12.params.toList args.toList ds p := hA0
  rw [Try.params12] at hA hval hsz
  obtain ⟨v0, vs0, d0, ds0, p0, q0, hargs, rfl, rfl, h0, r0⟩ := trodAll_cons hA
  obtain ⟨rfl, rfl, rfl⟩ := trodAll_nil r0
  obtain rfl : args = #[v0] := by cases args; simp_all
  obtain ⟨rfl, rfl⟩ := trodVars_none hV
  obtain ⟨a0, len0, cap0, rfl⟩ := okWide_slice Try.underlying22 (hval 0 22 v0 rfl rfl)
  have k0 := h0
  have lt0 : ∀ x ∈ p0, x.block < W.heap.size := by obtain ⟨m, hm⟩ := k0; exact DataW.trod_lt m _ _ _ hm
  obtain ⟨z0, w0⟩ : ∃ zs, IsRow .u8 W a0 len0 cap0 zs := by
    obtain ⟨fuel, hf⟩ := h0
    rcases open_ints Try.underlying22 Try.underlying5 (by kernel_rfl) hf with ⟨hcs, _⟩ | ⟨x, l, c, zs, hcs, _, hl, hm, hz, _, hcell, hwz⟩
    · simp [Value.cells] at hcs
      obtain ⟨rfl, rfl, rfl⟩ := hcs
      exact ⟨[], .inl ⟨rfl, rfl, rfl, rfl⟩⟩
    · simp [Value.cells] at hcs
      obtain ⟨rfl, rfl, rfl⟩ := hcs
      exact ⟨zs, .inr ⟨_, rfl, hl, hm, by simpa using hz, hcell, hwz⟩⟩
  have y0 : len0 * 1 ≤ 140737488351232 := sized_ints hsz (j := 0) (t := 22) rfl rfl Try.underlying22 Try.underlying5 (by kernel_rfl) (by kernel_rfl) h0
  obtain ⟨l0, rfl, hr0, hm0, hw0, hc0⟩ := ReadsInt.ofRowC w0
  clear hA0 hval0 hsz0 hsz
  obtain ⟨k, hf⟩ := P.FnTreeCounts_pure l0 (by omega) (fun x hx => u8_of_wf (hw0 x hx))
  refine (P.laws_FnTreeCounts.calls k _ _ l0 true W (Kd.C_of_reads (d := (0 : Int)) (h1 := fun _ => rfl) hr0) hc0 hf).mono fun e W' ⟨he, bel0⟩ => ?_
  have bel : Below W.heap.size W W' := bel0
  subst he
  exact ⟨_, rfl, _, _, _, [], _, [], hW', trodAll_mk1 (shut_bool Try.underlying4 _), (trodAll_cons_mk (Below.trod laidOut (by kernel_rfl) (of_decide_eq_true (by kernel_rfl)) k0 bel lt0) trodAll_mk0), rfl, bel.frame _, fun h => by cases h⟩
theorem over : Rows.fnTreeCountsRow.holds Try.pinned (OpenSpec.ofChange Rows.fnTreeCountsSpec) :=
  OpenClaim.holds_of_wide 12 Try.f12 rfl rfl rfl rfl rfl rfl rfl ⟨rfl, rfl, rfl, rfl, rfl⟩ rfl rfl rfl rfl rfl (by kernel_rfl) Try.func12 (by kernel_rfl)
    (of_decide_eq_true (by kernel_rfl)) (by unfold Func.isWrapper; first | (rw [if_pos (by decide +kernel)]; kernel_rfl) | (rw [if_neg (by decide +kernel)]; exact ⟨rfl, rfl⟩))
    (fun os started H enc _ => lifted os started H enc)
theorem proved : Rows.FnTreeCountsSaid := over
end Go.Proofs.Ytoohcdfokejkdaa.fnTreeCounts
namespace Go.Proofs.Ytoohcdfokejkdaa
/-- The row, under a short name, for the claim. -/
theorem fnTreeCounts_holds : Rows.FnTreeCountsSaid := fnTreeCounts.proved
#print axioms fnTreeCounts_holds
end Go.Proofs.Ytoohcdfokejkdaa
