/- The statement FnExactDivideMaze of the seat, out of its plain form (FnExactDivideMaze_pure) and the walk of its Go function. Part 4 of 4: each Go function's walk, then the plain lemmas, then the row. No condition: it holds for every input. -/
import Derived.Test.YtbeajmcjfhbcjaaBFnExactDivideMaze3
import Derived.Test.YtbeajmcjfhbcjaaRows
import Derived.Below
import Derived.ChangeOld
import Derived.Deep.Matrix
import Derived.Lib.SmallJoins
import Derived.OpenShut
import Derived.ProofKit
import Derived.ShutString
import Derived.SizedLaws
import Derived.WalkKit
namespace Go.Proofs.Ytbeajmcjfhbcjaa.Sup
open Go.ChangeShapes Go.WideShapes Go.ChangeAt Go.RowKit Go.Joins Go.Proofs.YtbeajmcjfhbcjaaW.PrintWords
set_option linter.unusedVariables false
set_option linter.unusedSimpArgs false

def InR (a : Int) : Prop := -9223372036854775808 ≤ a ∧ a ≤ 9223372036854775807
theorem inR_of_wf {a : Int} (h : (Lit.int .i64 a).wf = true) : InR a := by
 simp only [Lit.wf, IntKind.min, IntKind.max, IntKind.signed, IntKind.bits, Bool.and_eq_true, decide_eq_true_eq, if_true] at h
 unfold InR
 omega
section
variable {H : Type} {enc : TypeId × Value → H} {P : Program} {w : World} {base : Nat} {spare : Nat → Bool} {held : Bool}

theorem open2 {r : Reach} {b0 : Nat} {t : TypeId} {f0 f1 : Field} {v : Value} {d : DataW H} {p : List MemPlace} (hs : P.underlying t = some (.struct #[f0, f1])) (h0 : P.underlying f0.type = some (.int .i64)) (h1 : P.underlying f1.type = some (.int .i64))
  (o0 : f0.offset = 0) (o1 : f1.offset = 1) (c0 : P.cellsOf f0.type = 1) (c1 : P.cellsOf f1.type = 1) (hC : P.cellsOf t = 2)
  (hv : Value.okWide P w r b0 t v) (h : DataW.Trod enc P w base spare held t v d p) :
  ∃ a b : Int, v = .agg #[.int .i64 a, .int .i64 b] ∧ InR a ∧ InR b := by
 obtain ⟨cs, rfl, hsz⟩ := okWide_struct hs hv
 obtain ⟨x0, x1, rfl⟩ := array2 (hsz.trans hC)
 obtain ⟨fuel, hf⟩ := h
 obtain ⟨y0, y1, n, hx, _, g0, g1⟩ := trod_struct2 hs hf
 simp only [Value.cells, o0, o1, c0, c1, List.drop_zero, List.take_succ_cons, List.take_zero, List.drop_succ_cons] at g0 g1
 obtain ⟨a, e0, _, w0⟩ := DataW.trod_int h0 g0
 obtain ⟨b, e1, _, w1⟩ := DataW.trod_int h1 g1
 simp at e0 e1
 subst e0 e1
 exact ⟨a, b, rfl, inR_of_wf w0, inR_of_wf w1⟩

end

def IsRow (k : IntKind) (w : World) (a : Option Addr) (len cap : Nat) (zs : List Int) : Prop :=
 (a = none ∧ len = 0 ∧ cap = 0 ∧ zs = []) ∨
 ∃ x, a = some x ∧ len ≤ cap ∧ cap ≤ maxLen ∧ zs.length = cap ∧ (∀ i, i < zs.length → w.cell? (x.add i) = some (.int k (zs.getD i 0))) ∧ ∀ n ∈ zs, (Lit.int k n).wf = true

end Go.Proofs.Ytbeajmcjfhbcjaa.Sup
namespace Go.Proofs.Ytbeajmcjfhbcjaa.P
open Go.RowKit Go.Proofs.YtbeajmcjfhbcjaaW.PrintWords
set_option linter.unusedVariables false
set_option linter.unusedSimpArgs false

theorem l01In_eq (a b c : Int) : spec_l01In.f a b c = some (decide (b ≤ a ∧ a ≤ c)) := by
 unfold spec_l01In.f
 by_cases h : a ≥ b
 ·rw [if_pos h]; congr 1; simp; omega
 ·rw [if_neg h]; congr 1; simp; omega

end Go.Proofs.Ytbeajmcjfhbcjaa.P
namespace Go.Proofs.Ytbeajmcjfhbcjaa.P
open Go.RowKit Go.Proofs.YtbeajmcjfhbcjaaW.PrintWords Go.Proofs.Ytbeajmcjfhbcjaa.Sup
set_option linter.unusedVariables false
set_option linter.unusedSimpArgs false

theorem spec_GridOk_eq (w h : Int) : spec_GridOk.f w h = some (gridOk w h) := by
 unfold spec_GridOk.f
 simp only [l01In_eq, Option.bind_some]
 unfold gridOk
 by_cases h1 : 1 ≤ w ∧ w ≤ 4
 ·simp only [h1, and_self, decide_true, if_true, true_and]
 ·have : ¬ (1 ≤ w ∧ w ≤ 4 ∧ 1 ≤ h ∧ h ≤ 4) := by omega
  rw [decide_eq_false h1, decide_eq_false this]; simp
theorem impl_GridOk_eq (w h : Int) : impl_GridOk.f w h = some (gridOk w h) := by
 unfold impl_GridOk.f gridOk
 repeat' split
 all_goals congr 1
 all_goals first | (rw [decide_eq_decide]; omega) | (symm; rw [decide_eq_false_iff_not]; omega)

theorem impl_CountCells_eq (w h : Int) : impl_CountCells.f w h = some (cellsOf w h) := by
 unfold impl_CountCells.f
 rw [impl_GridOk_eq, Option.bind_some]
 have := cellsOf_range w h
 unfold cellsOf at *
 by_cases hg : gridOk w h = true
 ·rw [if_pos hg] at *
  rw [if_pos hg, wrap64_id (by omega) (by omega)]
 ·rw [if_neg hg, if_neg hg]
theorem spec_CountCells_eq (w h : Int) : spec_CountCells.f w h = some (cellsOf w h) := by
 unfold spec_CountCells.f
 rw [spec_GridOk_eq, Option.bind_some]
 have := cellsOf_range w h
 unfold cellsOf at *
 by_cases hg : gridOk w h = true
 ·rw [if_pos hg] at *
  rw [if_pos hg, wrap64_id (by omega) (by omega)]
 ·rw [if_neg hg, if_neg hg]
theorem impl_CountGaps_eq (w h : Int) : impl_CountGaps.f w h = some (gapsOf w h) := by
 unfold impl_CountGaps.f
 rw [impl_GridOk_eq, Option.bind_some]
 unfold gapsOf
 by_cases hg : gridOk w h = true
 ·rw [if_pos hg, if_pos hg]
  obtain ⟨h1 | h1 | h1 | h1, h2 | h2 | h2 | h2⟩ := grid_cases hg <;> subst h1 <;> subst h2 <;> simp [wrap64, eastOf]
 ·rw [if_neg hg, if_neg hg]
theorem spec_l02East_eq {w h : Int} (hg : gridOk w h = true) : spec_l02East.f w h = some (eastOf w h) := by
 unfold spec_l02East.f eastOf
 obtain ⟨h1 | h1 | h1 | h1, h2 | h2 | h2 | h2⟩ := grid_cases hg <;> subst h1 <;> subst h2 <;> simp [wrap64, eastOf]
theorem spec_CountGaps_eq (w h : Int) : spec_CountGaps.f w h = some (gapsOf w h) := by
 unfold spec_CountGaps.f
 rw [spec_GridOk_eq, Option.bind_some]
 unfold gapsOf
 by_cases hg : gridOk w h = true
 ·rw [if_pos hg, if_pos hg, spec_l02East_eq hg, Option.bind_some]
  obtain ⟨h1 | h1 | h1 | h1, h2 | h2 | h2 | h2⟩ := grid_cases hg <;> subst h1 <;> subst h2 <;> simp [wrap64, eastOf]
 ·rw [if_neg hg, if_neg hg]

theorem shl_one {n : Int} (h0 : 0 ≤ n) (h1 : n ≤ 24) : shl .i64 1 n = 2 ^ n.toNat := by
 obtain ⟨m, rfl⟩ := Int.eq_ofNat_of_zero_le h0
 have : m ≤ 24 := by omega
 clear h0 h1
 revert m
 decide +kernel
end Go.Proofs.Ytbeajmcjfhbcjaa.P
namespace Go.Proofs.Ytbeajmcjfhbcjaa.P
open Go.RowKit Go.Proofs.YtbeajmcjfhbcjaaW.PrintWords
set_option linter.unusedVariables false
set_option linter.unusedSimpArgs false

theorem impl_isCell_eq (w h c : Int) : impl_isCell.f w h c = some (isCellI w h c) := by
 unfold impl_isCell.f isCellI
 rw [impl_CountCells_eq]
 by_cases hc : c ≥ 0
 ·rw [if_pos hc, Option.bind_some]; congr 1; rw [decide_eq_decide]; omega
 ·rw [if_neg hc]; congr 1; symm; rw [decide_eq_false_iff_not]; omega
theorem impl_Neighbor_ev (w h c d : Int) : Ev (fun k => impl_Neighbor.f k w h c d) (nbI w h c d) := by
 unfold impl_Neighbor.f nbI
 refine Ev.bnd0 (impl_isCell_eq w h c) ?_
 unfold isCellI
 by_cases hc : 0 ≤ c ∧ c < cellsOf w h
 ·rw [if_pos hc]
  obtain ⟨hg, hcw⟩ := cellsOf_valid hc.1 hc.2
  have hcr := cellsOf_range w h
  have hgr := gridOk_iff.1 hg
  refine Ev.tt (by simpa using hc) (Ev.ff (by omega) ?_)
  have hx0 : 0 ≤ c % w := Int.emod_nonneg _ (by omega)
  have hx1 : c % w < w := Int.emod_lt_of_pos _ (by omega)
  have hy0 : 0 ≤ c / w := Int.ediv_nonneg hc.1 (by omega)
  have hy1 : c / w ≤ c := Int.ediv_le_self _ hc.1
  rw [Int.tmod_eq_emod_of_nonneg hc.1, Int.tdiv_eq_ediv_of_nonneg hc.1, wrap64_id (x := c / w) (by omega) (by omega)]
  generalize c % w = x at *
  generalize c / w = y at *
  have j2 : ∀ b : Bool, (d ≠ 0 ∨ ¬ 0 < y) → (d ≠ 1 ∨ ¬ x < w - 1) → (b = true ↔ d = 2 ∧ y < h - 1) → Ev (fun k => impl_Neighbor.j2 k c d x b w h) (if d = 2 ∧ y < h - 1 then c + w else if d = 3 ∧ 0 < x then c - 1 else -1) := by
   intro b _ _ hb
   refine Ev.step (fun _ => impl_Neighbor.j2.eq_2 ..) ?_
   refine Ev.ite (fun e => ?_) (fun e => ?_)
   ·rw [if_pos (hb.1 e), wrap64_id (by omega) (by omega)]; exact Ev.ret rfl
   ·rw [if_neg (fun h => e (hb.2 h))]
    refine Ev.ite (fun e3 => Ev.ite (fun e4 => ?_) (fun e4 => ?_)) (fun e3 => ?_)
    ·rw [if_pos ⟨e3, e4⟩, wrap64_id (by omega) (by omega)]; exact Ev.ret rfl
    ·rw [if_neg (fun h => e4 h.2)]; exact Ev.ret rfl
    ·rw [if_neg (fun h => e3 h.1)]; exact Ev.ret rfl
  have j1 : ∀ b : Bool, (d ≠ 0 ∨ ¬ 0 < y) → (b = true ↔ d = 1 ∧ x < w - 1) → Ev (fun k => impl_Neighbor.j1 k c d x y b w h) (if d = 1 ∧ x < w - 1 then c + 1 else if d = 2 ∧ y < h - 1 then c + w else if d = 3 ∧ 0 < x then c - 1 else -1) := by
   intro b h0 hb
   refine Ev.step (fun _ => impl_Neighbor.j1.eq_2 ..) ?_
   refine Ev.ite (fun e => ?_) (fun e => ?_)
   ·rw [if_pos (hb.1 e), wrap64_id (by omega) (by omega)]; exact Ev.ret rfl
   ·have hn : ¬ (d = 1 ∧ x < w - 1) := fun h => e (hb.2 h)
    rw [if_neg hn]
    refine Ev.ite (fun e2 => ?_) (fun e2 => ?_)
    ·refine j2 _ h0 (by omega) ?_
     rw [wrap64_id (by omega) (by omega)]
     simp [e2]
    ·exact j2 _ h0 (by omega) (by simp [e2])
  have j0 : ∀ b : Bool, (b = true ↔ d = 0 ∧ 0 < y) → Ev (fun k => impl_Neighbor.j0 k c d x y b w h) (if d = 0 ∧ 0 < y then c - w else if d = 1 ∧ x < w - 1 then c + 1 else if d = 2 ∧ y < h - 1 then c + w else if d = 3 ∧ 0 < x then c - 1 else -1) := by
   intro b hb
   refine Ev.step (fun _ => impl_Neighbor.j0.eq_2 ..) ?_
   refine Ev.ite (fun e => ?_) (fun e => ?_)
   ·rw [if_pos (hb.1 e), wrap64_id (by omega) (by omega)]; exact Ev.ret rfl
   ·have hn : ¬ (d = 0 ∧ 0 < y) := fun h => e (hb.2 h)
    rw [if_neg hn]
    refine Ev.ite (fun e2 => ?_) (fun e2 => ?_)
    ·refine j1 _ (by omega) ?_
     rw [wrap64_id (by omega) (by omega)]
     simp [e2]
    ·exact j1 _ (by omega) (by simp [e2])
  refine Ev.ite (fun e => ?_) (fun e => ?_)
  ·exact j0 _ (by simp [e])
  ·exact j0 _ (by simp [e])
 ·rw [if_neg hc]
  exact Ev.ff (by simpa using hc) (Ev.ret rfl)
theorem spec_Neighbor_ev (w h c d : Int) : Ev (fun k => spec_Neighbor.f k w h c d) (nbI w h c d) := by
 unfold spec_Neighbor.f nbI
 refine Ev.bnd0 (spec_CountCells_eq w h) ?_
 have hcr := cellsOf_range w h
 rw [wrap64_id (by omega) (by omega)]
 refine Ev.bnd0 (l01In_eq ..) ?_
 by_cases hc : 0 ≤ c ∧ c < cellsOf w h
 ·rw [if_pos hc]
  obtain ⟨hg, hcw⟩ := cellsOf_valid hc.1 hc.2
  have hgr := gridOk_iff.1 hg
  refine Ev.tt (by simp; omega) (Ev.ff (by omega) ?_)
  have hx0 : 0 ≤ c % w := Int.emod_nonneg _ (by omega)
  have hx1 : c % w < w := Int.emod_lt_of_pos _ (by omega)
  have hy0 : 0 ≤ c / w := Int.ediv_nonneg hc.1 (by omega)
  have hy1 : c / w ≤ c := Int.ediv_le_self _ hc.1
  have hxy : c / w * w + c % w = c := by rw [Int.mul_comm]; exact Int.mul_ediv_add_emod c w
  have hy2 : c / w < h := by
   rw [hcw] at hc
   exact Int.ediv_lt_of_lt_mul (by omega) (by rw [Int.mul_comm]; exact hc.2)
  rw [Int.tmod_eq_emod_of_nonneg hc.1, Int.tdiv_eq_ediv_of_nonneg hc.1, wrap64_id (x := c / w) (by omega) (by omega)]
  generalize c % w = x at *
  generalize c / w = y at *
  have j0 : ∀ (a b r : Int), (r = if 0 ≤ a ∧ a ≤ w - 1 ∧ 0 ≤ b ∧ b ≤ h - 1 then b * w + a else -1) → Ev (fun k => spec_Neighbor.j0 k a b w h) r := by
   intro a b r hr
   subst hr
   refine Ev.step (fun _ => spec_Neighbor.j0.eq_2 ..) ?_
   refine Ev.bnd0 (l01In_eq ..) ?_
   rw [wrap64_id (x := w - 1) (by omega) (by omega), wrap64_id (x := h - 1) (by omega) (by omega)]
   by_cases h1 : 0 ≤ a ∧ a ≤ w - 1
   ·refine Ev.tt (by simpa using h1) (Ev.bnd0 (l01In_eq ..) ?_)
    by_cases h2 : 0 ≤ b ∧ b ≤ h - 1
    ·refine Ev.tt (by simpa using h2) (Ev.ret ?_)
     rw [if_pos (by omega)]
     have hb4 : b * w ≤ 3 * 4 := Int.mul_le_mul (by omega) (by omega) (by omega) (by omega)
     have hb0 : 0 ≤ b * w := Int.mul_nonneg (by omega) (by omega)
     rw [wrap64_id (x := b * w) (by omega) (by omega), wrap64_id (by omega) (by omega)]
    ·refine Ev.ff (by simpa using h2) (Ev.ret ?_)
     rw [if_neg (by omega)]
   ·refine Ev.ff (by simpa using h1) (Ev.ret ?_)
    rw [if_neg (by omega)]
  have hm1 : (y - 1) * w + x = c - w := by rw [Int.sub_mul]; omega
  have hp1 : (y + 1) * w + x = c + w := by rw [Int.add_mul]; omega
  refine Ev.ite (fun e => ?_) (fun e => Ev.ite (fun e => ?_) (fun e => Ev.ite (fun e => ?_) (fun e => Ev.ite (fun e => ?_) (fun e => Ev.ret ?_))))
  ·rw [wrap64_id (by omega) (by omega)]
   refine j0 _ _ _ ?_
   subst e
   by_cases h0 : 0 < y
   ·rw [if_pos ⟨rfl, h0⟩, if_pos (by omega), hm1]
   ·rw [if_neg (by omega), if_neg (by omega), if_neg (by omega), if_neg (by omega), if_neg (by omega)]
  ·rw [wrap64_id (by omega) (by omega)]
   refine j0 _ _ _ ?_
   subst e
   rw [if_neg (by omega)]
   by_cases h0 : x < w - 1
   ·rw [if_pos ⟨rfl, h0⟩, if_pos (by omega)]; omega
   ·rw [if_neg (by omega), if_neg (by omega), if_neg (by omega), if_neg (by omega)]
  ·rw [wrap64_id (by omega) (by omega)]
   refine j0 _ _ _ ?_
   subst e
   rw [if_neg (by omega), if_neg (by omega)]
   by_cases h0 : y < h - 1
   ·rw [if_pos ⟨rfl, h0⟩, if_pos (by omega), hp1]
   ·rw [if_neg (by omega), if_neg (by omega), if_neg (by omega)]
  ·rw [wrap64_id (by omega) (by omega)]
   refine j0 _ _ _ ?_
   subst e
   rw [if_neg (by omega), if_neg (by omega), if_neg (by omega)]
   by_cases h0 : 0 < x
   ·rw [if_pos ⟨rfl, h0⟩, if_pos (by omega)]; omega
   ·rw [if_neg (by omega), if_neg (by omega)]
  ·rw [if_neg (by omega), if_neg (by omega), if_neg (by omega), if_neg (by omega)]
 ·rw [if_neg hc]
  exact Ev.ff (by simp; omega) (Ev.ret rfl)
end Go.Proofs.Ytbeajmcjfhbcjaa.P
namespace Go.Proofs.Ytbeajmcjfhbcjaa.P
open Go.RowKit Go.Proofs.YtbeajmcjfhbcjaaW.PrintWords Go.Proofs.YtbeajmcjfhbcjaaW.PrintLast Go.Proofs.YtbeajmcjfhbcjaaW.PrintMore
attribute [local go_sem] max2_int min2_int max_two min_two max_three min_three max_four min_four   -- for this text's walks alone
set_option linter.unusedVariables false
set_option linter.unusedSimpArgs false

end Go.Proofs.Ytbeajmcjfhbcjaa.P
namespace Go.Proofs.Ytbeajmcjfhbcjaa.P
open Go.RowKit Go.Proofs.YtbeajmcjfhbcjaaW.PrintWords
set_option linter.unusedVariables false
set_option linter.unusedSimpArgs false

theorem spec_MazeOk_eq (w h o : Int) : spec_MazeOk.f w h o = some (mazeOk w h o) := by
 have hc := gapsOf_range w h
 have hp := pow_le hc.1 hc.2
 unfold spec_MazeOk.f mazeOk gapsN
 rw [spec_GridOk_eq, Option.bind_some]
 cases hg : gridOk w h
 ·simp
 ·rw [if_pos rfl, spec_CountGaps_eq, Option.bind_some, if_pos hc.1, shl_one hc.1 hc.2, l01In_eq, Option.bind_some, wrap64_id (by omega) (by omega)]
  simp only [Bool.true_and]
  congr 1
  rw [decide_eq_decide]
  omega
theorem spec_l03Bit_eq {n : Nat} (hn : n < 16777216) {g : Int} (hg : 0 ≤ g) : spec_l03Bit.f n g = some (openI n g) := by
 unfold spec_l03Bit.f openI
 rw [if_pos hg]
 obtain ⟨m, rfl⟩ := Int.eq_ofNat_of_zero_le hg
 rw [bit_one (by omega)]
 simp
theorem impl_GapAt_ev (w h c d : Int) : Ev (fun k => impl_GapAt.f k w h c d) (gapI w h c d) := by
 unfold impl_GapAt.f gapI
 refine Ev.bind (impl_Neighbor_ev w h c d) ?_
 by_cases hn : nbI w h c d < 0
 ·rw [if_pos hn, if_pos hn]
  exact Ev.ret rfl
 ·rw [if_neg hn, if_neg hn]
  obtain ⟨hd, h0, h1⟩ := nb_dir (by omega : 0 ≤ nbI w h c d)
  obtain ⟨hg, hcw⟩ := cellsOf_valid h0 h1
  have hcr := cellsOf_range w h
  have hgr := gridOk_iff.1 hg
  have hlt := nb_lt (w := w) (h := h) (c := c) (d := d)
  have hmn : mn c (nbI w h c d) = min c (nbI w h c d) := by unfold mn; omega
  rw [hmn]
  have hm0 : 0 ≤ min c (nbI w h c d) := by omega
  have hm1 : min c (nbI w h c d) ≤ 15 := by omega
  generalize min c (nbI w h c d) = m at *
  have ha0 : 0 ≤ m / w := Int.ediv_nonneg hm0 (by omega)
  have ha1 : m / w ≤ m := Int.ediv_le_self _ hm0
  have hb0 : 0 ≤ m % w := Int.emod_nonneg _ (by omega)
  have hb1 : m % w < w := Int.emod_lt_of_pos _ (by omega)
  have hp0 : 0 ≤ m / w * (w - 1) := Int.mul_nonneg ha0 (by omega)
  have hp1 : m / w * (w - 1) ≤ 15 * 3 := Int.mul_le_mul (by omega) (by omega) (by omega) (by omega)
  have hq0 : 0 ≤ (w - 1) * h := Int.mul_nonneg (by omega) (by omega)
  have hq1 : (w - 1) * h ≤ 3 * 4 := Int.mul_le_mul (by omega) (by omega) (by omega) (by omega)
  rw [Int.tmod_eq_emod_of_nonneg hm0, Int.tdiv_eq_ediv_of_nonneg hm0, wrap64_id (x := m / w) (by omega) (by omega), wrap64_id (x := w - 1) (by omega) (by omega), wrap64_id (x := m / w * (w - 1)) (by omega) (by omega), wrap64_id (x := m / w * (w - 1) + m % w) (by omega) (by omega)]
  refine Ev.ite (fun e => Ev.ff (by omega) ?_) (fun e => Ev.ite (fun e3 => Ev.ff (by omega) ?_) (fun e3 => ?_))
  ·rw [if_pos (.inl e)]; exact Ev.ret rfl
  ·rw [if_pos (.inr e3)]; exact Ev.ret rfl
  ·rw [if_neg (by omega)]
   rw [wrap64_id (x := (w - 1) * h) (by omega) (by omega), wrap64_id (by omega) (by omega)]
   exact Ev.ret rfl
theorem impl_with_eq (w h : Int) {n : Nat} (hn : n < 16777216) {g : Nat} (hg : g < 24) (b : Bool) : impl_with.f w h n g b = some (w, h, ((setB n g b : Nat) : Int)) := by
 have hp : 2 ^ g ≤ 2 ^ 24 := Nat.pow_le_pow_right (by decide) (by omega)
 unfold impl_with.f
 rw [if_pos (by omega), shl_pow (by omega), bits_andNot (by omega) (by omega)]
 cases b
 ·rw [if_neg (by decide)]
  rfl
 ·rw [if_pos rfl, bits_or (by have := andNot_le n (2 ^ g); omega) (by omega)]
  have e : andNot n (2 ^ g) ||| 2 ^ g = setB n g true := by
   apply Nat.eq_of_testBit_eq
   intro i
   rw [testBit_setB, Nat.testBit_or, testBit_andNot, Nat.testBit_two_pow]
   by_cases h : i = g
   ·simp [h]
   ·simp [h, show ¬ g = i from fun e => h e.symm]
  rw [e]
def fullN (w h : Int) : Nat := 2 ^ gapsN w h - 1
theorem fullN_lt (w h : Int) : fullN w h < 2 ^ gapsN w h := by unfold fullN; have := Nat.two_pow_pos (gapsN w h); omega
theorem full_val {w h : Int} : wrap64 ((shl .i64 1 (gapsOf w h)) - 1) = ((fullN w h : Nat) : Int) := by
 have hc := gapsOf_range w h
 have hp := pow_le hc.1 hc.2
 rw [shl_one hc.1 hc.2, wrap64_id (by omega) (by omega)]
 unfold fullN gapsN
 have h1 := Nat.two_pow_pos (gapsOf w h).toNat
 have h2 := Int.natCast_pow 2 (gapsOf w h).toNat
 simp only [Int.cast_ofNat_Int] at h2
 omega
theorem impl_FullMaze_eq {w h : Int} (hg : gridOk w h = true) : impl_FullMaze.f w h = some (w, h, ((fullN w h : Nat) : Int)) := by
 unfold impl_FullMaze.f
 rw [impl_GridOk_eq, Option.bind_some, if_pos hg, impl_CountGaps_eq, Option.bind_some, if_pos (gapsOf_range w h).1, full_val]
theorem spec_FullMaze_eq {w h : Int} (hg : gridOk w h = true) : spec_FullMaze.f w h = some (w, h, ((fullN w h : Nat) : Int)) := by
 unfold spec_FullMaze.f
 rw [spec_GridOk_eq, Option.bind_some, if_pos hg, spec_CountGaps_eq, Option.bind_some, if_pos (gapsOf_range w h).1, full_val]
theorem chooser_next_nx (l : List Int) {m : Nat} (h : 0 < m) : chooser_next l (m : Int) = some (((nx l % m : Nat) : Int), l.tail) := by
 cases l with
 | nil => simp [chooser_next, nx]
 | cons v t =>
  have e : mx v 0 = ((nx (v :: t) : Nat) : Int) := by
   have : nx (v :: t) = (max v 0).toNat := rfl
   rw [this]; unfold mx; omega
  show (if (m : Int) = 0 then none else some (Int.tmod (mx v 0) m, t)) = _
  rw [if_neg (by omega), e, Int.tmod_eq_emod_of_nonneg (by omega), ← Int.natCast_emod]
  rfl
theorem dv_loop_ev {W H : Nat} {cell : Int → Int → Int} {dir : Int} {gs : Nat → Nat} {p n : Nat} (hc : ∀ i, i < n → gapI W H (cell W i) dir = (gs i : Nat)) (hg : ∀ i, i < n → gs i < 24) {o : Nat} (ho : o < 2 ^ 24) : ∀ d i, i + d = n →
  Ev (fun k => dv_loop k cell dir p d i W H (closeL gs p i o : Nat)) ((W : Int), (H : Int), ((closeL gs p n o : Nat) : Int))
 | 0, i, hi => by
  obtain rfl : i = n := by omega
  simp only [dv_loop]
  exact Ev.ret rfl
 | d + 1, i, hi => by
  have ih := dv_loop_ev (p := p) hc hg ho d (i + 1) (by omega)
  have hlt : closeL gs p i o < 2 ^ 24 := closeL_lt ho fun j hj => hg j (by omega)
  simp only [dv_loop]
  by_cases e : i = p
  ·refine Ev.tt (by omega) (Ev.eq ?_ rfl)
   rw [show closeL gs p (i + 1) o = closeL gs p i o by rw [closeL, if_pos e]] at ih
   exact ih
  ·refine Ev.ff (by omega) (Ev.bind (impl_GapAt_ev _ _ _ _) (Ev.bnd0 (a := ((W : Int), (H : Int), ((setB (closeL gs p i o) (gs i) false : Nat) : Int))) ?_ ?_))
   ·rw [hc i (by omega)]
    exact impl_with_eq _ _ (by omega) (hg i (by omega)) false
   ·rw [show closeL gs p (i + 1) o = setB (closeL gs p i o) (gs i) false by rw [closeL, if_neg e]] at ih
    exact ih
theorem divN_cnt (W H : Nat) : ∀ (f x y rw rh : Nat) (l : List Int) (o c : Nat), 1 ≤ rw → 1 ≤ rh → c ≤ (divN W H f x y rw rh l o c).2.1 ∧ (divN W H f x y rw rh l o c).2.1 + 1 ≤ c + rw * rh
 | 0, x, y, rw, rh, l, o, c, h1, h2 => by
  have := Nat.mul_pos h1 h2
  unfold divN
  dsimp only
  omega
 | f + 1, x, y, rw, rh, l, o, c, h1, h2 => by
  unfold divN
  by_cases hl : rw = 1 ∨ rh = 1
  ·have := Nat.mul_pos h1 h2
   rw [if_pos hl]
   dsimp only
   omega
  ·rw [if_neg hl]
   by_cases hc : rw ≤ rh
   ·rw [if_pos hc]
    have hk : nx l % (rh - 1) < rh - 1 := Nat.mod_lt _ (by omega)
    simp only
    generalize nx l % (rh - 1) = k at *
    have a := divN_cnt W H f x y rw (k + 1) l.tail.tail (closeL (fun i => sG W H (y + k) (x + i)) (nx l.tail % rw) rw o) (c + 1) h1 (by omega)
    generalize divN W H f x y rw (k + 1) l.tail.tail (closeL (fun i => sG W H (y + k) (x + i)) (nx l.tail % rw) rw o) (c + 1) = r at *
    have b := divN_cnt W H f x (y + k + 1) rw (rh - k - 1) r.2.2 r.1 r.2.1 h1 (by omega)
    have : rw * rh = rw * (k + 1) + rw * (rh - k - 1) := by rw [← Nat.mul_add]; congr 1; omega
    omega
   ·rw [if_neg hc]
    have hk : nx l % (rw - 1) < rw - 1 := Nat.mod_lt _ (by omega)
    simp only
    generalize nx l % (rw - 1) = k at *
    have a := divN_cnt W H f x y (k + 1) rh l.tail.tail (closeL (fun i => eG W (y + i) (x + k)) (nx l.tail % rh) rh o) (c + 1) (by omega) h2
    generalize divN W H f x y (k + 1) rh l.tail.tail (closeL (fun i => eG W (y + i) (x + k)) (nx l.tail % rh) rh o) (c + 1) = r at *
    have b := divN_cnt W H f (x + k + 1) y (rw - k - 1) rh r.2.2 r.1 r.2.1 (by omega) h2
    have : rw * rh = (k + 1) * rh + (rw - k - 1) * rh := by rw [← Nat.add_mul]; congr 1; omega
    omega
theorem divN_lt {W H : Nat} (hW : W < 5) (hH : H < 5) : ∀ (f x y rw rh : Nat) (l : List Int) (o c : Nat), 1 ≤ rw → 1 ≤ rh → x + rw ≤ W → y + rh ≤ H → o < 2 ^ gapsN W H → (divN W H f x y rw rh l o c).1 < 2 ^ gapsN W H
 | 0, x, y, rw, rh, l, o, c, h1, h2, hx, hy, hlt => hlt
 | f + 1, x, y, rw, rh, l, o, c, h1, h2, hx, hy, hlt => by
  unfold divN
  by_cases hl : rw = 1 ∨ rh = 1
  ·rw [if_pos hl]; exact hlt
  ·rw [if_neg hl]
   by_cases hc : rw ≤ rh
   ·rw [if_pos hc]
    have hk : nx l % (rh - 1) < rh - 1 := Nat.mod_lt _ (by omega)
    simp only
    generalize nx l % (rh - 1) = k at *
    exact divN_lt hW hH f _ _ _ _ _ _ _ h1 (by omega) hx (by omega) (divN_lt hW hH f _ _ _ _ _ _ _ h1 (by omega) hx (by omega) (closeL_lt hlt fun i hi => (sG_facts hW hH (by omega) (by omega)).1))
   ·rw [if_neg hc]
    have hk : nx l % (rw - 1) < rw - 1 := Nat.mod_lt _ (by omega)
    simp only
    generalize nx l % (rw - 1) = k at *
    exact divN_lt hW hH f _ _ _ _ _ _ _ (by omega) h2 (by omega) hy (divN_lt hW hH f _ _ _ _ _ _ _ (by omega) h2 (by omega) hy (closeL_lt hlt fun i hi => (eG_facts hW hH (by omega) (by omega)).1))
theorem cnt_ok {c m a b : Nat} (h : c + m ≤ 1000) (e : m = a + b) (hb : 0 < b) : c + 1 + a ≤ 1000 := by omega
theorem cnt_ok2 {c m a b r : Nat} (h : c + m ≤ 1000) (e : m = a + b) (h2 : r + 1 ≤ c + 1 + a) : r + b ≤ 1000 := by omega
theorem w_mid {y k : Nat} (h : y + k < 5) : wrap64 (wrap64 ((y : Int) + (k : Int)) + 1) = ((y + k + 1 : Nat) : Int) := by unfold wrap64; omega
theorem w_end {m k : Nat} (h : k + 1 < m) (h2 : m < 5) : wrap64 (wrap64 ((m : Int) - (k : Int)) - 1) = ((m - k - 1 : Nat) : Int) := by unfold wrap64; omega
theorem w_pre {m : Nat} (h : 1 ≤ m) (h2 : m < 5) : wrap64 ((m : Int) - 1) = ((m - 1 : Nat) : Int) := by unfold wrap64; omega
theorem w_two {c : Nat} (h : c ≤ 1000) : wrap64 (((2 * c : Nat) : Int) + 2) = ((2 * (c + 1) : Nat) : Int) := by unfold wrap64; omega
theorem w_one {c : Nat} (h : c ≤ 1000) : wrap64 (((2 * c : Nat) : Int) + 1) = ((2 * c + 1 : Nat) : Int) := by unfold wrap64; omega
theorem cell_row {W y k x i : Nat} (hW : W < 5) (h1 : y + k < 5) (h2 : x + i < 5) : wrap64 (wrap64 (wrap64 (wrap64 ((y : Int) + (k : Int)) * (W : Int)) + (x : Int)) + (i : Int)) = (((y + k) * W + (x + i) : Nat) : Int) := by
 have hm : (y + k) * W ≤ 4 * 4 := Nat.mul_le_mul (by omega) (by omega)
 rw [show wrap64 ((y : Int) + (k : Int)) = ((y + k : Nat) : Int) by unfold wrap64; omega, ← Int.natCast_mul]
 generalize (y + k) * W = z at *
 unfold wrap64
 omega
theorem cell_col {W y k x i : Nat} (hW : W < 5) (h1 : y + i < 5) (h2 : x + k < 5) : wrap64 (wrap64 (wrap64 (wrap64 ((y : Int) + (i : Int)) * (W : Int)) + (x : Int)) + (k : Int)) = (((y + i) * W + (x + k) : Nat) : Int) := by
 exact cell_row hW h1 h2
theorem gaps_24 {W H : Nat} (hW : W < 5) (hH : H < 5) : gapsN W H ≤ 24 := by
 have : ∀ W : Nat, W < 5 → ∀ H : Nat, H < 5 → gapsN W H ≤ 24 := by decide +kernel
 exact this W hW H hH
theorem dv_ev {W H : Nat} (hW : W < 5) (hH : H < 5) : ∀ (f x y rw rh : Nat) (l : List Int) (o c : Nat), 1 ≤ rw → 1 ≤ rh → rw + rh ≤ f + 1 → x + rw ≤ W → y + rh ≤ H → o < 2 ^ gapsN W H → c + rw * rh ≤ 1000 →
  Ev (fun k => dv_f k W H o x y rw rh l c) (((W : Int), (H : Int), (((divN W H f x y rw rh l o c).1 : Nat) : Int)), (divN W H f x y rw rh l o c).2.2, (((divN W H f x y rw rh l o c).2.1 : Nat) : Int))
 | 0, x, y, rw, rh, l, o, c, h1, h2, hf, hx, hy, hlt, hn => by omega
 | f + 1, x, y, rw, rh, l, o, c, h1, h2, hf, hx, hy, hlt, hn => by
  have h24 := gaps_24 hW hH
  have hlt24 : o < 2 ^ 24 := Nat.lt_of_lt_of_le hlt (Nat.pow_le_pow_right (by decide) h24)
  refine Ev.step (fun _ => dv_f.eq_2 ..) ?_
  unfold divN
  by_cases e1 : rw = 1
  ·rw [if_pos (.inl e1)]
   exact Ev.tt (by omega) (Ev.ret rfl)
  by_cases e2 : rh = 1
  ·rw [if_pos (.inr e2)]
   exact Ev.ff (by omega) (Ev.tt (by omega) (Ev.ret rfl))
  rw [if_neg (by omega)]
  refine Ev.ff (by omega) (Ev.ff (by omega) ?_)
  have hp1 := Nat.mul_pos h1 h2
  have ec : wrap64 ((c : Int) + 1) = ((c + 1 : Nat) : Int) := wsucc (by omega)
  by_cases hc : rw ≤ rh
  ·rw [if_pos hc]
   have hk : nx l % (rh - 1) < rh - 1 := Nat.mod_lt _ (by omega)
   refine Ev.tt (by omega) (Ev.tt (by omega) (Ev.bnd0 (a := (((nx l % (rh - 1) : Nat) : Int), l.tail)) ?_ (Ev.bnd0 (chooser_next_nx l.tail (by omega)) ?_)))
   ·rw [w_pre (m := rh) (by omega) (by omega)]
    exact chooser_next_nx l (by omega)
   dsimp only
   generalize nx l % (rh - 1) = k at *
   generalize nx l.tail % rw = p at *
   have hlp := dv_loop_ev (W := W) (H := H) (cell := fun a i => wrap64 (wrap64 (wrap64 (wrap64 ((y : Int) + (k : Int)) * a) + (x : Int)) + i)) (dir := 2) (gs := fun i => sG W H (y + k) (x + i)) (p := p) (n := rw)
    (fun i hi => by rw [cell_row hW (by omega) (by omega)]; exact (sG_facts hW hH (by omega) (by omega)).2.2.2) (fun i hi => Nat.lt_of_lt_of_le (sG_facts hW hH (by omega) (by omega)).1 h24) hlt24 rw 0 (by omega)
   rw [show closeL (fun i => sG W H (y + k) (x + i)) p 0 o = o from rfl] at hlp
   clear hlt24 h24
   have hlt1 : closeL (fun i => sG W H (y + k) (x + i)) p rw o < 2 ^ gapsN W H := closeL_lt hlt fun i hi => (sG_facts hW hH (by omega) (by omega)).1
   generalize closeL (fun i => sG W H (y + k) (x + i)) p rw o = o1 at *
   have hm : rw * rh = rw * (k + 1) + rw * (rh - k - 1) := by rw [← Nat.mul_add]; congr 1; omega
   have a1 := dv_ev hW hH f x y rw (k + 1) l.tail.tail o1 (c + 1) h1 (by omega) (by omega) hx (by omega) hlt1 (cnt_ok hn hm (Nat.mul_pos h1 (by omega)))
   have a2 := divN_cnt W H f x y rw (k + 1) l.tail.tail o1 (c + 1) h1 (by omega)
   have a3 := divN_lt hW hH f x y rw (k + 1) l.tail.tail o1 (c + 1) h1 (by omega) hx (by omega) hlt1
   generalize divN W H f x y rw (k + 1) l.tail.tail o1 (c + 1) = r at *
   have b1 := dv_ev hW hH f x (y + k + 1) rw (rh - k - 1) r.2.2 r.1 r.2.1 h1 (by omega) (by omega) hx (by omega) a3 (cnt_ok2 hn hm a2.2)
   rw [Int.toNat_natCast, ec, wsucc (i := k) (by omega), w_mid (y := y) (k := k) (by omega), w_end (m := rh) (k := k) (by omega) (by omega)]
   exact Ev.bind hlp (Ev.bind a1 b1)
  ·rw [if_neg hc]
   have hk : nx l % (rw - 1) < rw - 1 := Nat.mod_lt _ (by omega)
   refine Ev.ff (by omega) (Ev.tt (by omega) (Ev.bnd0 (a := (((nx l % (rw - 1) : Nat) : Int), l.tail)) ?_ (Ev.bnd0 (chooser_next_nx l.tail (by omega)) ?_)))
   ·rw [w_pre (m := rw) (by omega) (by omega)]
    exact chooser_next_nx l (by omega)
   dsimp only
   generalize nx l % (rw - 1) = k at *
   generalize nx l.tail % rh = p at *
   have hlp := dv_loop_ev (W := W) (H := H) (cell := fun a i => wrap64 (wrap64 (wrap64 (wrap64 ((y : Int) + i) * a) + (x : Int)) + (k : Int))) (dir := 1) (gs := fun i => eG W (y + i) (x + k)) (p := p) (n := rh)
    (fun i hi => by rw [cell_col hW (by omega) (by omega)]; exact (eG_facts hW hH (by omega) (by omega)).2.2.2) (fun i hi => Nat.lt_of_lt_of_le (eG_facts hW hH (by omega) (by omega)).1 h24) hlt24 rh 0 (by omega)
   rw [show closeL (fun i => eG W (y + i) (x + k)) p 0 o = o from rfl] at hlp
   clear hlt24 h24
   have hlt1 : closeL (fun i => eG W (y + i) (x + k)) p rh o < 2 ^ gapsN W H := closeL_lt hlt fun i hi => (eG_facts hW hH (by omega) (by omega)).1
   generalize closeL (fun i => eG W (y + i) (x + k)) p rh o = o1 at *
   have hm : rw * rh = (k + 1) * rh + (rw - k - 1) * rh := by rw [← Nat.add_mul]; congr 1; omega
   have a1 := dv_ev hW hH f x y (k + 1) rh l.tail.tail o1 (c + 1) (by omega) h2 (by omega) (by omega) hy hlt1 (cnt_ok hn hm (Nat.mul_pos (by omega) h2))
   have a2 := divN_cnt W H f x y (k + 1) rh l.tail.tail o1 (c + 1) (by omega) h2
   have a3 := divN_lt hW hH f x y (k + 1) rh l.tail.tail o1 (c + 1) (by omega) h2 (by omega) hy hlt1
   generalize divN W H f x y (k + 1) rh l.tail.tail o1 (c + 1) = r at *
   have b1 := dv_ev hW hH f (x + k + 1) y (rw - k - 1) rh r.2.2 r.1 r.2.1 (by omega) h2 (by omega) (by omega) hy a3 (cnt_ok2 hn hm a2.2)
   rw [Int.toNat_natCast, ec, wsucc (i := k) (by omega), w_mid (y := x) (k := k) (by omega), w_end (m := rw) (k := k) (by omega) (by omega)]
   exact Ev.bind hlp (Ev.bind a1 b1)
def divd (W H : Nat) (l : List Int) : Nat × Nat := ((divN W H (W + H) 0 0 W H l (2 ^ gapsN W H - 1) 0).1, (divN W H (W + H) 0 0 W H l (2 ^ gapsN W H - 1) 0).2.1)
theorem impl_divided_ev {W H : Nat} (hW : W < 5) (hH : H < 5) (hg : gridOk W H = true) (l : List Int) : Ev (fun k => impl_divided.f k W H l) ((W : Int), (H : Int), (((divd W H l).1 : Nat) : Int), (((divd W H l).2 : Nat) : Int)) := by
 have hgr := gridOk_iff.1 hg
 have hp := Nat.two_pow_pos (gapsN W H)
 have hm : W * H ≤ 4 * 4 := Nat.mul_le_mul (by omega) (by omega)
 unfold impl_divided.f
 refine Ev.bnd0 (impl_GridOk_eq _ _) (Ev.tt hg (Ev.bnd0 (impl_FullMaze_eq hg) (Ev.bind (dv_ev hW hH (W + H) 0 0 W H l (fullN W H) 0 (by omega) (by omega) (by omega) (by omega) (by omega) (fullN_lt _ _) (by omega)) (Ev.ret rfl))))
theorem impl_divided_bad {w h : Int} (hg : gridOk w h = false) (l : List Int) : Ev (fun k => impl_divided.f k w h l) (0, 0, 0, 0) := by
 unfold impl_divided.f
 refine Ev.bnd0 (impl_GridOk_eq _ _) (Ev.ff (by rw [hg]; decide) (Ev.ret rfl))
theorem spec_GapAt_ev (w h c d : Int) : Ev (fun k => spec_GapAt.f k w h c d) (gapI w h c d) := by
 unfold spec_GapAt.f gapI
 refine Ev.bind (spec_Neighbor_ev w h c d) ?_
 by_cases hn : nbI w h c d < 0
 ·rw [if_pos hn, if_pos hn]
  exact Ev.ret rfl
 ·rw [if_neg hn, if_neg hn]
  obtain ⟨hd, h0, h1⟩ := nb_dir (by omega : 0 ≤ nbI w h c d)
  obtain ⟨hg, hcw⟩ := cellsOf_valid h0 h1
  have hcr := cellsOf_range w h
  have hgr := gridOk_iff.1 hg
  have hlt := nb_lt (w := w) (h := h) (c := c) (d := d)
  have hmn : mn c (nbI w h c d) = min c (nbI w h c d) := by unfold mn; omega
  rw [hmn]
  have hm0 : 0 ≤ min c (nbI w h c d) := by omega
  have hm1 : min c (nbI w h c d) ≤ 15 := by omega
  generalize min c (nbI w h c d) = m at *
  have ha0 : 0 ≤ m / w := Int.ediv_nonneg hm0 (by omega)
  have ha1 : m / w ≤ m := Int.ediv_le_self _ hm0
  have hb0 : 0 ≤ m % w := Int.emod_nonneg _ (by omega)
  have hb1 : m % w < w := Int.emod_lt_of_pos _ (by omega)
  have hp0 : 0 ≤ m / w * (w - 1) := Int.mul_nonneg ha0 (by omega)
  have hp1 : m / w * (w - 1) ≤ 15 * 3 := Int.mul_le_mul (by omega) (by omega) (by omega) (by omega)
  have hq0 : 0 ≤ (w - 1) * h := Int.mul_nonneg (by omega) (by omega)
  have hq1 : (w - 1) * h ≤ 3 * 4 := Int.mul_le_mul (by omega) (by omega) (by omega) (by omega)
  rw [Int.tmod_eq_emod_of_nonneg hm0, Int.tdiv_eq_ediv_of_nonneg hm0, wrap64_id (x := m / w) (by omega) (by omega), wrap64_id (x := w - 1) (by omega) (by omega), wrap64_id (x := m / w * (w - 1)) (by omega) (by omega), wrap64_id (x := m / w * (w - 1) + m % w) (by omega) (by omega)]
  refine Ev.ite (fun e => Ev.ff (by omega) ?_) (fun e => Ev.ite (fun e3 => Ev.ff (by omega) ?_) (fun e3 => ?_))
  ·rw [if_pos (.inl e)]; exact Ev.ret rfl
  ·rw [if_pos (.inr e3)]; exact Ev.ret rfl
  ·rw [if_neg (by omega)]
   refine Ev.bnd0 (spec_l02East_eq hg) (Ev.ret ?_)
   unfold eastOf
   rw [wrap64_id (by omega) (by omega)]
theorem spec_SetGap_ev {w h : Int} {n : Nat} (hg : gridOk w h = true) (hn : n < 2 ^ gapsN w h) {g : Nat} (hgg : g < gapsN w h) (b : Bool) : Ev (fun k => spec_SetGap.f k w h n g b) (w, h, ((setB n g b : Nat) : Int), true) := by
 have hr := gapsOf_range w h
 have hc := gapsN_cast w h
 have hp : 2 ^ g ≤ 2 ^ 24 := Nat.pow_le_pow_right (by decide) (by have := gapsN_le w h; omega)
 have hs := open_small hn
 unfold spec_SetGap.f
 refine Ev.bnd0 (spec_MazeOk_eq w h n) (Ev.tt (mazeOk_iff.2 ⟨hg, n, rfl, hn⟩) ?_)
 refine Ev.bnd0 (spec_CountGaps_eq w h) ?_
 rw [wrap64_id (by omega) (by omega)]
 refine Ev.bnd0 (l01In_eq ..) ?_
 rw [decide_eq_true (by omega)]
 refine Ev.step (fun _ => spec_SetGap.j0.eq_2 ..) ?_
 refine Ev.ff (by decide) (Ev.bnd0 (spec_l03Bit_eq hs (by omega)) ?_)
 have ho : openI n (g : Int) = n.testBit g := by simp [openI]
 rw [ho]
 refine Ev.ite (fun e => Ev.tt (by omega) (Ev.ret ?_)) (fun e => Ev.ret ?_)
 ·rw [shl_pow (by omega), bits_xor (by omega) (by omega), xor_setB (by simpa using e)]
 ·have : n.testBit g = b := by simpa using e
  rw [← this, setB_self]
theorem spec_choice (l : List Int) (k : Nat) : spec_l17Choice.f l (k : Int) = some ((nx (l.drop k) : Nat) : Int) := by
 unfold spec_l17Choice.f
 by_cases h : l.length ≤ k
 ·rw [if_pos (by omega), List.drop_eq_nil_of_le h]
  rfl
 ·rw [if_neg (by omega), if_pos (by omega), if_pos (by omega), rd_get (show k < l.length by omega), List.drop_eq_getElem_cons (show k < l.length by omega)]
  have : nx (l[k] :: l.drop (k + 1)) = (max l[k] 0).toNat := rfl
  rw [this]
  unfold mx
  congr 1
  omega
theorem divN_rest (W H : Nat) (l : List Int) : ∀ (f x y rw rh o c : Nat), (divN W H f x y rw rh (l.drop (2 * c)) o c).2.2 = l.drop (2 * (divN W H f x y rw rh (l.drop (2 * c)) o c).2.1)
 | 0, x, y, rw, rh, o, c => rfl
 | f + 1, x, y, rw, rh, o, c => by
  have e2 : (l.drop (2 * c)).tail.tail = l.drop (2 * (c + 1)) := by rw [List.tail_drop, List.tail_drop]; rfl
  unfold divN
  rw [e2]
  split
  ·rfl
  ·split
   ·have a := divN_rest W H l f x y rw (nx (l.drop (2 * c)) % (rh - 1) + 1) (closeL (fun i => sG W H (y + nx (l.drop (2 * c)) % (rh - 1)) (x + i)) (nx (l.drop (2 * c)).tail % rw) rw o) (c + 1)
    simp only
    generalize divN W H f x y rw (nx (l.drop (2 * c)) % (rh - 1) + 1) (l.drop (2 * (c + 1))) (closeL (fun i => sG W H (y + nx (l.drop (2 * c)) % (rh - 1)) (x + i)) (nx (l.drop (2 * c)).tail % rw) rw o) (c + 1) = r at *
    rw [a]
    exact divN_rest W H l f _ _ _ _ _ _
   ·have a := divN_rest W H l f x y (nx (l.drop (2 * c)) % (rw - 1) + 1) rh (closeL (fun i => eG W (y + i) (x + nx (l.drop (2 * c)) % (rw - 1))) (nx (l.drop (2 * c)).tail % rh) rh o) (c + 1)
    simp only
    generalize divN W H f x y (nx (l.drop (2 * c)) % (rw - 1) + 1) rh (l.drop (2 * (c + 1))) (closeL (fun i => eG W (y + i) (x + nx (l.drop (2 * c)) % (rw - 1))) (nx (l.drop (2 * c)).tail % rh) rh o) (c + 1) = r at *
    rw [a]
    exact divN_rest W H l f _ _ _ _ _ _
theorem sd_l0 {W H : Nat} (hW : W < 5) (hH : H < 5) (hg : gridOk W H = true) {x y rw rh q p o : Nat} {l : List Int} {kk b : Int} {R : Int × Int × Int × Int} (hx : x + rw ≤ W) (hy : y + rh ≤ H) (hq : q + 1 < rh) (ho : o < 2 ^ gapsN W H) (hin : ∀ g, Inn W H x y rw rh g → o.testBit g = true) (hb : Int.tmod b (rw : Int) = p)
  (Hk : Ev (fun k => (spec_l17Divide.f k W H (closeL (fun i => sG W H (y + q) (x + i)) p rw o : Nat) x y rw (wrap64 ((q : Int) + 1)) l kk).bind fun bt110 => ((spec_l17Divide.f k bt110.1 bt110.2.1 bt110.2.2.1 x (wrap64 ((wrap64 ((y : Int) + (q : Int))) + 1)) rw (wrap64 ((wrap64 ((rh : Int) - (q : Int))) - 1)) l bt110.2.2.2).bind fun bt114 => (some (bt114.1, bt114.2.1, bt114.2.2.1, bt114.2.2.2)))) R) : ∀ d i, i + d = rw →
  Ev (fun k => spec_l17Divide.l0 k x y rw rh l kk b q i W H (closeL (fun i => sG W H (y + q) (x + i)) p i o : Nat)) R
 | 0, i, hi => by
  obtain rfl : i = rw := by omega
  refine Ev.step (fun _ => spec_l17Divide.l0.eq_2 ..) (Ev.ff (by omega) Hk)
 | d + 1, i, hi => by
  have ih := sd_l0 hW hH hg hx hy hq ho hin hb Hk d (i + 1) (by omega)
  have hlt : closeL (fun i => sG W H (y + q) (x + i)) p i o < 2 ^ gapsN W H := closeL_lt ho fun j hj => (sG_facts (a := x + j) (b := y + q) hW hH (by omega) (by omega)).1
  have hf := sG_facts (a := x + i) (b := y + q) hW hH (by omega) (by omega)
  refine Ev.step (fun _ => spec_l17Divide.l0.eq_2 ..) (Ev.tt (by omega) (Ev.bind (spec_GapAt_ev _ _ _ _) (Ev.ff (by omega) ?_)))
  rw [cell_row hW (show y + q < 5 by omega) (show x + i < 5 by omega), hf.2.2.2, show ((i : Int) == Int.tmod b (rw : Int)) = decide (i = p) by rw [hb, Bool.eq_iff_iff, beq_iff_eq, decide_eq_true_eq]; omega, wsucc (i := i) (by omega)]
  refine Ev.bind (spec_SetGap_ev hg hlt hf.1 _) ?_
  by_cases e : i = p
  ·have hbit : (closeL (fun i => sG W H (y + q) (x + i)) p i o).testBit (sG W H (y + q) (x + i)) = true := by
    rw [closeL_out]
    ·exact hin _ (.inr ⟨x + i, y + q, by omega, by omega, by omega, by omega, rfl⟩)
    ·intro j hj _ h
     have := (sG_inj (a := x + j) (c := x + i) (by omega) (by omega) h).1
     omega
   rw [show closeL (fun i => sG W H (y + q) (x + i)) p (i + 1) o = closeL (fun i => sG W H (y + q) (x + i)) p i o by rw [closeL, if_pos e]] at ih
   simp only [e, decide_true]
   subst e
   rw [setB_on hbit]
   exact ih
  ·rw [show closeL (fun i => sG W H (y + q) (x + i)) p (i + 1) o = setB (closeL (fun i => sG W H (y + q) (x + i)) p i o) (sG W H (y + q) (x + i)) false by rw [closeL, if_neg e]] at ih
   simp only [e, decide_false]
   exact ih
theorem sd_l1 {W H : Nat} (hW : W < 5) (hH : H < 5) (hg : gridOk W H = true) {x y rw rh q p o : Nat} {l : List Int} {kk b : Int} {R : Int × Int × Int × Int} (hx : x + rw ≤ W) (hy : y + rh ≤ H) (hq : q + 1 < rw) (ho : o < 2 ^ gapsN W H) (hin : ∀ g, Inn W H x y rw rh g → o.testBit g = true) (hb : Int.tmod b (rh : Int) = p)
  (Hk : Ev (fun k => (spec_l17Divide.f k W H (closeL (fun i => eG W (y + i) (x + q)) p rh o : Nat) x y (wrap64 ((q : Int) + 1)) rh l kk).bind fun bt123 => ((spec_l17Divide.f k bt123.1 bt123.2.1 bt123.2.2.1 (wrap64 ((wrap64 ((x : Int) + (q : Int))) + 1)) y (wrap64 ((wrap64 ((rw : Int) - (q : Int))) - 1)) rh l bt123.2.2.2).bind fun bt127 => (some (bt127.1, bt127.2.1, bt127.2.2.1, bt127.2.2.2)))) R) : ∀ d i, i + d = rh →
  Ev (fun k => spec_l17Divide.l1 k x y rw rh l kk b q i W H (closeL (fun i => eG W (y + i) (x + q)) p i o : Nat)) R
 | 0, i, hi => by
  obtain rfl : i = rh := by omega
  refine Ev.step (fun _ => spec_l17Divide.l1.eq_2 ..) (Ev.ff (by omega) Hk)
 | d + 1, i, hi => by
  have ih := sd_l1 hW hH hg hx hy hq ho hin hb Hk d (i + 1) (by omega)
  have hlt : closeL (fun i => eG W (y + i) (x + q)) p i o < 2 ^ gapsN W H := closeL_lt ho fun j hj => (eG_facts (a := x + q) (b := y + j) hW hH (by omega) (by omega)).1
  have hf := eG_facts (a := x + q) (b := y + i) hW hH (by omega) (by omega)
  refine Ev.step (fun _ => spec_l17Divide.l1.eq_2 ..) (Ev.tt (by omega) (Ev.bind (spec_GapAt_ev _ _ _ _) (Ev.ff (by omega) ?_)))
  rw [cell_col hW (show y + i < 5 by omega) (show x + q < 5 by omega), hf.2.2.2, show ((i : Int) == Int.tmod b (rh : Int)) = decide (i = p) by rw [hb, Bool.eq_iff_iff, beq_iff_eq, decide_eq_true_eq]; omega, wsucc (i := i) (by omega)]
  refine Ev.bind (spec_SetGap_ev hg hlt hf.1 _) ?_
  by_cases e : i = p
  ·have hbit : (closeL (fun i => eG W (y + i) (x + q)) p i o).testBit (eG W (y + i) (x + q)) = true := by
    rw [closeL_out]
    ·exact hin _ (.inl ⟨x + q, y + i, by omega, by omega, by omega, by omega, rfl⟩)
    ·intro j hj _ h
     have := (eG_inj (a := x + q) (c := x + q) (by omega) (by omega) h).2
     omega
   rw [show closeL (fun i => eG W (y + i) (x + q)) p (i + 1) o = closeL (fun i => eG W (y + i) (x + q)) p i o by rw [closeL, if_pos e]] at ih
   simp only [e, decide_true]
   subst e
   rw [setB_on hbit]
   exact ih
  ·rw [show closeL (fun i => eG W (y + i) (x + q)) p (i + 1) o = setB (closeL (fun i => eG W (y + i) (x + q)) p i o) (eG W (y + i) (x + q)) false by rw [closeL, if_neg e]] at ih
   simp only [e, decide_false]
   exact ih
theorem sd_ev {W H : Nat} (hW : W < 5) (hH : H < 5) (hg : gridOk W H = true) (l : List Int) : ∀ (f x y rw rh o c : Nat), 1 ≤ rw → 1 ≤ rh → rw + rh ≤ f + 1 → x + rw ≤ W → y + rh ≤ H → o < 2 ^ gapsN W H → (∀ g, Inn W H x y rw rh g → o.testBit g = true) → c + rw * rh ≤ 1000 →
  Ev (fun k => spec_l17Divide.f k W H o x y rw rh l ((2 * c : Nat) : Int)) ((W : Int), (H : Int), (((divN W H f x y rw rh (l.drop (2 * c)) o c).1 : Nat) : Int), ((2 * (divN W H f x y rw rh (l.drop (2 * c)) o c).2.1 : Nat) : Int))
 | 0, x, y, rw, rh, o, c, h1, h2, hf, hx, hy, hlt, hin, hn => by omega
 | f + 1, x, y, rw, rh, o, c, h1, h2, hf, hx, hy, hlt, hin, hn => by
  refine Ev.step (fun _ => spec_l17Divide.f.eq_2 ..) ?_
  unfold divN
  by_cases e1 : rw = 1
  ·rw [if_pos (.inl e1)]
   exact Ev.tt (by omega) (Ev.step (fun _ => spec_l17Divide.j0.eq_2 ..) (Ev.tt rfl (Ev.ret rfl)))
  by_cases e2 : rh = 1
  ·rw [if_pos (.inr e2)]
   exact Ev.ff (by omega) (Ev.step (fun _ => spec_l17Divide.j0.eq_2 ..) (Ev.tt (by rw [e2]; rfl) (Ev.ret rfl)))
  rw [if_neg (by omega)]
  have hp1 := Nat.mul_pos h1 h2
  have e3 : (l.drop (2 * c)).tail.tail = l.drop (2 * (c + 1)) := by rw [List.tail_drop, List.tail_drop]; rfl
  have e4 : (l.drop (2 * c)).tail = l.drop (2 * c + 1) := by rw [List.tail_drop]
  have e5 : wrap64 (((2 * c : Nat) : Int) + 1) = ((2 * c + 1 : Nat) : Int) := w_one (by omega)
  have e6 : wrap64 (((2 * c : Nat) : Int) + 2) = ((2 * (c + 1) : Nat) : Int) := w_two (by omega)
  rw [e3, e4]
  refine Ev.ff (by omega) (Ev.step (fun _ => spec_l17Divide.j0.eq_2 ..) (Ev.ff (by rw [beq_iff_eq]; omega) (Ev.bnd0 (spec_choice l (2 * c)) (Ev.bnd0 (by rw [e5]; exact spec_choice l (2 * c + 1)) ?_))))
  by_cases hc : rw ≤ rh
  ·rw [if_pos hc]
   have hk : nx (l.drop (2 * c)) % (rh - 1) < rh - 1 := Nat.mod_lt _ (by omega)
   have hp : nx (l.drop (2 * c + 1)) % rw < rw := Nat.mod_lt _ (by omega)
   have e7 : wrap64 ((rh : Int) - 1) = ((rh - 1 : Nat) : Int) := w_pre (by omega) (by omega)
   have e8 : Int.tmod ((nx (l.drop (2 * c)) : Nat) : Int) ((rh - 1 : Nat) : Int) = ((nx (l.drop (2 * c)) % (rh - 1) : Nat) : Int) := by rw [Int.tmod_eq_emod_of_nonneg (by omega), ← Int.natCast_emod]
   have e9 : Int.tmod ((nx (l.drop (2 * c + 1)) : Nat) : Int) (rw : Int) = ((nx (l.drop (2 * c + 1)) % rw : Nat) : Int) := by rw [Int.tmod_eq_emod_of_nonneg (by omega), ← Int.natCast_emod]
   rw [e6, e7, e8]
   refine Ev.tt (by omega) (Ev.ff (by omega) ?_)
   dsimp only
   generalize nx (l.drop (2 * c)) % (rh - 1) = k at *
   generalize nx (l.drop (2 * c + 1)) % rw = p at *
   refine sd_l0 (H := H) hW hH hg hx hy (show k + 1 < rh by omega) hlt hin e9 ?_ rw 0 (by omega)
   have hlt1 : closeL (fun i => sG W H (y + k) (x + i)) p rw o < 2 ^ gapsN W H := closeL_lt hlt fun i hi => (sG_facts hW hH (by omega) (by omega)).1
   have hop := open_row1 (p := p) hW hH hx hy (show k + 1 < rh by omega) hin
   generalize closeL (fun i => sG W H (y + k) (x + i)) p rw o = o1 at *
   have hm : rw * rh = rw * (k + 1) + rw * (rh - k - 1) := by rw [← Nat.mul_add]; congr 1; omega
   have a1 := sd_ev hW hH hg l f x y rw (k + 1) o1 (c + 1) h1 (by omega) (by omega) hx (by omega) hlt1 (fun g hg => hop g (.inl hg)) (cnt_ok hn hm (Nat.mul_pos h1 (by omega)))
   have a2 := divN_cnt W H f x y rw (k + 1) (l.drop (2 * (c + 1))) o1 (c + 1) h1 (by omega)
   have a3 := divN_main hW hH f x y rw (k + 1) (l.drop (2 * (c + 1))) o1 (c + 1) h1 (by omega) (by omega) hx (by omega) hlt1 (fun g hg => hop g (.inl hg))
   have a4 := divN_rest W H l f x y rw (k + 1) o1 (c + 1)
   generalize divN W H f x y rw (k + 1) (l.drop (2 * (c + 1))) o1 (c + 1) = r at *
   have b1 := sd_ev hW hH hg l f x (y + k + 1) rw (rh - k - 1) r.1 r.2.1 h1 (by omega) (by omega) hx (by omega) a3.lt (fun g hg => by rw [apart_row hW hH hx hy (by omega) a3 g hg]; exact hop g (.inr hg)) (cnt_ok2 hn hm a2.2)
   rw [wsucc (i := k) (by omega), w_mid (y := y) (k := k) (by omega), w_end (m := rh) (k := k) (by omega) (by omega)]
   rw [a4]
   exact Ev.bind a1 (Ev.bind b1 (Ev.ret rfl))
  ·rw [if_neg hc]
   have hk : nx (l.drop (2 * c)) % (rw - 1) < rw - 1 := Nat.mod_lt _ (by omega)
   have hp : nx (l.drop (2 * c + 1)) % rh < rh := Nat.mod_lt _ (by omega)
   have e7 : wrap64 ((rw : Int) - 1) = ((rw - 1 : Nat) : Int) := w_pre (by omega) (by omega)
   have e8 : Int.tmod ((nx (l.drop (2 * c)) : Nat) : Int) ((rw - 1 : Nat) : Int) = ((nx (l.drop (2 * c)) % (rw - 1) : Nat) : Int) := by rw [Int.tmod_eq_emod_of_nonneg (by omega), ← Int.natCast_emod]
   have e9 : Int.tmod ((nx (l.drop (2 * c + 1)) : Nat) : Int) (rh : Int) = ((nx (l.drop (2 * c + 1)) % rh : Nat) : Int) := by rw [Int.tmod_eq_emod_of_nonneg (by omega), ← Int.natCast_emod]
   rw [e6, e7, e8]
   refine Ev.ff (by omega) (Ev.ff (by omega) ?_)
   dsimp only
   generalize nx (l.drop (2 * c)) % (rw - 1) = k at *
   generalize nx (l.drop (2 * c + 1)) % rh = p at *
   refine sd_l1 (H := H) hW hH hg hx hy (show k + 1 < rw by omega) hlt hin e9 ?_ rh 0 (by omega)
   have hlt1 : closeL (fun i => eG W (y + i) (x + k)) p rh o < 2 ^ gapsN W H := closeL_lt hlt fun i hi => (eG_facts hW hH (by omega) (by omega)).1
   have hop := open_col1 (p := p) hW hH hx hy (show k + 1 < rw by omega) hin
   generalize closeL (fun i => eG W (y + i) (x + k)) p rh o = o1 at *
   have hm : rw * rh = (k + 1) * rh + (rw - k - 1) * rh := by rw [← Nat.add_mul]; congr 1; omega
   have a1 := sd_ev hW hH hg l f x y (k + 1) rh o1 (c + 1) (by omega) h2 (by omega) (by omega) hy hlt1 (fun g hg => hop g (.inl hg)) (cnt_ok hn hm (Nat.mul_pos (by omega) h2))
   have a2 := divN_cnt W H f x y (k + 1) rh (l.drop (2 * (c + 1))) o1 (c + 1) (by omega) h2
   have a3 := divN_main hW hH f x y (k + 1) rh (l.drop (2 * (c + 1))) o1 (c + 1) (by omega) h2 (by omega) (by omega) hy hlt1 (fun g hg => hop g (.inl hg))
   have a4 := divN_rest W H l f x y (k + 1) rh o1 (c + 1)
   generalize divN W H f x y (k + 1) rh (l.drop (2 * (c + 1))) o1 (c + 1) = r at *
   have b1 := sd_ev hW hH hg l f (x + k + 1) y (rw - k - 1) rh r.1 r.2.1 (by omega) h2 (by omega) (by omega) hy a3.lt (fun g hg => by rw [apart_col hW hH hx hy (by omega) a3 g hg]; exact hop g (.inr hg)) (cnt_ok2 hn hm a2.2)
   rw [wsucc (i := k) (by omega), w_mid (y := x) (k := k) (by omega), w_end (m := rw) (k := k) (by omega) (by omega)]
   rw [a4]
   exact Ev.bind a1 (Ev.bind b1 (Ev.ret rfl))
end Go.Proofs.Ytbeajmcjfhbcjaa.P
namespace Go.Proofs.Ytbeajmcjfhbcjaa.P
open Go.RowKit Go.Proofs.YtbeajmcjfhbcjaaW.PrintWords Go.Proofs.YtbeajmcjfhbcjaaW.PrintLast Go.Proofs.YtbeajmcjfhbcjaaW.PrintMore
attribute [local go_sem] max2_int min2_int max_two min_two max_three min_three max_four min_four   -- for this text's walks alone
set_option linter.unusedVariables false
set_option linter.unusedSimpArgs false

end Go.Proofs.Ytbeajmcjfhbcjaa.P
namespace Go.Proofs.Ytbeajmcjfhbcjaa.P
open Go.RowKit Go.Proofs.YtbeajmcjfhbcjaaW.PrintWords
set_option linter.unusedVariables false
set_option linter.unusedSimpArgs false

theorem impl_DivideMaze_ev {W H : Nat} (hW : W < 5) (hH : H < 5) (hg : gridOk W H = true) (l : List Int) : Ev (fun k => impl_DivideMaze.f k W H l) ((W : Int), (H : Int), (((divd W H l).1 : Nat) : Int)) := by
 unfold impl_DivideMaze.f
 exact Ev.bind (impl_divided_ev hW hH hg l) (Ev.ret rfl)
theorem impl_DivideMaze_bad {w h : Int} (hg : gridOk w h = false) (l : List Int) : Ev (fun k => impl_DivideMaze.f k w h l) (0, 0, 0) := by
 unfold impl_DivideMaze.f
 exact Ev.bind (impl_divided_bad hg l) (Ev.ret rfl)
theorem sd_top {W H : Nat} (hW : W < 5) (hH : H < 5) (hg : gridOk W H = true) (l : List Int) : Ev (fun k => spec_l17Divide.f k W H (fullN W H : Nat) 0 0 W H l 0) ((W : Int), (H : Int), (((divd W H l).1 : Nat) : Int), ((2 * (divd W H l).2 : Nat) : Int)) := by
 have hgr := gridOk_iff.1 hg
 have hm : W * H ≤ 4 * 4 := Nat.mul_le_mul (by omega) (by omega)
 exact sd_ev hW hH hg l (W + H) 0 0 W H (fullN W H) 0 (by omega) (by omega) (by omega) (by omega) (by omega) (fullN_lt _ _) (fun g hgi => full_bits (inn_lt hW hH (by omega) (by omega) hgi)) (by omega)
theorem spec_DivideMaze_ev {W H : Nat} (hW : W < 5) (hH : H < 5) (hg : gridOk W H = true) (l : List Int) : Ev (fun k => spec_DivideMaze.f k W H l) ((W : Int), (H : Int), (((divd W H l).1 : Nat) : Int)) := by
 unfold spec_DivideMaze.f
 exact Ev.bnd0 (spec_GridOk_eq _ _) (Ev.tt hg (Ev.bnd0 (spec_FullMaze_eq hg) (Ev.bind (sd_top hW hH hg l) (Ev.ret rfl))))
theorem spec_DivideMaze_bad {w h : Int} (hg : gridOk w h = false) (l : List Int) : Ev (fun k => spec_DivideMaze.f k w h l) (0, 0, 0) := by
 unfold spec_DivideMaze.f
 exact Ev.bnd0 (spec_GridOk_eq _ _) (Ev.ff (by rw [hg]; decide) (Ev.ret rfl))
theorem toIntS_l0 (l : List Int) (hl : l.length ≤ 35184372088832) : ∀ (d i : Nat) (m : List Int), l.length - i = d → i ≤ l.length → m.length = l.length → (∀ j, j < i → rd m j = rd l j) → Ev (fun k => laws_toIntS.l0 k l m i) l
 | 0, i, m, hd, hi, hm, he => by
  refine Ev.step (fun _ => laws_toIntS.l0.eq_2 ..) ?_
  refine Ev.ff (by omega) (Ev.ret ?_)
  refine List.ext_getElem hm fun j h1 h2 => ?_
  have := he j (by omega)
  rwa [rd_get h1, rd_get h2] at this
 | d + 1, i, m, hd, hi, hm, he => by
  refine Ev.step (fun _ => laws_toIntS.l0.eq_2 ..) ?_
  refine Ev.tt (by omega) (Ev.tt (by omega) (Ev.tt (by omega) ?_))
  rw [wsucc (by omega)]
  refine toIntS_l0 l hl d (i + 1) _ (by omega) (by omega) (by rw [List.length_set]; exact hm) fun j hj => ?_
  by_cases e : j = i
  ·subst e
   rw [rd_get (by rw [List.length_set]; omega)]
   simp [rd_get (show j < l.length by omega)]
  ·rw [← he j (by omega), rd_get (by rw [List.length_set]; omega), rd_get (by omega)]
   simp only [Int.toNat_natCast]
   rw [List.getElem_set_ne (by omega), rd_get (by omega)]
theorem toIntS_ev (l : List Int) (hl : l.length ≤ 35184372088832) : Ev (fun k => laws_toIntS.f k l) l := by
 unfold laws_toIntS.f
 refine Ev.tt (by omega) (Ev.tt (by omega) ?_)
 exact toIntS_l0 l hl l.length 0 _ (by omega) (by omega) (by simp) (fun j hj => by omega)

theorem eqIntS_l0 (a b : List Int) (hl : a.length = b.length) (hb : b.length ≤ 35184372088832) : ∀ (d i : Nat), a.length - i = d → i ≤ a.length → Ev (fun k => laws_eqIntS.l0 k a b i) (decide (a.drop i = b.drop i))
 | 0, i, hd, hi => by
  refine Ev.step (fun _ => laws_eqIntS.l0.eq_2 ..) ?_
  refine Ev.ff (by omega) (Ev.ret ?_)
  rw [List.drop_eq_nil_of_le (by omega), List.drop_eq_nil_of_le (by omega)]
  rfl
 | d + 1, i, hd, hi => by
  refine Ev.step (fun _ => laws_eqIntS.l0.eq_2 ..) ?_
  refine Ev.tt (by omega) (Ev.tt (by omega) (Ev.tt (by omega) ?_))
  have h1 : a.drop i = a[i]'(by omega) :: a.drop (i + 1) := List.drop_eq_getElem_cons (by omega)
  have h2 : b.drop i = b[i]'(by omega) :: b.drop (i + 1) := List.drop_eq_getElem_cons (by omega)
  rw [rd_get (show i < a.length by omega), rd_get (show i < b.length by omega), h1, h2]
  refine Ev.ite (fun e => ?_) (fun e => ?_)
  ·rw [wsucc (by omega)]
   refine Ev.eq (eqIntS_l0 a b hl hb d (i + 1) (by omega) (by omega)) ?_
   rw [decide_eq_decide, List.cons.injEq, e]
   simp only [true_and]
  ·refine Ev.ret ?_
   symm
   rw [decide_eq_false_iff_not, List.cons.injEq]
   exact fun h => e h.1
theorem eqIntS_ev (a b : List Int) (hb : b.length ≤ 35184372088832) : Ev (fun k => laws_eqIntS.f k a b) (decide (a = b)) := by
 unfold laws_eqIntS.f
 refine Ev.ite (fun h => ?_) (fun h => ?_)
 ·have := eqIntS_l0 a b (by omega) hb a.length 0 (by omega) (by omega)
  simpa using this
 ·refine Ev.ret ?_
  have : a ≠ b := by rintro rfl; exact h rfl
  simp [this]

end Go.Proofs.Ytbeajmcjfhbcjaa.P
namespace Go.Proofs.Ytbeajmcjfhbcjaa.P
open Go.RowKit Go.Proofs.YtbeajmcjfhbcjaaW.PrintWords Go.Proofs.Ytbeajmcjfhbcjaa.Sup
set_option linter.unusedVariables false
set_option linter.unusedSimpArgs false

theorem FnExactDivideMaze_pure (a0_0 a0_1 : Int) (w0_0 : InR a0_0) (w0_1 : InR a0_1) (l : List Int) (hy : l.length * 8 ≤ 140737488351232) (hz : ∀ x ∈ l, InR x) : ∃ k, laws_FnExactDivideMaze.f k a0_0 a0_1 l = some true := by
 refine Ev.rounds ?_
 have key : ∃ r : Int × Int × Int, Ev (fun k => impl_DivideMaze.f k a0_0 a0_1 l) r ∧ Ev (fun k => spec_DivideMaze.f k a0_0 a0_1 l) r := by
  by_cases hg : gridOk a0_0 a0_1 = true
  ·obtain ⟨W, H, rfl, rfl, _, hW, _, hH⟩ := grid_nat hg
   exact ⟨_, impl_DivideMaze_ev hW hH hg l, spec_DivideMaze_ev hW hH hg l⟩
  ·exact ⟨_, impl_DivideMaze_bad (Bool.eq_false_iff.2 hg) l, spec_DivideMaze_bad (Bool.eq_false_iff.2 hg) l⟩
 obtain ⟨⟨r1, r2, r3⟩, hi, hs⟩ := key
 unfold laws_FnExactDivideMaze.f laws_toGrid.f laws_eqMaze.f laws_eqGrid.f
 refine Ev.ite (fun _ => Ev.ret rfl) (fun h => ?_)
 have hl : l.length ≤ 1048576 := by omega
 refine Ev.bnd0 rfl (Ev.bind (toIntS_ev l (by omega)) (Ev.bind hs (Ev.bind (toIntS_ev l (by omega)) (Ev.bnd0 rfl (Ev.bind hi ?_)))))
 simp only [if_true, Option.bind_some, decide_true, and_self]
 refine Ev.bind (toIntS_ev l (by omega)) (Ev.bind (eqIntS_ev l l (by omega)) ?_)
 exact Ev.tt (by simp) (Ev.ret rfl)
end Go.Proofs.Ytbeajmcjfhbcjaa.P
namespace Go.Proofs.Ytbeajmcjfhbcjaa.fnExactDivideMaze
open Go.ChangeShapes Go.WideShapes Go.ChangeAt Go.RowKit Go.Proofs.YtbeajmcjfhbcjaaW.PrintWords Go.Proofs.Ytbeajmcjfhbcjaa.Sup
open Go.ChangeMaps (open_string shut_string)
set_option linter.unusedVariables false
theorem own : ownKnob Try.prog.godebug = none := by kernel_rfl
theorem laidOut : laidOutB Try.prog = true := by kernel_rfl
set_option maxRecDepth 100000 in
theorem lifted (os : Os) (started : os.Started) (H : Type) (enc : TypeId × Value → H) :
    ReturnsInHanded {} Try.checked os 9 .any (Rows.fnExactDivideMazeSpec.pre6 enc Try.prog Try.f9 Rows.fnExactDivideMazeRow.domain false) (Rows.fnExactDivideMazeSpec.post enc Try.prog Try.f9 false true false false) := by
  refine returnsInHanded_of_change_sized (C := Try.checked) own started (by kernel_rfl) Try.func9
    (ChangeSpec.witness6 (enc := enc) (C := Try.checked) false ⟨#[], #[.agg #[.int .i64 0, .int .i64 0], .slice none 0 0], []⟩ 8 (by kernel_rfl) (by kernel_rfl) (by kernel_rfl) (by kernel_rfl)) ?_
  intro W base args ds gs before hval0 hW hcnd hsz0 _
  have hsz : (DataW.weightsEach Try.prog (Try.f9.params.toList ++ Rows.fnExactDivideMazeSpec.plain.varTypes Try.prog) (ds ++ gs)).all (· ≤ reachBytes) = true := hsz0
  have hval : ∀ (j : Nat) t v, Try.f9.params[j]? = some t → args[j]? = some v → Value.okWide Try.prog W .any base t v := hval0
  have hW' := hW
  obtain ⟨p, q, hA0, hV, rfl, hfz, hnd⟩ := hW
  have hA : DataW.TrodAll enc Try.prog W 0 (fun _ => true) true Try.f9.params.toList args.toList ds p := hA0
  rw [Try.params9] at hA hval hsz
  obtain ⟨v0, vs0, d0, ds0, p0, q0, hargs, rfl, rfl, h0, r0⟩ := trodAll_cons hA
  obtain ⟨v1, vs1, d1, ds1, p1, q1, rfl, rfl, rfl, h1, r1⟩ := trodAll_cons r0
  obtain ⟨rfl, rfl, rfl⟩ := trodAll_nil r1
  obtain rfl : args = #[v0, v1] := by cases args; simp_all
  obtain ⟨rfl, rfl⟩ := trodVars_none hV
  have k0 := h0
  have lt0 : ∀ x ∈ p0, x.block < W.heap.size := by obtain ⟨m, hm⟩ := k0; exact DataW.trod_lt m _ _ _ hm
  obtain ⟨a0_0, a0_1, rfl, w0_0, w0_1⟩ := open2 Try.underlying31 (by kernel_rfl) (by kernel_rfl) rfl rfl (by kernel_rfl) (by kernel_rfl) (by kernel_rfl) (hval 0 31 v0 rfl rfl) h0
  obtain ⟨a1, len1, cap1, rfl⟩ := okWide_slice Try.underlying39 (hval 1 39 v1 rfl rfl)
  have k1 := h1
  have lt1 : ∀ x ∈ p1, x.block < W.heap.size := by obtain ⟨m, hm⟩ := k1; exact DataW.trod_lt m _ _ _ hm
  obtain ⟨z1, w1⟩ : ∃ zs, IsRow .i64 W a1 len1 cap1 zs := by
    obtain ⟨fuel, hf⟩ := h1
    rcases open_ints Try.underlying39 Try.underlying3 (by kernel_rfl) hf with ⟨hcs, _⟩ | ⟨x, l, c, zs, hcs, _, hl, hm, hz, _, hcell, hwz⟩
    · simp [Value.cells] at hcs
      obtain ⟨rfl, rfl, rfl⟩ := hcs
      exact ⟨[], .inl ⟨rfl, rfl, rfl, rfl⟩⟩
    · simp [Value.cells] at hcs
      obtain ⟨rfl, rfl, rfl⟩ := hcs
      exact ⟨zs, .inr ⟨_, rfl, hl, hm, by simpa using hz, hcell, hwz⟩⟩
  have y1 : len1 * 8 ≤ 140737488351232 := sized_ints hsz (j := 1) (t := 39) rfl rfl Try.underlying39 Try.underlying3 (by kernel_rfl) (by kernel_rfl) h1
  obtain ⟨l1, rfl, hr1, hm1, hw1, hc1⟩ := ReadsInt.ofRowC w1
  clear hA0 hval0 hsz0 hsz
  obtain ⟨k, hf⟩ := P.FnExactDivideMaze_pure a0_0 a0_1 w0_0 w0_1 l1 (by omega) (fun x hx => inR_of_wf (hw1 x hx))
  refine (P.laws_FnExactDivideMaze.calls k a0_0 a0_1 _ _ l1 true W (Kd.C_of_reads (d := (0 : Int)) (h1 := fun _ => rfl) hr1) hc1 hf).mono fun e W' ⟨he, bel0⟩ => ?_
  have bel : Below W.heap.size W W' := bel0
  subst he
  exact ⟨_, rfl, _, _, _, [], _, [], hW', trodAll_mk1 (shut_bool Try.underlying4 _), (trodAll_cons_mk (Below.trod laidOut (by kernel_rfl) (of_decide_eq_true (by kernel_rfl)) k0 bel lt0) (trodAll_cons_mk (Below.trod laidOut (by kernel_rfl) (of_decide_eq_true (by kernel_rfl)) k1 bel lt1) trodAll_mk0)), rfl, bel.frame _, fun h => by cases h⟩
theorem over : Rows.fnExactDivideMazeRow.holds Try.pinned (OpenSpec.ofChange Rows.fnExactDivideMazeSpec) :=
  OpenClaim.holds_of_wide 9 Try.f9 rfl rfl rfl rfl rfl rfl rfl ⟨rfl, rfl, rfl, rfl, rfl⟩ rfl rfl rfl rfl rfl (by kernel_rfl) Try.func9 (by kernel_rfl)
    (of_decide_eq_true (by kernel_rfl)) (by unfold Func.isWrapper; first | (rw [if_pos (by decide +kernel)]; kernel_rfl) | (rw [if_neg (by decide +kernel)]; exact ⟨rfl, rfl⟩))
    (fun os started H enc _ => lifted os started H enc)
theorem proved : Rows.FnExactDivideMazeSaid := over
end Go.Proofs.Ytbeajmcjfhbcjaa.fnExactDivideMaze
namespace Go.Proofs.Ytbeajmcjfhbcjaa
/-- The row, under a short name, for the claim. -/
theorem fnExactDivideMaze_holds : Rows.FnExactDivideMazeSaid := fnExactDivideMaze.proved
#print axioms fnExactDivideMaze_holds
end Go.Proofs.Ytbeajmcjfhbcjaa
