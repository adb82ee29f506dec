/- The statement FnMasks of the seat, out of its plain form (FnMasks_pure) and the walk of its Go function. Part 6 of 6: each Go function's walk, then the plain lemmas, then the row. No condition: it holds for every input. -/
import Derived.Test.YtbeajmcjfhbcjaaBFnMasks5
import Derived.Test.YtbeajmcjfhbcjaaRows
import Derived.Below
import Derived.ChangeOld
import Derived.Deep.Matrix
import Derived.Lib.SmallJoins
import Derived.OpenShut
import Derived.ProofKit
import Derived.ShutString
import Derived.SizedLaws
import Derived.WalkKit
namespace Go.Proofs.Ytbeajmcjfhbcjaa.Sup
open Go.ChangeShapes Go.WideShapes Go.ChangeAt Go.RowKit Go.Joins Go.Proofs.YtbeajmcjfhbcjaaW.PrintWords
set_option linter.unusedVariables false
set_option linter.unusedSimpArgs false

theorem u8_of_wf {a : Int} (h : (Lit.int .u8 a).wf = true) : 0 ≤ a ∧ a ≤ 255 := by
  simp only [Lit.wf, IntKind.min, IntKind.max, IntKind.signed, IntKind.bits, Bool.and_eq_true, decide_eq_true_eq] at h
  simp at h
  omega

section
variable {H : Type} {enc : TypeId × Value → H} {P : Program} {w : World} {base : Nat} {spare : Nat → Bool} {held : Bool}

end

def IsRow (k : IntKind) (w : World) (a : Option Addr) (len cap : Nat) (zs : List Int) : Prop :=
  (a = none ∧ len = 0 ∧ cap = 0 ∧ zs = []) ∨
  ∃ x, a = some x ∧ len ≤ cap ∧ cap ≤ maxLen ∧ zs.length = cap ∧ (∀ i, i < zs.length → w.cell? (x.add i) = some (.int k (zs.getD i 0))) ∧ ∀ n ∈ zs, (Lit.int k n).wf = true

end Go.Proofs.Ytbeajmcjfhbcjaa.Sup
namespace Go.Proofs.Ytbeajmcjfhbcjaa.P
open Go.RowKit Go.Proofs.YtbeajmcjfhbcjaaW.PrintWords
set_option linter.unusedVariables false
set_option linter.unusedSimpArgs false

theorem l01In_eq (a b c : Int) : spec_l01In.f a b c = some (decide (b ≤ a ∧ a ≤ c)) := by
  unfold spec_l01In.f
  by_cases h : a ≥ b
  · rw [if_pos h]; congr 1; simp; omega
  · rw [if_neg h]; congr 1; simp; omega

end Go.Proofs.Ytbeajmcjfhbcjaa.P
namespace Go.Proofs.Ytbeajmcjfhbcjaa.P
open Go.RowKit Go.Proofs.YtbeajmcjfhbcjaaW.PrintWords Go.Proofs.Ytbeajmcjfhbcjaa.Sup
set_option linter.unusedVariables false
set_option linter.unusedSimpArgs false

theorem spec_GridOk_eq (w h : Int) : spec_GridOk.f w h = some (gridOk w h) := by
  unfold spec_GridOk.f
  simp only [l01In_eq, Option.bind_some]
  unfold gridOk
  by_cases h1 : 1 ≤ w ∧ w ≤ 4
  · simp only [h1, and_self, decide_true, if_true, true_and]
  · have : ¬ (1 ≤ w ∧ w ≤ 4 ∧ 1 ≤ h ∧ h ≤ 4) := by omega
    rw [decide_eq_false h1, decide_eq_false this]; simp
theorem impl_GridOk_eq (w h : Int) : impl_GridOk.f w h = some (gridOk w h) := by
  unfold impl_GridOk.f gridOk
  repeat' split
  all_goals congr 1
  all_goals first | (rw [decide_eq_decide]; omega) | (symm; rw [decide_eq_false_iff_not]; omega)

theorem impl_CountCells_eq (w h : Int) : impl_CountCells.f w h = some (cellsOf w h) := by
  unfold impl_CountCells.f
  rw [impl_GridOk_eq, Option.bind_some]
  have := cellsOf_range w h
  unfold cellsOf at *
  by_cases hg : gridOk w h = true
  · rw [if_pos hg] at *
    rw [if_pos hg, wrap64_id (by omega) (by omega)]
  · rw [if_neg hg, if_neg hg]
theorem spec_CountCells_eq (w h : Int) : spec_CountCells.f w h = some (cellsOf w h) := by
  unfold spec_CountCells.f
  rw [spec_GridOk_eq, Option.bind_some]
  have := cellsOf_range w h
  unfold cellsOf at *
  by_cases hg : gridOk w h = true
  · rw [if_pos hg] at *
    rw [if_pos hg, wrap64_id (by omega) (by omega)]
  · rw [if_neg hg, if_neg hg]
theorem impl_CountGaps_eq (w h : Int) : impl_CountGaps.f w h = some (gapsOf w h) := by
  unfold impl_CountGaps.f
  rw [impl_GridOk_eq, Option.bind_some]
  unfold gapsOf
  by_cases hg : gridOk w h = true
  · rw [if_pos hg, if_pos hg]
    obtain ⟨h1 | h1 | h1 | h1, h2 | h2 | h2 | h2⟩ := grid_cases hg <;> subst h1 <;> subst h2 <;> simp [wrap64, eastOf]
  · rw [if_neg hg, if_neg hg]
/-- 2 to the power of a small number. -/
theorem shl_one {n : Int} (h0 : 0 ≤ n) (h1 : n ≤ 24) : shl .i64 1 n = 2 ^ n.toNat := by
  obtain ⟨m, rfl⟩ := Int.eq_ofNat_of_zero_le h0
  have : m ≤ 24 := by omega
  clear h0 h1
  revert m
  decide +kernel
end Go.Proofs.Ytbeajmcjfhbcjaa.P
namespace Go.Proofs.Ytbeajmcjfhbcjaa.P
open Go.RowKit Go.Proofs.YtbeajmcjfhbcjaaW.PrintWords Go.Proofs.YtbeajmcjfhbcjaaW.PrintLast Go.Proofs.YtbeajmcjfhbcjaaW.PrintMore
attribute [local go_sem] max2_int min2_int max_two min_two max_three min_three max_four min_four   -- for this text's walks alone
set_option linter.unusedVariables false
set_option linter.unusedSimpArgs false

/-! ### spec_Neighbor: function 81 -/
end Go.Proofs.Ytbeajmcjfhbcjaa.P
namespace Go.Proofs.Ytbeajmcjfhbcjaa.P
open Go.RowKit Go.Proofs.YtbeajmcjfhbcjaaW.PrintWords
set_option linter.unusedVariables false
set_option linter.unusedSimpArgs false

theorem impl_isCell_eq (w h c : Int) : impl_isCell.f w h c = some (isCellI w h c) := by
  unfold impl_isCell.f isCellI
  rw [impl_CountCells_eq]
  by_cases hc : c ≥ 0
  · rw [if_pos hc, Option.bind_some]; congr 1; rw [decide_eq_decide]; omega
  · rw [if_neg hc]; congr 1; symm; rw [decide_eq_false_iff_not]; omega
theorem impl_Neighbor_ev (w h c d : Int) : Ev (fun k => impl_Neighbor.f k w h c d) (nbI w h c d) := by
  unfold impl_Neighbor.f nbI
  refine Ev.bnd0 (impl_isCell_eq w h c) ?_
  unfold isCellI
  by_cases hc : 0 ≤ c ∧ c < cellsOf w h
  · rw [if_pos hc]
    obtain ⟨hg, hcw⟩ := cellsOf_valid hc.1 hc.2
    have hcr := cellsOf_range w h
    have hgr := gridOk_iff.1 hg
    refine Ev.tt (by simpa using hc) (Ev.ff (by omega) ?_)
    have hx0 : 0 ≤ c % w := Int.emod_nonneg _ (by omega)
    have hx1 : c % w < w := Int.emod_lt_of_pos _ (by omega)
    have hy0 : 0 ≤ c / w := Int.ediv_nonneg hc.1 (by omega)
    have hy1 : c / w ≤ c := Int.ediv_le_self _ hc.1
    rw [Int.tmod_eq_emod_of_nonneg hc.1, Int.tdiv_eq_ediv_of_nonneg hc.1, wrap64_id (x := c / w) (by omega) (by omega)]
    generalize c % w = x at *
    generalize c / w = y at *
    have j2 : ∀ b : Bool, (d ≠ 0 ∨ ¬ 0 < y) → (d ≠ 1 ∨ ¬ x < w - 1) → (b = true ↔ d = 2 ∧ y < h - 1) → Ev (fun k => impl_Neighbor.j2 k c d x b w h) (if d = 2 ∧ y < h - 1 then c + w else if d = 3 ∧ 0 < x then c - 1 else -1) := by
      intro b _ _ hb
      refine Ev.step (fun _ => impl_Neighbor.j2.eq_2 ..) ?_
      refine Ev.ite (fun e => ?_) (fun e => ?_)
      · rw [if_pos (hb.1 e), wrap64_id (by omega) (by omega)]; exact Ev.ret rfl
      · rw [if_neg (fun h => e (hb.2 h))]
        refine Ev.ite (fun e3 => Ev.ite (fun e4 => ?_) (fun e4 => ?_)) (fun e3 => ?_)
        · rw [if_pos ⟨e3, e4⟩, wrap64_id (by omega) (by omega)]; exact Ev.ret rfl
        · rw [if_neg (fun h => e4 h.2)]; exact Ev.ret rfl
        · rw [if_neg (fun h => e3 h.1)]; exact Ev.ret rfl
    have j1 : ∀ b : Bool, (d ≠ 0 ∨ ¬ 0 < y) → (b = true ↔ d = 1 ∧ x < w - 1) → Ev (fun k => impl_Neighbor.j1 k c d x y b w h) (if d = 1 ∧ x < w - 1 then c + 1 else if d = 2 ∧ y < h - 1 then c + w else if d = 3 ∧ 0 < x then c - 1 else -1) := by
      intro b h0 hb
      refine Ev.step (fun _ => impl_Neighbor.j1.eq_2 ..) ?_
      refine Ev.ite (fun e => ?_) (fun e => ?_)
      · rw [if_pos (hb.1 e), wrap64_id (by omega) (by omega)]; exact Ev.ret rfl
      · have hn : ¬ (d = 1 ∧ x < w - 1) := fun h => e (hb.2 h)
        rw [if_neg hn]
        refine Ev.ite (fun e2 => ?_) (fun e2 => ?_)
        · refine j2 _ h0 (by omega) ?_
          rw [wrap64_id (by omega) (by omega)]
          simp [e2]
        · exact j2 _ h0 (by omega) (by simp [e2])
    have j0 : ∀ b : Bool, (b = true ↔ d = 0 ∧ 0 < y) → Ev (fun k => impl_Neighbor.j0 k c d x y b w h) (if d = 0 ∧ 0 < y then c - w else if d = 1 ∧ x < w - 1 then c + 1 else if d = 2 ∧ y < h - 1 then c + w else if d = 3 ∧ 0 < x then c - 1 else -1) := by
      intro b hb
      refine Ev.step (fun _ => impl_Neighbor.j0.eq_2 ..) ?_
      refine Ev.ite (fun e => ?_) (fun e => ?_)
      · rw [if_pos (hb.1 e), wrap64_id (by omega) (by omega)]; exact Ev.ret rfl
      · have hn : ¬ (d = 0 ∧ 0 < y) := fun h => e (hb.2 h)
        rw [if_neg hn]
        refine Ev.ite (fun e2 => ?_) (fun e2 => ?_)
        · refine j1 _ (by omega) ?_
          rw [wrap64_id (by omega) (by omega)]
          simp [e2]
        · exact j1 _ (by omega) (by simp [e2])
    refine Ev.ite (fun e => ?_) (fun e => ?_)
    · exact j0 _ (by simp [e])
    · exact j0 _ (by simp [e])
  · rw [if_neg hc]
    exact Ev.ff (by simpa using hc) (Ev.ret rfl)
end Go.Proofs.Ytbeajmcjfhbcjaa.P
namespace Go.Proofs.Ytbeajmcjfhbcjaa.P
open Go.RowKit Go.Proofs.YtbeajmcjfhbcjaaW.PrintWords Go.Proofs.YtbeajmcjfhbcjaaW.PrintLast Go.Proofs.YtbeajmcjfhbcjaaW.PrintMore
attribute [local go_sem] max2_int min2_int max_two min_two max_three min_three max_four min_four   -- for this text's walks alone
set_option linter.unusedVariables false
set_option linter.unusedSimpArgs false

/-! ### spec_MazeOk: function 94 -/
/-! ### spec_l03Bit: function 134 -/
end Go.Proofs.Ytbeajmcjfhbcjaa.P
namespace Go.Proofs.Ytbeajmcjfhbcjaa.P
open Go.RowKit Go.Proofs.YtbeajmcjfhbcjaaW.PrintWords
set_option linter.unusedVariables false
set_option linter.unusedSimpArgs false

theorem impl_MazeOk_eq (w h o : Int) : impl_MazeOk.f w h o = some (mazeOk w h o) := by
  have hc := gapsOf_range w h
  unfold impl_MazeOk.f mazeOk gapsN
  rw [impl_GridOk_eq, Option.bind_some]
  cases hg : gridOk w h
  · simp
  · rw [if_pos rfl, impl_CountGaps_eq, Option.bind_some, if_pos hc.1, shl_one hc.1 hc.2]
    simp only [Bool.true_and]
    split
    · congr 1; rw [decide_eq_decide]; omega
    · congr 1; symm; rw [decide_eq_false_iff_not]; omega
theorem impl_isOpen_eq (w h : Int) {n : Nat} (hn : n < 16777216) (g : Int) : impl_isOpen.f w h n g = some (openI n g) := by
  unfold impl_isOpen.f openI
  by_cases hg : g ≥ 0
  · rw [if_pos hg, if_pos hg]
    obtain ⟨m, rfl⟩ := Int.eq_ofNat_of_zero_le hg
    rw [bit_one (by omega)]
    simp
  · rw [if_neg hg]
    simp; omega
theorem impl_isGap_eq (w h g : Int) : impl_isGap.f w h g = some (isGapI w h g) := by
  unfold impl_isGap.f isGapI
  rw [impl_CountGaps_eq]
  by_cases hc : g ≥ 0
  · rw [if_pos hc, Option.bind_some]; congr 1; rw [decide_eq_decide]; omega
  · rw [if_neg hc]; congr 1; symm; rw [decide_eq_false_iff_not]; omega
/-! Sixteen small graphs: facts that are looked through -/
theorem impl_GapAt_ev (w h c d : Int) : Ev (fun k => impl_GapAt.f k w h c d) (gapI w h c d) := by
  unfold impl_GapAt.f gapI
  refine Ev.bind (impl_Neighbor_ev w h c d) ?_
  by_cases hn : nbI w h c d < 0
  · rw [if_pos hn, if_pos hn]
    exact Ev.ret rfl
  · rw [if_neg hn, if_neg hn]
    obtain ⟨hd, h0, h1⟩ := nb_dir (by omega : 0 ≤ nbI w h c d)
    obtain ⟨hg, hcw⟩ := cellsOf_valid h0 h1
    have hcr := cellsOf_range w h
    have hgr := gridOk_iff.1 hg
    have hlt := nb_lt (w := w) (h := h) (c := c) (d := d)
    have hmn : mn c (nbI w h c d) = min c (nbI w h c d) := by unfold mn; omega
    rw [hmn]
    have hm0 : 0 ≤ min c (nbI w h c d) := by omega
    have hm1 : min c (nbI w h c d) ≤ 15 := by omega
    generalize min c (nbI w h c d) = m at *
    have ha0 : 0 ≤ m / w := Int.ediv_nonneg hm0 (by omega)
    have ha1 : m / w ≤ m := Int.ediv_le_self _ hm0
    have hb0 : 0 ≤ m % w := Int.emod_nonneg _ (by omega)
    have hb1 : m % w < w := Int.emod_lt_of_pos _ (by omega)
    have hp0 : 0 ≤ m / w * (w - 1) := Int.mul_nonneg ha0 (by omega)
    have hp1 : m / w * (w - 1) ≤ 15 * 3 := Int.mul_le_mul (by omega) (by omega) (by omega) (by omega)
    have hq0 : 0 ≤ (w - 1) * h := Int.mul_nonneg (by omega) (by omega)
    have hq1 : (w - 1) * h ≤ 3 * 4 := Int.mul_le_mul (by omega) (by omega) (by omega) (by omega)
    rw [Int.tmod_eq_emod_of_nonneg hm0, Int.tdiv_eq_ediv_of_nonneg hm0, wrap64_id (x := m / w) (by omega) (by omega), wrap64_id (x := w - 1) (by omega) (by omega), wrap64_id (x := m / w * (w - 1)) (by omega) (by omega), wrap64_id (x := m / w * (w - 1) + m % w) (by omega) (by omega)]
    refine Ev.ite (fun e => Ev.ff (by omega) ?_) (fun e => Ev.ite (fun e3 => Ev.ff (by omega) ?_) (fun e3 => ?_))
    · rw [if_pos (.inl e)]; exact Ev.ret rfl
    · rw [if_pos (.inr e3)]; exact Ev.ret rfl
    · rw [if_neg (by omega)]
      rw [wrap64_id (x := (w - 1) * h) (by omega) (by omega), wrap64_id (by omega) (by omega)]
      exact Ev.ret rfl
/-- The directions from d on in which s leads somewhere. -/
def waysFrom (s : Int → Int) (d : Nat) : List Int := ([0, 1, 2, 3].drop d).filter fun x => decide (0 ≤ s x)
theorem waysFrom_succ (s : Int → Int) {d : Nat} (hd : d < 4) : waysFrom s d = if 0 ≤ s d then (d : Int) :: waysFrom s (d + 1) else waysFrom s (d + 1) := by
  have : d = 0 ∨ d = 1 ∨ d = 2 ∨ d = 3 := by omega
  rcases this with rfl | rfl | rfl | rfl <;> simp [waysFrom, List.filter_cons]
def waysI (w h : Int) (n : Nat) (c : Int) : List Int := waysFrom (stepI w h n c) 0
end Go.Proofs.Ytbeajmcjfhbcjaa.P
namespace Go.Proofs.Ytbeajmcjfhbcjaa.P
end Go.Proofs.Ytbeajmcjfhbcjaa.P
namespace Go.Proofs.Ytbeajmcjfhbcjaa.P
open Go.RowKit Go.Proofs.YtbeajmcjfhbcjaaW.PrintWords
set_option linter.unusedVariables false
set_option linter.unusedSimpArgs false

theorem impl_Step_ev {w h : Int} {n : Nat} (hg : gridOk w h = true) (hn : n < 2 ^ gapsN w h) (c d : Int) : Ev (fun k => impl_Step.f k w h n c d) (stepI w h n c d) := by
  unfold impl_Step.f stepI
  refine Ev.bnd0 (impl_MazeOk_eq w h n) (Ev.tt (mazeOk_iff.2 ⟨hg, n, rfl, hn⟩) ?_)
  refine Ev.bind (impl_GapAt_ev w h c d) (Ev.bnd0 (impl_isOpen_eq w h (open_small hn) _) ?_)
  by_cases ho : openI n (gapI w h c d) = true
  · rw [if_pos ho]
    exact Ev.tt ho (Ev.bind (impl_Neighbor_ev w h c d) (Ev.ret rfl))
  · rw [if_neg ho]
    exact Ev.ff ho (Ev.ret rfl)
theorem impl_Ways_l0 (w h : Int) (o c : Int) (s : Int → Int) (hs : ∀ d, Ev (fun k => impl_Step.f k w h o c d) (s d)) : ∀ (e d : Nat) (out : List Int), 4 - d = e → d ≤ 4 → out.length ≤ d →
    Ev (fun k => impl_WaysFrom.l0 k c out d w h o) (out ++ waysFrom s d)
  | 0, d, out, he, hd, hl => by
    refine Ev.step (fun _ => impl_WaysFrom.l0.eq_2 ..) ?_
    refine Ev.ff (by omega) (Ev.ret ?_)
    obtain rfl : d = 4 := by omega
    simp [waysFrom]
  | e + 1, d, out, he, hd, hl => by
    refine Ev.step (fun _ => impl_WaysFrom.l0.eq_2 ..) ?_
    refine Ev.tt (by omega) (Ev.bind (hs d) ?_)
    rw [wsucc (by omega), waysFrom_succ s (show d < 4 by omega)]
    refine Ev.ite (fun h1 => Ev.tt (by omega) ?_) (fun h1 => ?_)
    · rw [if_pos (by omega)]
      have := impl_Ways_l0 w h o c s hs e (d + 1) (out ++ [(d : Int)]) (by omega) (by omega) (by simp; omega)
      simpa using this
    · rw [if_neg (by omega)]
      exact impl_Ways_l0 w h o c s hs e (d + 1) out (by omega) (by omega) (by omega)
theorem impl_Ways_ev {w h : Int} {n : Nat} (hg : gridOk w h = true) (hn : n < 2 ^ gapsN w h) (c : Int) : Ev (fun k => impl_WaysFrom.f k w h n c) (waysI w h n c) := by
  unfold impl_WaysFrom.f waysI
  have := impl_Ways_l0 w h n c _ (fun d => impl_Step_ev hg hn c d) 4 0 [] (by omega) (by omega) (by simp)
  simpa using this
end Go.Proofs.Ytbeajmcjfhbcjaa.P
namespace Go.Proofs.Ytbeajmcjfhbcjaa.P
open Go.RowKit Go.Proofs.YtbeajmcjfhbcjaaW.PrintWords Go.Proofs.YtbeajmcjfhbcjaaW.PrintLast Go.Proofs.YtbeajmcjfhbcjaaW.PrintMore
attribute [local go_sem] max2_int min2_int max_two min_two max_three min_three max_four min_four   -- for this text's walks alone
set_option linter.unusedVariables false
set_option linter.unusedSimpArgs false

/-! ### spec_GapAt: function 139 -/
end Go.Proofs.Ytbeajmcjfhbcjaa.P
namespace Go.Proofs.Ytbeajmcjfhbcjaa.P
open Go.RowKit Go.Proofs.YtbeajmcjfhbcjaaW.PrintWords
set_option linter.unusedVariables false
set_option linter.unusedSimpArgs false

end Go.Proofs.Ytbeajmcjfhbcjaa.P
namespace Go.Proofs.Ytbeajmcjfhbcjaa.P
open Go.RowKit Go.Proofs.YtbeajmcjfhbcjaaW.PrintWords Go.Proofs.YtbeajmcjfhbcjaaW.PrintLast Go.Proofs.YtbeajmcjfhbcjaaW.PrintMore
attribute [local go_sem] max2_int min2_int max_two min_two max_three min_three max_four min_four   -- for this text's walks alone
set_option linter.unusedVariables false
set_option linter.unusedSimpArgs false

/-! ### spec_IsPassage: function 164 -/
/-! ### spec_Step: function 158 -/
/-! ### spec_WaysFrom: function 136 -/
end Go.Proofs.Ytbeajmcjfhbcjaa.P
namespace Go.Proofs.Ytbeajmcjfhbcjaa.P
open Go.RowKit Go.Proofs.YtbeajmcjfhbcjaaW.PrintWords
set_option linter.unusedVariables false
set_option linter.unusedSimpArgs false

end Go.Proofs.Ytbeajmcjfhbcjaa.P
namespace Go.Proofs.Ytbeajmcjfhbcjaa.P
open Go.RowKit Go.Proofs.YtbeajmcjfhbcjaaW.PrintWords
set_option linter.unusedVariables false
set_option linter.unusedSimpArgs false

def ints (q : List Nat) : List Int := q.map fun (x : Nat) => (x : Int)
theorem ints_length (q : List Nat) : (ints q).length = q.length := by simp [ints]
theorem ints_app (q : List Nat) (y : Nat) : ints (q ++ [y]) = ints q ++ [(y : Int)] := by simp [ints]
theorem rd_ints {q : List Nat} {i x : Nat} (h : q[i]? = some x) : rd (ints q) (i : Int) = x := by
  rw [rd_nat, List.getD_eq_getElem?_getD]
  simp [ints, h]
/-- A function on the numbers under v as a list. -/
def dlist (v : Nat) (D : Nat → Int) : List Int := (List.range v).map D
theorem dlist_length (v : Nat) (D : Nat → Int) : (dlist v D).length = v := by simp [dlist]
theorem rd_dlist {v : Nat} {D : Nat → Int} {c : Nat} (h : c < v) : rd (dlist v D) (c : Int) = D c := by
  rw [rd_get (by rw [dlist_length]; exact h)]
  simp [dlist]
theorem dlist_set {v : Nat} {D : Nat → Int} {y : Nat} {a : Int} (h : y < v) : (dlist v D).set y a = dlist v (upd D y a) := by
  refine List.ext_getElem (by simp [dlist]) fun i h1 h2 => ?_
  rw [List.getElem_set]
  simp only [dlist, upd, List.getElem_map, List.getElem_range]
  by_cases e : y = i
  · rw [if_pos e, if_pos e.symm]
  · rw [if_neg e, if_neg (fun e' => e e'.symm)]
/-- What is kept while the search goes on. -/
structure SI (v : Nat) (S : (Nat → Int) × List Nat) : Prop where
  le : ∀ c, S.1 c ≤ S.2.length
  low : ∀ c, -1 ≤ S.1 c
  lt : ∀ c ∈ S.2, c < v
theorem SI.relax {v : Nat} {s : Nat → Nat → Int} (hs : Rng s v) {S : (Nat → Int) × List Nat} (I : SI v S) {x d : Nat} (hx : x < v) (hd : d < 4) : SI v (relax s x d S) ∧ (relax s x d S).2.length ≤ S.2.length + 1 ∧ ∀ (i z : Nat), S.2[i]? = some z → (relax s x d S).2[i]? = some z := by
  unfold Go.Proofs.Ytbeajmcjfhbcjaa.P.relax
  split
  · rename_i hc
    refine ⟨⟨fun c => ?_, fun c => ?_, fun c hcq => ?_⟩, by simp, fun i z hz => ?_⟩
    · have := I.le c
      have := I.le x
      show upd _ _ _ c ≤ _
      unfold upd
      simp only [List.length_append, List.length_singleton]
      split <;> omega
    · have := I.low c
      have := I.low x
      show _ ≤ upd _ _ _ c
      unfold upd
      split <;> omega
    · rcases List.mem_append.1 hcq with h | h
      · exact I.lt c h
      · simp at h
        have := hs x d hx hd
        omega
    · have hi := (List.getElem?_eq_some_iff.1 hz).1
      rw [List.getElem?_append_left hi]; exact hz
  · exact ⟨I, by omega, fun i z hz => hz⟩
def relaxL (s : Nat → Nat → Int) (x : Nat) : List Nat → (Nat → Int) × List Nat → (Nat → Int) × List Nat
  | [], S => S
  | d :: ds, S => relaxL s x ds (relax s x d S)
theorem relaxL_filter (s : Nat → Nat → Int) (x : Nat) : ∀ l S, relaxL s x (l.filter fun d => decide (0 ≤ s x d)) S = relaxL s x l S
  | [], S => rfl
  | d :: ds, S => by
    rw [List.filter_cons]
    by_cases h : 0 ≤ s x d
    · simp only [h, decide_true, if_true, relaxL]
      exact relaxL_filter s x ds _
    · simp only [h, decide_false, Bool.false_eq_true, if_false, relaxL]
      rw [relaxL_filter s x ds S, show relax s x d S = S from if_neg fun hc => h hc.1]
theorem bround_eq (s : Nat → Nat → Int) (x : Nat) (S : (Nat → Int) × List Nat) : bround s x S = relaxL s x [0, 1, 2, 3] S := rfl
theorem waysI_ints (w h : Int) (n c : Nat) : waysI w h n c = ints ([0, 1, 2, 3].filter fun d => decide (0 ≤ st w h n c d)) := by
  unfold waysI waysFrom st ints
  simp only [List.drop_zero, List.filter_cons, List.filter_nil]
  by_cases a : 0 ≤ stepI w h n c 0 <;> by_cases b : 0 ≤ stepI w h n c 1 <;> by_cases c' : 0 ≤ stepI w h n c 2 <;> by_cases d : 0 ≤ stepI w h n c 3 <;> simp [a, b, c', d]
section
variable {w h : Int} {n : Nat} (hg : gridOk w h = true) (hn : n < 2 ^ gapsN w h)
include hg hn
theorem impl_dist_l1 {x i : Nat} (W : List Nat) (hW : ∀ d ∈ W, d < 4 ∧ 0 ≤ st w h n x d) (hW4 : W.length ≤ 4) (res : List Int) :
    ∀ (e j : Nat) (S : (Nat → Int) × List Nat), j + e = W.length → SI (cellsN w h) S → S.2[i]? = some x → S.2.length ≤ 100 + j →
      (∀ S', S' = relaxL (st w h n) x (W.drop j) S → SI (cellsN w h) S' → Ev (fun k => impl_distances.l0 k (dlist (cellsN w h) S'.1) (ints S'.2) ((i + 1 : Nat) : Int) w h n) res) →
      Ev (fun k => impl_distances.l1 k (dlist (cellsN w h) S.1) (ints S.2) i (ints W) ((ints W).length : Int) j w h n) res
  | 0, j, S, hj, I, hx, hl, next => by
    have hi := (List.getElem?_eq_some_iff.1 hx).1
    refine Ev.step (fun _ => impl_distances.l1.eq_2 ..) (Ev.ff (by rw [ints_length]; omega) ?_)
    rw [wsucc (by omega)]
    exact next S (by rw [List.drop_eq_nil_of_le (by omega)]; rfl) I
  | e + 1, j, S, hj, I, hx, hl, next => by
    have hcast := cellsN_cast w h
    have hi := (List.getElem?_eq_some_iff.1 hx).1
    have hxv := I.lt x (List.mem_of_getElem? hx)
    have hjW : j < W.length := by omega
    obtain ⟨hd4, hd0⟩ := hW _ (List.getElem_mem hjW)
    have hdrop : W.drop j = W[j] :: W.drop (j + 1) := List.drop_eq_getElem_cons hjW
    have hwj : rd (ints W) (j : Int) = (W[j] : Nat) := rd_ints (List.getElem?_eq_getElem hjW)
    have hrng := (net_grid hn).rng x W[j] hxv hd4
    obtain ⟨y, hy⟩ : ∃ y : Nat, st w h n x W[j] = y := ⟨(st w h n x W[j]).toNat, by omega⟩
    have hyv : y < cellsN w h := by omega
    obtain ⟨I', hl', hk'⟩ := I.relax (net_grid hn).rng hxv hd4
    have ih := impl_dist_l1 W hW hW4 res e (j + 1) (relax (st w h n) x W[j] S) (by omega) I' (hk' i x hx) (by omega) (fun S' hS' I'' => next S' (by rw [hS', hdrop]; rfl) I'')
    refine Ev.step (fun _ => impl_distances.l1.eq_2 ..) ?_
    refine Ev.tt (by rw [ints_length]; omega) (Ev.tt (by omega) (Ev.tt (by rw [ints_length]; omega) (Ev.tt (by omega) (Ev.tt (by rw [ints_length]; omega) ?_))))
    rw [hwj, rd_ints hx]
    refine Ev.bind (impl_Step_ev hg hn x (W[j] : Nat)) ?_
    rw [show stepI w h n x (W[j] : Nat) = y from hy, wsucc (by omega)]
    refine Ev.tt (by omega) (Ev.tt (by rw [dlist_length]; omega) ?_)
    rw [rd_dlist hyv, rd_dlist hxv]
    refine Ev.ite (fun h1 => ?_) (fun h1 => ?_)
    · refine Ev.tt (by omega) (Ev.tt (by rw [dlist_length]; omega) (Ev.tt (by rw [ints_length]; omega) ?_))
      have hb1 := I.le x
      have hb2 : 0 ≤ S.1 x ∨ S.1 x < 0 := by omega
      have hrel : relax (st w h n) x W[j] S = (upd S.1 y (S.1 x + 1), S.2 ++ [y]) := by
        unfold relax
        rw [hy, Int.toNat_natCast, if_pos ⟨by omega, h1⟩]
      rw [hrel] at ih
      rw [Int.toNat_natCast, dlist_set hyv, ← ints_app]
      have := I.low x
      rw [wrap64_id (by omega) (by omega)]
      exact ih
    · have hrel : relax (st w h n) x W[j] S = S := by
        unfold relax
        rw [hy, Int.toNat_natCast, if_neg (fun hc => h1 hc.2)]
      rw [hrel] at ih
      exact ih
theorem impl_dist_l0 {src : Nat} (hs : src < cellsN w h) : ∀ (f i : Nat) (S : (Nat → Int) × List Nat), BInv (st w h n) (cellsN w h) src S i 0 → SI (cellsN w h) S → i ≤ S.2.length → cellsN w h + 1 - i ≤ f →
    Ev (fun k => impl_distances.l0 k (dlist (cellsN w h) S.1) (ints S.2) i w h n) (dlist (cellsN w h) (bfsF (st w h n) f S i))
  | 0, i, S, B, I, hi, hf => by have := B.len; omega
  | f + 1, i, S, B, I, hi, hf => by
    have h16 := cellsN_le w h
    have hlen := B.len
    refine Ev.step (fun _ => impl_distances.l0.eq_2 ..) ?_
    simp only [bfsF]
    cases hx : S.2[i]? with
    | none =>
      rw [List.getElem?_eq_none_iff] at hx
      exact Ev.ff (by rw [ints_length]; omega) (Ev.ret rfl)
    | some x =>
      have hil := (List.getElem?_eq_some_iff.1 hx).1
      have hxv := I.lt x (List.mem_of_getElem? hx)
      refine Ev.tt (by rw [ints_length]; omega) (Ev.tt (by omega) ?_)
      rw [rd_ints hx]
      refine Ev.bind (impl_Ways_ev hg hn _) ?_
      rw [waysI_ints]
      have hW : ∀ d ∈ ([0, 1, 2, 3].filter fun d => decide (0 ≤ st w h n x d)), d < 4 ∧ 0 ≤ st w h n x d := fun d hd => by
        rw [List.mem_filter] at hd
        refine ⟨?_, of_decide_eq_true hd.2⟩
        have := hd.1
        simp at this
        omega
      refine impl_dist_l1 hg hn (i := i) (x := x) _ hW (List.length_filter_le _ _) _ _ 0 S (Nat.zero_add _) I hx (by omega) (fun S' hS' I' => ?_)
      rw [List.drop_zero, relaxL_filter, ← bround_eq] at hS'
      subst hS'
      have B' := B.round (net_grid hn).rng hx
      refine impl_dist_l0 hs f (i + 1) _ B' I' ?_ (by omega)
      have h1 : ∀ m T, T.2.length ≤ (relax (st w h n) x m T).2.length := by
        intro m T
        unfold relax
        split <;> simp
      have := Nat.le_trans (h1 0 S) (Nat.le_trans (h1 1 _) (Nat.le_trans (h1 2 _) (h1 3 _)))
      show i + 1 ≤ (bround (st w h n) x S).2.length
      unfold bround
      omega
omit hg hn in
theorem SI.start {v src : Nat} (h : src < v) : SI v (upd (fun _ => -1) src 0, [src]) where
  le := fun c => by simp only [upd]; split <;> simp
  low := fun c => by simp only [upd]; split <;> omega
  lt := fun c hc => by simp at hc; omega
theorem impl_distances_ev {src : Nat} (hs : src < cellsN w h) : Ev (fun k => impl_distances.f k w h n src) (dlist (cellsN w h) (distN w h n src)) := by
  have h16 := cellsN_le w h
  have hcast := cellsN_cast w h
  unfold impl_distances.f
  refine Ev.bnd0 (impl_CountCells_eq w h) (Ev.bnd0 (a := dlist (cellsN w h) fun _ => -1) ?_ ?_)
  · unfold slices_Repeat_int_int.f
    rw [if_pos ⟨by simp, by omega, by omega⟩]
    congr 1
    refine List.ext_getElem (by simp [dlist]; omega) fun i h1 h2 => ?_
    simp [dlist, rd]
  · refine Ev.tt (by omega) (Ev.tt (by rw [dlist_length]; omega) ?_)
    rw [Int.toNat_natCast, dlist_set hs]
    exact impl_dist_l0 hg hn hs _ 0 _ (BInv.start hs) (SI.start hs) (by simp) (by omega)
end
end Go.Proofs.Ytbeajmcjfhbcjaa.P
namespace Go.Proofs.Ytbeajmcjfhbcjaa.P
open Go.RowKit Go.Proofs.YtbeajmcjfhbcjaaW.PrintWords Go.Proofs.Ytbeajmcjfhbcjaa.Sup
set_option linter.unusedVariables false
set_option linter.unusedSimpArgs false

theorem impl_isIn_one (w h o c : Int) : impl_isIn.f w h o [c] = some (mazeOk w h o && isCellI w h c) := by
  unfold impl_isIn.f
  rw [impl_MazeOk_eq, Option.bind_some]
  cases hm : mazeOk w h o
  · simp
  · rw [if_pos rfl]
    simp [impl_isCell_eq]
theorem impl_isIn_two (w h o a b : Int) : impl_isIn.f w h o [a, b] = some (mazeOk w h o && (isCellI w h a && isCellI w h b)) := by
  unfold impl_isIn.f
  rw [impl_MazeOk_eq, Option.bind_some]
  cases hm : mazeOk w h o
  · simp
  · rw [if_pos rfl]
    simp [impl_isCell_eq]
end Go.Proofs.Ytbeajmcjfhbcjaa.P
namespace Go.Proofs.Ytbeajmcjfhbcjaa.P
open Go.RowKit Go.Proofs.YtbeajmcjfhbcjaaW.PrintWords Go.Proofs.YtbeajmcjfhbcjaaW.PrintLast Go.Proofs.YtbeajmcjfhbcjaaW.PrintMore
attribute [local go_sem] max2_int min2_int max_two min_two max_three min_three max_four min_four   -- for this text's walks alone
set_option linter.unusedVariables false
set_option linter.unusedSimpArgs false

/-! ### spec_l04Has: function 160 -/
end Go.Proofs.Ytbeajmcjfhbcjaa.P
namespace Go.Proofs.Ytbeajmcjfhbcjaa.P
open Go.RowKit Go.Proofs.YtbeajmcjfhbcjaaW.PrintWords Go.Proofs.Ytbeajmcjfhbcjaa.Sup
set_option linter.unusedVariables false
set_option linter.unusedSimpArgs false

end Go.Proofs.Ytbeajmcjfhbcjaa.P
namespace Go.Proofs.Ytbeajmcjfhbcjaa.P
open Go.RowKit Go.Proofs.YtbeajmcjfhbcjaaW.PrintWords
set_option linter.unusedVariables false
set_option linter.unusedSimpArgs false

/-- i, i + 1, .. : d of them. -/
def run (i d : Nat) : List Int := (List.range d).map fun t => ((i + t : Nat) : Int)
theorem run_succ (i d : Nat) : run i (d + 1) = (i : Int) :: run (i + 1) d := by
  simp only [run, List.range_succ_eq_map, List.map_cons, List.map_map, Nat.add_zero]
  congr 1
  apply List.map_congr_left
  intro t _
  simp only [Function.comp, Nat.succ_eq_add_one]
  congr 1
  omega
theorem mem_run {i d : Nat} {x : Int} : x ∈ run i d ↔ (i : Int) ≤ x ∧ x < ((i + d : Nat) : Int) := by
  simp only [run, List.mem_map, List.mem_range]
  constructor
  · rintro ⟨t, ht, rfl⟩
    omega
  · intro ⟨h1, h2⟩
    exact ⟨(x - i).toNat, by omega, by omega⟩
theorem upTo_l0 (n : Nat) (hn : n ≤ 1000000) : ∀ (d i : Nat) (out : List Int), n - i = d → i ≤ n → out.length ≤ i → Ev (fun k => impl_upTo.l0 k n out i) (out ++ run i d)
  | 0, i, out, hd, hi, ho => by
    refine Ev.step (fun _ => impl_upTo.l0.eq_2 ..) (Ev.ff (by omega) (Ev.ret ?_))
    simp [run]
  | d + 1, i, out, hd, hi, ho => by
    refine Ev.step (fun _ => impl_upTo.l0.eq_2 ..) (Ev.tt (by omega) (Ev.tt (by omega) ?_))
    rw [wsucc (by omega), run_succ]
    have := upTo_l0 n hn d (i + 1) (out ++ [(i : Int)]) (by omega) (by omega) (by simp; omega)
    simpa using this
theorem impl_upTo_ev (n : Nat) (hn : n ≤ 1000000) : Ev (fun k => impl_upTo.f k n) (run 0 n) := by
  unfold impl_upTo.f
  have := upTo_l0 n hn n 0 [] (by omega) (by omega) (by simp)
  simpa using this
def p1 (x : Nat) : Nat := ((x / 2) &&& 6148914691236517205) + (x &&& 6148914691236517205)
def p2 (x : Nat) : Nat := ((x / 4) &&& 3689348814741910323) + (x &&& 3689348814741910323)
def p3 (x : Nat) : Nat := (x / 16 + x) &&& 1085102592571150095
theorem and_split {a m : Nat} (b M : Nat) (ha : a < 256) (hm : m < 256) : (256 * b + a) &&& (256 * M + m) = 256 * (b &&& M) + (a &&& m) := by
  apply Nat.eq_of_testBit_eq
  intro i
  have h1 := Nat.testBit_two_pow_mul_add b (i := 8) ha i
  have h2 := Nat.testBit_two_pow_mul_add M (i := 8) hm i
  have h3 := Nat.testBit_two_pow_mul_add (b &&& M) (i := 8) (b := a &&& m) (Nat.lt_of_le_of_lt Nat.and_le_left ha) i
  simp only [show (2 : Nat) ^ 8 = 256 from rfl] at h1 h2 h3
  rw [Nat.testBit_and, h1, h2, h3]
  split <;> simp [Nat.testBit_and]
theorem p1_split (b a : Nat) (ha : a < 256) : p1 (256 * b + a) = 256 * (((b / 2) &&& 24019198012642645) + (b &&& 24019198012642645)) + p1 a := by
  have e1 : (256 * b + a) / 2 = 256 * (b / 2) + (128 * (b % 2) + a / 2) := by omega
  have e2 : ∀ c, c < 2 → ∀ a, a < 256 → (128 * c + a / 2) &&& 85 = (a / 2) &&& 6148914691236517205 := by decide +kernel
  have e3 : ∀ a, a < 256 → a &&& 85 = a &&& 6148914691236517205 := by decide +kernel
  unfold p1
  rw [e1, show (6148914691236517205 : Nat) = 256 * 24019198012642645 + 85 from rfl, and_split _ _ (by omega) (by decide), and_split _ _ ha (by decide), ← show (6148914691236517205 : Nat) = 256 * 24019198012642645 + 85 from rfl, e2 _ (Nat.mod_lt _ (by decide)) a ha, e3 a ha]
  omega
theorem p2_split (b a : Nat) (ha : a < 256) : p2 (256 * b + a) = 256 * (((b / 4) &&& 14411518807585587) + (b &&& 14411518807585587)) + p2 a := by
  have e1 : (256 * b + a) / 4 = 256 * (b / 4) + (64 * (b % 4) + a / 4) := by omega
  have e2 : ∀ c, c < 4 → ∀ a, a < 256 → (64 * c + a / 4) &&& 51 = (a / 4) &&& 3689348814741910323 := by decide +kernel
  have e3 : ∀ a, a < 256 → a &&& 51 = a &&& 3689348814741910323 := by decide +kernel
  unfold p2
  rw [e1, show (3689348814741910323 : Nat) = 256 * 14411518807585587 + 51 from rfl, and_split _ _ (by omega) (by decide), and_split _ _ ha (by decide), ← show (3689348814741910323 : Nat) = 256 * 14411518807585587 + 51 from rfl, e2 _ (Nat.mod_lt _ (by decide)) a ha, e3 a ha]
  omega
theorem p3_split (b a : Nat) (ha : a < 72) (hb : b % 16 ≤ 4) : p3 (256 * b + a) = 256 * ((b / 16 + b) &&& 4238682002231055) + p3 a := by
  have e1 : (256 * b + a) / 16 + (256 * b + a) = 256 * (b / 16 + b) + (16 * (b % 16) + a / 16 + a) := by omega
  have e2 : ∀ c, c < 5 → ∀ a, a < 72 → (16 * c + a / 16 + a) &&& 15 = (a / 16 + a) &&& 1085102592571150095 := by decide +kernel
  unfold p3
  rw [e1, show (1085102592571150095 : Nat) = 256 * 4238682002231055 + 15 from rfl, and_split _ _ (by omega) (by decide), ← show (1085102592571150095 : Nat) = 256 * 4238682002231055 + 15 from rfl, e2 _ (by omega) a ha]
theorem byte : ∀ a, a < 256 → p1 a < 256 ∧ p1 a % 4 ≤ 2 ∧ p2 (p1 a) < 72 ∧ p2 (p1 a) % 16 ≤ 4 ∧ p3 (p2 (p1 a)) = pop 8 a := by decide +kernel
theorem and_low {b M : Nat} (hb : b < 65536) : b &&& M = b &&& (M % 65536) := by
  have h := Nat.and_mod_two_pow (a := b) (b := M) (n := 16)
  simp only [show (2 : Nat) ^ 16 = 65536 from rfl] at h
  rw [Nat.mod_eq_of_lt hb, Nat.mod_eq_of_lt (Nat.lt_of_le_of_lt Nat.and_le_left hb)] at h
  exact h
theorem p1_hi {b : Nat} (hb : b < 65536) : ((b / 2) &&& 24019198012642645) + (b &&& 24019198012642645) = p1 b := by
  unfold p1
  rw [and_low (show b / 2 < 65536 by omega), and_low hb, and_low (M := 6148914691236517205) (show b / 2 < 65536 by omega), and_low (M := 6148914691236517205) hb]
theorem p2_hi {b : Nat} (hb : b < 65536) : ((b / 4) &&& 14411518807585587) + (b &&& 14411518807585587) = p2 b := by
  unfold p2
  rw [and_low (show b / 4 < 65536 by omega), and_low hb, and_low (M := 3689348814741910323) (show b / 4 < 65536 by omega), and_low (M := 3689348814741910323) hb]
theorem p3_hi {b : Nat} (hb : b < 61680) : (b / 16 + b) &&& 4238682002231055 = p3 b := by
  unfold p3
  rw [and_low (show b / 16 + b < 65536 by omega), and_low (M := 1085102592571150095) (show b / 16 + b < 65536 by omega)]
theorem p3_three {a b c : Nat} (ha : a < 256) (hb : b < 256) (hc : c < 256) : p3 (p2 (p1 (256 * (256 * c + b) + a))) = 256 * (256 * pop 8 c + pop 8 b) + pop 8 a := by
  obtain ⟨a1, _, a2, a3, a4⟩ := byte a ha
  obtain ⟨b1, _, b2, b3, b4⟩ := byte b hb
  obtain ⟨c1, _, c2, c3, c4⟩ := byte c hc
  rw [p1_split _ _ ha, p1_hi (by omega), p1_split _ _ hb, p1_hi (by omega)]
  rw [p2_split _ _ a1, p2_hi (by omega), p2_split _ _ b1, p2_hi (by omega)]
  rw [p3_split _ _ a2 (by omega), p3_hi (by omega), p3_split _ _ b2 c3, p3_hi (by omega), a4, b4, c4]
theorem pop24 (a b c : Nat) (ha : a < 256) (hb : b < 256) (hc : c < 256) : pop 24 (256 * (256 * c + b) + a) = pop 8 a + pop 8 b + pop 8 c := by
  rw [show 24 = 8 + (8 + 8) from rfl, pop_add, pop_add, show (2 : Nat) ^ 8 = 256 from rfl, show (256 * (256 * c + b) + a) / 256 = 256 * c + b by omega, show (256 * c + b) / 256 = c by omega]
  rw [← pop_mod 8 (256 * (256 * c + b) + a), ← pop_mod 8 (256 * c + b), show (2 : Nat) ^ 8 = 256 from rfl, show (256 * (256 * c + b) + a) % 256 = a by omega, show (256 * c + b) % 256 = b by omega, Nat.add_assoc]
theorem u64_small {n : Nat} (h : n < 18446744073709551616) : IntKind.u64.wrap (n : Int) = n := by
  rw [IntKind.wrap_u64]; omega
theorem u64_and {a b : Nat} (ha : a < 9223372036854775808) (hb : b < 9223372036854775808) : Go.bits .and .u64 a b = ((a &&& b : Nat) : Int) :=
  (bits_nat .u64 63 (by decide) (fun n h0 h1 => by rw [IntKind.wrap_u64]; omega) a b (by simpa using ha) (by simpa using hb)).1
def s1 (a : Int) : Int := IntKind.u64.wrap ((Go.bits .and .u64 (a / 2) 6148914691236517205) + (Go.bits .and .u64 a 6148914691236517205))
def s2 (a : Int) : Int := IntKind.u64.wrap ((Go.bits .and .u64 (a / 4) 3689348814741910323) + (Go.bits .and .u64 a 3689348814741910323))
def s3 (a : Int) : Int := Go.bits .and .u64 (IntKind.u64.wrap (a / 16 + a)) 1085102592571150095
def s4 (a : Int) : Int := IntKind.u64.wrap (a + a / 256)
def s5 (a : Int) : Int := IntKind.u64.wrap (a + a / 65536)
def s6 (a : Int) : Int := IntKind.u64.wrap (a + a / 4294967296)
theorem ones_steps (a : Int) : bits_OnesCount.f a = some (Go.bits .and .i64 (wrap64 (s6 (s5 (s4 (s3 (s2 (s1 a))))))) 127) := rfl
theorem s1_nat {a : Nat} (h : a < 16777216) : s1 (a : Int) = (p1 a : Int) := by
  unfold s1 p1
  rw [show ((a : Int) / 2) = ((a / 2 : Nat) : Int) by omega, show (6148914691236517205 : Int) = ((6148914691236517205 : Nat) : Int) from rfl, u64_and (by omega) (by decide), u64_and (by omega) (by decide)]
  have h1 : (a / 2 &&& 6148914691236517205) ≤ a / 2 := Nat.and_le_left
  have h2 : (a &&& 6148914691236517205) ≤ a := Nat.and_le_left
  rw [← Int.natCast_add, u64_small (by omega)]
theorem s2_nat {a : Nat} (h : a < 67108864) : s2 (a : Int) = (p2 a : Int) := by
  unfold s2 p2
  rw [show ((a : Int) / 4) = ((a / 4 : Nat) : Int) by omega, show (3689348814741910323 : Int) = ((3689348814741910323 : Nat) : Int) from rfl, u64_and (by omega) (by decide), u64_and (by omega) (by decide)]
  have h1 : (a / 4 &&& 3689348814741910323) ≤ a / 4 := Nat.and_le_left
  have h2 : (a &&& 3689348814741910323) ≤ a := Nat.and_le_left
  rw [← Int.natCast_add, u64_small (by omega)]
theorem s3_nat {a : Nat} (h : a < 268435456) : s3 (a : Int) = (p3 a : Int) := by
  unfold s3 p3
  rw [show ((a : Int) / 16 + a) = ((a / 16 + a : Nat) : Int) by omega, u64_small (by omega), show (1085102592571150095 : Int) = ((1085102592571150095 : Nat) : Int) from rfl, u64_and (by omega) (by decide)]
/-- The library's count of bits. -/
theorem ones_eq {s : Nat} (h : s < 16777216) : bits_OnesCount.f (s : Int) = some (pop 24 s : Int) := by
  rw [ones_steps]
  have h1 : p1 s < 67108864 := by
    unfold p1
    have h1 : (s / 2 &&& 6148914691236517205) ≤ s / 2 := Nat.and_le_left
    have h2 : (s &&& 6148914691236517205) ≤ s := Nat.and_le_left
    omega
  have h2 : p2 (p1 s) < 268435456 := by
    unfold p2
    have h3 : (p1 s / 4 &&& 3689348814741910323) ≤ p1 s / 4 := Nat.and_le_left
    have h4 : (p1 s &&& 3689348814741910323) ≤ p1 s := Nat.and_le_left
    omega
  rw [s1_nat h, s2_nat h1, s3_nat h2]
  obtain ⟨a, b, c, ha, hb, hc, rfl⟩ : ∃ a b c, a < 256 ∧ b < 256 ∧ c < 256 ∧ s = 256 * (256 * c + b) + a := ⟨s % 256, s / 256 % 256, s / 65536, by omega, by omega, by omega, by omega⟩
  rw [p3_three ha hb hc, pop24 _ _ _ ha hb hc]
  have qa := pop_le 8 a
  have qb := pop_le 8 b
  have qc := pop_le 8 c
  generalize pop 8 a = x at *
  generalize pop 8 b = y at *
  generalize pop 8 c = z at *
  have e4 : s4 ((256 * (256 * z + y) + x : Nat) : Int) = ((65536 * z + 256 * (y + z) + (x + y) : Nat) : Int) := by
    unfold s4
    rw [show (((256 * (256 * z + y) + x : Nat) : Int) + ((256 * (256 * z + y) + x : Nat) : Int) / 256) = ((65536 * z + 256 * (y + z) + (x + y) : Nat) : Int) by omega, u64_small (by omega)]
  have e5 : s5 ((65536 * z + 256 * (y + z) + (x + y) : Nat) : Int) = ((65536 * z + 256 * (y + z) + (x + y + z) : Nat) : Int) := by
    unfold s5
    rw [show (((65536 * z + 256 * (y + z) + (x + y) : Nat) : Int) + ((65536 * z + 256 * (y + z) + (x + y) : Nat) : Int) / 65536) = ((65536 * z + 256 * (y + z) + (x + y + z) : Nat) : Int) by omega, u64_small (by omega)]
  have e6 : s6 ((65536 * z + 256 * (y + z) + (x + y + z) : Nat) : Int) = ((65536 * z + 256 * (y + z) + (x + y + z) : Nat) : Int) := by
    unfold s6
    rw [show (((65536 * z + 256 * (y + z) + (x + y + z) : Nat) : Int) + ((65536 * z + 256 * (y + z) + (x + y + z) : Nat) : Int) / 4294967296) = ((65536 * z + 256 * (y + z) + (x + y + z) : Nat) : Int) by omega, u64_small (by omega)]
  rw [e4, e5, e6, wrap64_id (by omega) (by omega), show (127 : Int) = ((127 : Nat) : Int) from rfl, bits_and (by omega) (by decide)]
  congr 2
  rw [show (127 : Nat) = 2 ^ 7 - 1 from rfl, Nat.and_two_pow_sub_one_eq_mod]
  omega
theorem ones_eq' {n s : Nat} (hn : n ≤ 24) (h : s < 2 ^ n) : bits_OnesCount.f (s : Int) = some (pop n s : Int) := by
  rw [ones_eq (Nat.lt_of_lt_of_le h (Nat.pow_le_pow_right (by decide) hn)), pop_big h hn]
end Go.Proofs.Ytbeajmcjfhbcjaa.P
namespace Go.Proofs.Ytbeajmcjfhbcjaa.P
open Go.RowKit Go.Proofs.YtbeajmcjfhbcjaaW.PrintWords Go.Proofs.YtbeajmcjfhbcjaaW.PrintLast Go.Proofs.YtbeajmcjfhbcjaaW.PrintMore
attribute [local go_sem] max2_int min2_int max_two min_two max_three min_three max_four min_four   -- for this text's walks alone
set_option linter.unusedVariables false
set_option linter.unusedSimpArgs false

/-! ### impl_CountParts: function 22 -/
end Go.Proofs.Ytbeajmcjfhbcjaa.P
namespace Go.Proofs.Ytbeajmcjfhbcjaa.P
open Go.RowKit Go.Proofs.YtbeajmcjfhbcjaaW.PrintWords
set_option linter.unusedVariables false
set_option linter.unusedSimpArgs false

theorem run_zero (v : Nat) : run 0 v = ints (List.range v) := by
  unfold run ints
  exact List.map_congr_left fun t _ => by omega
theorem isCellI_nat {w h : Int} {c : Nat} (hc : c < cellsN w h) : isCellI w h c = true := by
  have := cellsN_cast w h
  unfold isCellI
  rw [decide_eq_true_eq]; omega
section
variable {w h : Int} {n : Nat} (hg : gridOk w h = true) (hn : n < 2 ^ gapsN w h)
include hg hn
theorem mazeOk_nat : mazeOk w h n = true := mazeOk_iff.2 ⟨hg, n, rfl, hn⟩
theorem impl_Reached_ev {s : Nat} (hs : s < cellsN w h) : Ev (fun k => impl_Reached.f k w h n s) (ints (reachN w h n s)) := by
  have h16 := cellsN_le w h
  unfold impl_Reached.f
  refine Ev.bnd0 (impl_isIn_one w h n s) (Ev.tt (by rw [mazeOk_nat hg hn, isCellI_nat hs]; rfl) ?_)
  refine Ev.bind (impl_distances_ev hg hn hs) ?_
  rw [dlist_length]
  refine Ev.bind (impl_upTo_ev _ (by omega)) (Ev.tt ?_ (Ev.ret ?_))
  · rw [List.all_eq_true]
    intro c hc
    have := mem_run.1 hc
    rw [decide_eq_true_eq]
    omega
  · rw [run_zero]
    unfold reachN ints
    rw [List.filter_map]
    congr 1
    refine List.filter_congr fun c hc => ?_
    rw [List.mem_range] at hc
    simp only [Function.comp]
    rw [rd_dlist hc]
    by_cases h1 : distN w h n s c < 0
    · rw [decide_eq_true h1, decide_eq_false (show ¬ 0 ≤ distN w h n s c by omega)]; rfl
    · rw [decide_eq_false h1, decide_eq_true (show 0 ≤ distN w h n s c by omega)]; rfl
/-- The distance between two cells, or -1. -/
theorem impl_DistanceOf_ev {a b : Nat} (ha : a < cellsN w h) (hb : b < cellsN w h) : Ev (fun k => impl_DistanceOf.f k w h n a b) (distN w h n a b) := by
  unfold impl_DistanceOf.f
  refine Ev.bnd0 (impl_isIn_two w h n a b) (Ev.tt (by rw [mazeOk_nat hg hn, isCellI_nat ha, isCellI_nat hb]; rfl) ?_)
  refine Ev.bind (impl_distances_ev hg hn ha) (Ev.tt (by omega) (Ev.tt (by rw [dlist_length]; omega) (Ev.ret ?_)))
  exact rd_dlist hb
omit hg hn in
theorem head_is {s : Nat} (hn : n < 2 ^ gapsN w h) (hs : s < cellsN w h) : 0 < ((ints (reachN w h n s)).length : Int) ∧ rd (ints (reachN w h n s)) 0 = labN w h n s := by
  obtain ⟨t, ht⟩ := reachN_head hn hs
  rw [ht]
  exact ⟨by simp [ints], rfl⟩
end
end Go.Proofs.Ytbeajmcjfhbcjaa.P
namespace Go.Proofs.Ytbeajmcjfhbcjaa.P
open Go.RowKit Go.Proofs.YtbeajmcjfhbcjaaW.PrintWords
set_option linter.unusedVariables false
set_option linter.unusedSimpArgs false

theorem impl_with_eq (w h : Int) {n : Nat} (hn : n < 16777216) {g : Nat} (hg : g < 24) (b : Bool) : impl_with.f w h n g b = some (w, h, ((setB n g b : Nat) : Int)) := by
  have hp : 2 ^ g ≤ 2 ^ 24 := Nat.pow_le_pow_right (by decide) (by omega)
  unfold impl_with.f
  rw [if_pos (by omega), shl_pow (by omega), bits_andNot (by omega) (by omega)]
  cases b
  · rw [if_neg (by decide)]
    rfl
  · rw [if_pos rfl, bits_or (by have := andNot_le n (2 ^ g); omega) (by omega)]
    have e : andNot n (2 ^ g) ||| 2 ^ g = setB n g true := by
      apply Nat.eq_of_testBit_eq
      intro i
      rw [testBit_setB, Nat.testBit_or, testBit_andNot, Nat.testBit_two_pow]
      by_cases h : i = g
      · simp [h]
      · simp [h, show ¬ g = i from fun e => h e.symm]
    rw [e]
end Go.Proofs.Ytbeajmcjfhbcjaa.P
namespace Go.Proofs.Ytbeajmcjfhbcjaa.P
open Go.RowKit Go.Proofs.YtbeajmcjfhbcjaaW.PrintWords Go.Proofs.YtbeajmcjfhbcjaaW.PrintLast Go.Proofs.YtbeajmcjfhbcjaaW.PrintMore
attribute [local go_sem] max2_int min2_int max_two min_two max_three min_three max_four min_four   -- for this text's walks alone
set_option linter.unusedVariables false
set_option linter.unusedSimpArgs false

/-! ### spec_SetGap: function 89 -/
end Go.Proofs.Ytbeajmcjfhbcjaa.P
namespace Go.Proofs.Ytbeajmcjfhbcjaa.P
open Go.RowKit Go.Proofs.YtbeajmcjfhbcjaaW.PrintWords
set_option linter.unusedVariables false
set_option linter.unusedSimpArgs false

theorem impl_EndsOf_eq (w h g : Int) : impl_EndsOf.f w h g = some (endsI w h g) := by
  unfold impl_EndsOf.f endsI
  rw [impl_isGap_eq, Option.bind_some]
  unfold isGapI
  by_cases hc : 0 ≤ g ∧ g < gapsOf w h
  · rw [if_pos hc, if_pos (by simpa using hc)]
    obtain ⟨hg, hgw⟩ := gapsOf_valid hc.1 hc.2
    have hgr := gridOk_iff.1 hg
    have hrr := gapsOf_range w h
    have hq0 : 0 ≤ (w - 1) * h := Int.mul_nonneg (by omega) (by omega)
    have hq1 : (w - 1) * h ≤ 3 * 4 := Int.mul_le_mul (by omega) (by omega) (by omega) (by omega)
    have hw1 : w - 1 = 0 → (w - 1) * h = 0 := fun e => by rw [e, Int.zero_mul]
    rw [wrap64_id (x := w - 1) (by omega) (by omega), wrap64_id (x := (w - 1) * h) (by omega) (by omega)]
    by_cases hlt : g < (w - 1) * h
    · rw [if_pos hlt, if_neg (by omega)]
      have hne : w - 1 ≠ 0 := fun e => by have := hw1 e; omega
      have ha0 : 0 ≤ g / (w - 1) := Int.ediv_nonneg hc.1 (by omega)
      have ha1 : g / (w - 1) ≤ g := Int.ediv_le_self _ hc.1
      have hb0 : 0 ≤ g % (w - 1) := Int.emod_nonneg _ (by omega)
      have hb1 : g % (w - 1) < w - 1 := Int.emod_lt_of_pos _ (by omega)
      have hp0 : 0 ≤ g / (w - 1) * w := Int.mul_nonneg ha0 (by omega)
      have hp1 : g / (w - 1) * w ≤ 23 * 4 := Int.mul_le_mul (by omega) (by omega) (by omega) (by omega)
      rw [if_neg hne, Int.tmod_eq_emod_of_nonneg hc.1, Int.tdiv_eq_ediv_of_nonneg hc.1, wrap64_id (x := g / (w - 1)) (by omega) (by omega), wrap64_id (x := g / (w - 1) * w) (by omega) (by omega), wrap64_id (x := g / (w - 1) * w + g % (w - 1)) (by omega) (by omega), wrap64_id (by omega) (by omega)]
    · rw [if_neg hlt, if_pos (by omega)]
      rw [wrap64_id (x := g - (w - 1) * h) (by omega) (by omega), wrap64_id (by omega) (by omega)]
  · rw [if_neg hc, if_neg (by simpa using hc)]
end Go.Proofs.Ytbeajmcjfhbcjaa.P
namespace Go.Proofs.Ytbeajmcjfhbcjaa.P
open Go.RowKit Go.Proofs.YtbeajmcjfhbcjaaW.PrintWords Go.Proofs.YtbeajmcjfhbcjaaW.PrintLast Go.Proofs.YtbeajmcjfhbcjaaW.PrintMore
attribute [local go_sem] max2_int min2_int max_two min_two max_three min_three max_four min_four   -- for this text's walks alone
set_option linter.unusedVariables false
set_option linter.unusedSimpArgs false

/-! ### spec_EndsOf: function 87 -/
end Go.Proofs.Ytbeajmcjfhbcjaa.P
namespace Go.Proofs.Ytbeajmcjfhbcjaa.P
open Go.RowKit Go.Proofs.YtbeajmcjfhbcjaaW.PrintWords
set_option linter.unusedVariables false
set_option linter.unusedSimpArgs false

end Go.Proofs.Ytbeajmcjfhbcjaa.P
namespace Go.Proofs.Ytbeajmcjfhbcjaa.P
open Go.RowKit Go.Proofs.YtbeajmcjfhbcjaaW.PrintWords
set_option linter.unusedVariables false
set_option linter.unusedSimpArgs false

/-- Tells whether the ends of a gap are in different parts. -/
def apartB (w h : Int) (n g : Nat) : Bool := decide (distN w h n (ends w h g).1 (ends w h g).2 < 0)
theorem apartB_iff {w h : Int} {n g : Nat} (hn : n < 2 ^ gapsN w h) (hgg : g < gapsN w h) : apartB w h n g = true ↔ ¬ Cn (ends w h) n (ends w h g).1 (ends w h g).2 := by
  have hf := ends_facts hgg
  unfold apartB
  rw [decide_eq_true_eq, ← distN_cn hn (by omega)]
  omega
def bridgeB (w h : Int) (n g : Nat) : Bool := n.testBit g && apartB w h (setB n g false) g
def cutStep (w h : Int) (n g : Nat) : Nat := if n.testBit g = true ∧ bridgeB w h n g = false then setB n g false else n
def cutFrom (w h : Int) : Nat → Nat → Nat → Nat
  | 0, _, n => n
  | d + 1, g, n => cutFrom w h d (g + 1) (cutStep w h n g)
theorem cutStep_lt {w h : Int} {n g : Nat} (hn : n < 2 ^ gapsN w h) (hgg : g < gapsN w h) : cutStep w h n g < 2 ^ gapsN w h := by
  unfold cutStep
  split
  · exact setB_lt _ hn hgg
  · exact hn
theorem cutFrom_lt {w h : Int} : ∀ d g n, g + d = gapsN w h → n < 2 ^ gapsN w h → cutFrom w h d g n < 2 ^ gapsN w h
  | 0, _, _, _, hn => hn
  | d + 1, g, n, hd, hn => cutFrom_lt d (g + 1) _ (by omega) (cutStep_lt hn (by omega))
section
variable {w h : Int} {n : Nat} (hg : gridOk w h = true) (hn : n < 2 ^ gapsN w h)
include hg hn
theorem impl_areApart_ev {g : Nat} (hgg : g < gapsN w h) : Ev (fun k => impl_areApart.f k w h n g) (apartB w h n g) := by
  obtain ⟨e1, e2, e3⟩ := ends_facts hgg
  unfold impl_areApart.f
  refine Ev.bnd0 (impl_EndsOf_eq w h g) ?_
  rw [e1]
  exact Ev.bind (impl_DistanceOf_ev hg hn (by omega) e3) (Ev.ret rfl)
theorem impl_IsBridge_ev {g : Nat} (hgg : g < gapsN w h) : Ev (fun k => impl_IsBridge.f k w h n g) (bridgeB w h n g) := by
  have hs := open_small hn
  have h24 := gapsN_le w h
  have hcast := gapsN_cast w h
  unfold impl_IsBridge.f bridgeB
  refine Ev.bnd0 (a := n.testBit g) ?_ (Ev.ite (fun h1 => Ev.bnd0 (impl_with_eq w h hs (by omega) false) (Ev.bind (impl_areApart_ev hg (setB_lt _ hn hgg) hgg) (Ev.ret ?_))) (fun h1 => Ev.ret ?_))
  · unfold impl_IsPassage.f
    rw [impl_MazeOk_eq, Option.bind_some, if_pos (mazeOk_nat hg hn), impl_isGap_eq, Option.bind_some, if_pos (by unfold isGapI; rw [decide_eq_true_eq]; omega), impl_isOpen_eq w h hs, openI_nat']
    rfl
  · rw [h1]; rfl
  · rw [Bool.eq_false_iff.2 h1]; rfl
end
section
variable {w h : Int} (hg : gridOk w h = true)
include hg
theorem impl_cut_l0 : ∀ d g n : Nat, g + d = gapsN w h → n < 2 ^ gapsN w h → Ev (fun k => impl_CutLoops.l0 k g w h n) (w, h, ((cutFrom w h d g n : Nat) : Int))
  | 0, g, n, hd, hn => by
    have hcast := gapsN_cast w h
    exact Ev.step (fun _ => impl_CutLoops.l0.eq_2 ..) (Ev.bnd0 (impl_CountGaps_eq w h) (Ev.ff (by omega) (Ev.ret rfl)))
  | d + 1, g, n, hd, hn => by
    have hcast := gapsN_cast w h
    have h24 := gapsN_le w h
    have hs := open_small hn
    refine Ev.step (fun _ => impl_CutLoops.l0.eq_2 ..) (Ev.bnd0 (impl_CountGaps_eq w h) (Ev.tt (by omega) (Ev.bnd0 (impl_isOpen_eq w h hs _) ?_)))
    rw [openI_nat', wsucc (by omega)]
    unfold cutFrom cutStep
    refine Ev.ite (fun h1 => Ev.bind (impl_IsBridge_ev hg hn (by omega)) (Ev.ite (fun h2 => ?_) (fun h2 => Ev.bnd0 (impl_with_eq w h hs (by omega) false) ?_))) (fun h1 => ?_)
    · rw [if_neg (by rw [h2]; simp)]
      exact impl_cut_l0 d (g + 1) n (by omega) hn
    · rw [if_pos ⟨h1, Bool.eq_false_iff.2 h2⟩]
      exact impl_cut_l0 d (g + 1) _ (by omega) (setB_lt _ hn (by omega))
    · rw [if_neg (fun h2 => h1 h2.1)]
      exact impl_cut_l0 d (g + 1) n (by omega) hn
theorem impl_CutLoops_ev {n : Nat} (hn : n < 2 ^ gapsN w h) : Ev (fun k => impl_CutLoops.f k w h n) (w, h, ((cutFrom w h (gapsN w h) 0 n : Nat) : Int)) := by
  unfold impl_CutLoops.f
  exact Ev.bnd0 (impl_MazeOk_eq w h n) (Ev.tt (mazeOk_nat hg hn) (impl_cut_l0 hg (gapsN w h) 0 n (by omega) hn))
end
end Go.Proofs.Ytbeajmcjfhbcjaa.P
namespace Go.Proofs.Ytbeajmcjfhbcjaa.P
open Go.RowKit Go.Proofs.YtbeajmcjfhbcjaaW.PrintWords
set_option linter.unusedVariables false
set_option linter.unusedSimpArgs false

theorem setB_false_sub {n j i : Nat} (h : (setB n j false).testBit i = true) : n.testBit i = true := by
  rw [testBit_setB] at h
  split at h
  · cases h
  · exact h
theorem setB_false_mono {n m j i : Nat} (hs : ∀ i, m.testBit i = true → n.testBit i = true) (h : (setB m j false).testBit i = true) : (setB n j false).testBit i = true := by
  rw [testBit_setB] at h ⊢
  split at h
  · cases h
  · rename_i hne
    rw [if_neg hne]
    exact hs i h
theorem bridges_forest {e : Nat → Nat × Nat} {V E : Nat} (hG : Gr e V E) : ∀ p n, pop E n = p → n < 2 ^ E → (∀ j, j < E → n.testBit j = true → ¬ Cn e (setB n j false) (e j).1 (e j).2) → pop E n + parts e V E n = V := by
  intro p
  induction p using Nat.strongRecOn with
  | _ p ih =>
    intro n hp hn hb
    by_cases he : ∃ g, g < E ∧ n.testBit g = true
    · obtain ⟨g, hg, hbg⟩ := he
      have hlt : setB n g false < 2 ^ E := setB_lt _ hn hg
      have p1 := pop_setB (m := E) (n := setB n g false) hg (setB_bit n g false)
      rw [setB_off_on hbg] at p1
      have p2 := (parts_add (v := V) hlt hg (hG g hg).1 (hG g hg).2).2 (hb g hg hbg)
      rw [setB_off_on hbg] at p2
      have := ih (pop E (setB n g false)) (by omega) _ rfl hlt (fun j hj hbj hc => hb j hj (setB_false_sub hbj) (Cn.mono (fun i hi => setB_false_mono (fun i hi => setB_false_sub hi) hi) hc))
      omega
    · have h0 : n = 0 := by
        refine Nat.eq_of_testBit_eq fun i => ?_
        rw [Nat.zero_testBit]
        cases hbi : n.testBit i
        · rfl
        · exact absurd ⟨i, lt_of_testBit hn hbi, hbi⟩ he
      subst h0
      have : ∀ m, pop m 0 = 0 := by
        intro m
        induction m with
        | zero => rfl
        | succ m ih => simp only [pop, Nat.zero_testBit, ih]; rfl
      rw [this, parts_zero, Nat.zero_add]
theorem cutFrom_facts {w h : Int} : ∀ d g n, g + d = gapsN w h → n < 2 ^ gapsN w h → (∀ j, j < g → n.testBit j = true → ¬ Cn (ends w h) (setB n j false) (ends w h j).1 (ends w h j).2) →
    (∀ i, (cutFrom w h d g n).testBit i = true → n.testBit i = true) ∧ (∀ x y, Cn (ends w h) (cutFrom w h d g n) x y ↔ Cn (ends w h) n x y) ∧
    (∀ j, j < gapsN w h → (cutFrom w h d g n).testBit j = true → ¬ Cn (ends w h) (setB (cutFrom w h d g n) j false) (ends w h j).1 (ends w h j).2)
  | 0, g, n, hd, hn, hb => ⟨fun i hi => hi, fun x y => Iff.rfl, fun j hj => hb j (by omega)⟩
  | d + 1, g, n, hd, hn, hb => by
    have hgg : g < gapsN w h := by omega
    have hlt : setB n g false < 2 ^ gapsN w h := setB_lt _ hn hgg
    unfold cutFrom
    by_cases hc : n.testBit g = true ∧ bridgeB w h n g = false
    · have e : cutStep w h n g = setB n g false := by unfold cutStep; rw [if_pos hc]
      rw [e]
      have hcn : Cn (ends w h) (setB n g false) (ends w h g).1 (ends w h g).2 := by
        have h2 := hc.2
        unfold bridgeB at h2
        rw [hc.1, Bool.true_and] at h2
        exact Classical.byContradiction fun h3 => by
          rw [(apartB_iff hlt hgg).2 h3] at h2
          cases h2
      obtain ⟨f1, f2, f3⟩ := cutFrom_facts d (g + 1) (setB n g false) (by omega) hlt (fun j hj hbj => by
        by_cases e2 : j = g
        · subst e2; rw [setB_bit] at hbj; cases hbj
        · exact fun h3 => hb j (by omega) (setB_false_sub hbj) (Cn.mono (fun i hi => setB_false_mono (fun i hi => setB_false_sub hi) hi) h3))
      refine ⟨fun i hi => setB_false_sub (f1 i hi), fun x y => (f2 x y).trans ?_, f3⟩
      have h4 := Cn_add (e := ends w h) (n := setB n g false) (k := g) (x := x) (y := y)
      rw [setB_off_on hc.1] at h4
      rw [h4]
      constructor
      · exact Or.inl
      · rintro (h5 | ⟨h5, h6⟩ | ⟨h5, h6⟩)
        · exact h5
        · exact (h5.trans hcn).trans h6
        · exact (h5.trans hcn.symm).trans h6
    · have e : cutStep w h n g = n := by unfold cutStep; rw [if_neg hc]
      rw [e]
      exact cutFrom_facts d (g + 1) n (by omega) hn (fun j hj hbj => by
        by_cases e2 : j = g
        · subst e2
          have hbr : bridgeB w h n j = true := by
            cases hbb : bridgeB w h n j
            · exact absurd ⟨hbj, hbb⟩ hc
            · rfl
          unfold bridgeB at hbr
          rw [hbj, Bool.true_and] at hbr
          exact (apartB_iff hlt hgg).1 hbr
        · exact hb j (by omega) hbj)
/-- Loops cut. -/
theorem cut_facts {w h : Int} {n : Nat} (hn : n < 2 ^ gapsN w h) : (∀ i, (cutFrom w h (gapsN w h) 0 n).testBit i = true → n.testBit i = true) ∧ (∀ x y, Cn (ends w h) (cutFrom w h (gapsN w h) 0 n) x y ↔ Cn (ends w h) n x y) ∧
    pop (gapsN w h) (cutFrom w h (gapsN w h) 0 n) + partsN w h (cutFrom w h (gapsN w h) 0 n) = cellsN w h := by
  obtain ⟨f1, f2, f3⟩ := cutFrom_facts (w := w) (h := h) (gapsN w h) 0 n (by omega) hn (fun j hj => absurd hj (by omega))
  exact ⟨f1, f2, bridges_forest (gr_grid w h) _ _ rfl (cutFrom_lt _ _ _ (by omega) hn) f3⟩
/-- The same parts have the same least cells. -/
theorem lab_same {w h : Int} {n m : Nat} (hn : n < 2 ^ gapsN w h) (hm : m < 2 ^ gapsN w h) (hc : ∀ x y, Cn (ends w h) n x y ↔ Cn (ends w h) m x y) (c : Nat) : (labN w h n c == c) = (labN w h m c == c) := by
  rw [Bool.eq_iff_iff]
  unfold labN
  rw [rep_iff hn, rep_iff hm]
  exact ⟨fun h y hy => h y ((hc c y).2 hy), fun h y hy => h y ((hc c y).1 hy)⟩
theorem cnt_countP (p : Nat → Bool) (v : Nat) : cnt p v = (List.range v).countP p := by
  induction v with
  | zero => rfl
  | succ v ih =>
    simp only [cnt]
    rw [ih, List.range_succ, List.countP_append]
    simp only [List.countP_cons, List.countP_nil, Nat.zero_add]
    cases p v <;> rfl
/-- The free cells. -/
def freeN (w h : Int) (m : Nat) : List Nat := (List.range (cellsN w h)).filter fun c => !m.testBit c
theorem freeN_len (w h : Int) (m : Nat) : (freeN w h m).length ≤ 16 := by
  have h1 := List.length_filter_le (fun c => !m.testBit c) (List.range (cellsN w h))
  have := cellsN_le w h
  unfold freeN
  rw [List.length_range] at h1
  omega
/-- Open gaps lie between free cells. -/
def Clear (w h : Int) (m n : Nat) : Prop := ∀ g, n.testBit g = true → m.testBit (ends w h g).1 = false ∧ m.testBit (ends w h g).2 = false
theorem clear_cn {w h : Int} {m n x y : Nat} (hc : Clear w h m n) (h1 : Cn (ends w h) n x y) : x = y ∨ (m.testBit x = false ∧ m.testBit y = false) := by
  induction h1 with
  | refl => exact .inl rfl
  | fwd k hk _ ih =>
    obtain ⟨a, b⟩ := hc k hk
    rcases ih with ih | ⟨ih, _⟩
    · right; rw [ih]; exact ⟨a, b⟩
    · exact .inr ⟨ih, b⟩
  | bwd k hk _ ih =>
    obtain ⟨a, b⟩ := hc k hk
    rcases ih with ih | ⟨ih, _⟩
    · right; rw [ih]; exact ⟨b, a⟩
    · exact .inr ⟨ih, a⟩
theorem clear_rep {w h : Int} {m n c : Nat} (hn : n < 2 ^ gapsN w h) (hc : Clear w h m n) (hm : m.testBit c = true) : labN w h n c = c := by
  rcases clear_cn hc (lab_cn (e := ends w h) hn c) with h1 | ⟨h1, _⟩
  · exact h1.symm
  · rw [hm] at h1; cases h1
/-- Parts without the filled cells. -/
theorem clear_parts {w h : Int} {m n : Nat} (hn : n < 2 ^ gapsN w h) (hc : Clear w h m n) : partsN w h n + (freeN w h m).length = (freeN w h m).countP (fun c => labN w h n c == c) + cellsN w h := by
  have e1 : partsN w h n = cnt (fun c => (labN w h n c == c) && !m.testBit c) (cellsN w h) + cnt (fun c => m.testBit c) (cellsN w h) := by
    unfold partsN parts
    refine cnt_add fun c _ => ?_
    show (labN w h n c == c).toNat = ((labN w h n c == c) && !m.testBit c).toNat + (m.testBit c).toNat
    cases hm : m.testBit c
    · simp
    · rw [clear_rep hn hc hm]; simp
  have e2 : cellsN w h = cnt (fun c => !m.testBit c) (cellsN w h) + cnt (fun c => m.testBit c) (cellsN w h) := by
    have : cnt (fun _ => true) (cellsN w h) = cellsN w h := by
      have : ∀ v, cnt (fun _ => true) v = v := by
        intro v
        induction v with
        | zero => rfl
        | succ v ih => simp only [cnt]; rw [ih]; rfl
      exact this _
    rw [← this]
    have h2 := cnt_add (p := fun _ => true) (q := fun c => !m.testBit c) (r := fun c => m.testBit c) (v := cellsN w h) (fun c _ => by cases m.testBit c <;> rfl)
    rw [this] at h2 ⊢
    exact h2
  have e3 : (freeN w h m).length = cnt (fun c => !m.testBit c) (cellsN w h) := by
    unfold freeN
    rw [cnt_countP, List.countP_eq_length_filter]
  have e4 : (freeN w h m).countP (fun c => labN w h n c == c) = cnt (fun c => (labN w h n c == c) && !m.testBit c) (cellsN w h) := by
    unfold freeN
    rw [cnt_countP, List.countP_filter]
  omega
end Go.Proofs.Ytbeajmcjfhbcjaa.P
namespace Go.Proofs.Ytbeajmcjfhbcjaa.P
open Go.RowKit Go.Proofs.YtbeajmcjfhbcjaaW.PrintWords Go.Proofs.Ytbeajmcjfhbcjaa.Sup
set_option linter.unusedVariables false
set_option linter.unusedSimpArgs false

def maskOk (w h m : Int) : Bool := gridOk w h && decide (0 ≤ m ∧ m < 2 ^ (cellsOf w h).toNat)
theorem impl_MaskOk_eq (w h m : Int) : impl_MaskOk.f w h m = some (maskOk w h m) := by
  have hc := cellsOf_range w h
  unfold impl_MaskOk.f maskOk
  rw [impl_GridOk_eq, Option.bind_some]
  cases hg : gridOk w h
  · simp
  · rw [if_pos rfl, impl_CountCells_eq, Option.bind_some, if_pos hc.1, shl_one hc.1 (by omega)]
    simp only [Bool.true_and]
    split
    · congr 1; rw [decide_eq_decide]; omega
    · congr 1; symm; rw [decide_eq_false_iff_not]; omega
theorem maskOk_iff {w h m : Int} : maskOk w h m = true ↔ gridOk w h = true ∧ ∃ n : Nat, m = (n : Int) ∧ n < 2 ^ (cellsOf w h).toNat := by
  unfold maskOk
  simp only [Bool.and_eq_true, decide_eq_true_eq]
  constructor
  · rintro ⟨h1, h2, h3⟩
    obtain ⟨n, rfl⟩ := Int.eq_ofNat_of_zero_le h2
    exact ⟨h1, n, rfl, by exact_mod_cast h3⟩
  · rintro ⟨h1, n, rfl, h3⟩
    exact ⟨h1, by omega, by exact_mod_cast h3⟩
theorem mask_small {w h : Int} {n : Nat} (hn : n < 2 ^ (cellsOf w h).toNat) : n < 65536 := by
  have := cellsOf_range w h
  have h2 : 2 ^ (cellsOf w h).toNat ≤ 2 ^ 16 := Nat.pow_le_pow_right (by decide) (by omega)
  omega
theorem impl_isFree_eq {m : Nat} (hm : m < 65536) {c : Int} (hc : 0 ≤ c) : impl_isFree.f m c = some (!openI m c) := by
  unfold impl_isFree.f openI
  rw [if_pos hc]
  obtain ⟨n, rfl⟩ := Int.eq_ofNat_of_zero_le hc
  rw [bit_zero (by omega)]
  simp
/-- One gap of a masked maze. -/
def maskStep (w h : Int) (m : Nat) (o : Nat) (g : Nat) : Nat := if openI m (endsI w h g).1 || openI m (endsI w h g).2 then setB o g false else o
def maskFrom (w h : Int) (m : Nat) : Nat → Nat → Nat → Nat
  | 0, _, o => o
  | d + 1, g, o => maskFrom w h m d (g + 1) (maskStep w h m o g)
/-- The maze of the free cells. -/
def masked (w h : Int) (m o : Nat) : Nat := maskFrom w h m (gapsN w h) 0 o
theorem maskStep_lt {w h : Int} {m o g : Nat} (ho : o < 2 ^ gapsN w h) (hg : g < gapsN w h) : maskStep w h m o g < 2 ^ gapsN w h := by
  unfold maskStep
  split
  · exact setB_lt _ ho hg
  · exact ho
theorem maskFrom_lt {w h : Int} {m : Nat} : ∀ (d g o : Nat), g + d = gapsN w h → o < 2 ^ gapsN w h → maskFrom w h m d g o < 2 ^ gapsN w h
  | 0, _, _, _, ho => ho
  | d + 1, g, o, hd, ho => maskFrom_lt d (g + 1) _ (by omega) (maskStep_lt ho (by omega))
theorem masked_lt {w h : Int} {m o : Nat} (ho : o < 2 ^ gapsN w h) : masked w h m o < 2 ^ gapsN w h := maskFrom_lt _ _ _ (by omega) ho
theorem impl_masked_l0 {w h : Int} {m : Nat} (hg : gridOk w h = true) (hm : m < 65536) : ∀ (d g o : Nat), g + d = gapsN w h → o < 2 ^ gapsN w h →
    Ev (fun k => impl_MaskedMaze.l0 k m g w h o) (w, h, ((maskFrom w h m d g o : Nat) : Int), true)
  | 0, g, o, hd, ho => by
    have hc := gapsN_cast w h
    refine Ev.step (fun _ => impl_MaskedMaze.l0.eq_2 ..) (Ev.bnd0 (impl_CountGaps_eq w h) ?_)
    exact Ev.ff (by omega) (Ev.ret rfl)
  | d + 1, g, o, hd, ho => by
    have hc := gapsN_cast w h
    have hl := gapsN_le w h
    obtain ⟨e0, e1, e2, _⟩ := end_facts (w := w) (h := h) (g := g) (by omega) (by omega)
    have ih := impl_masked_l0 hg hm d (g + 1) (maskStep w h m o g) (by omega) (maskStep_lt ho (by omega))
    refine Ev.step (fun _ => impl_MaskedMaze.l0.eq_2 ..) (Ev.bnd0 (impl_CountGaps_eq w h) ?_)
    refine Ev.tt (by omega) (Ev.bnd0 (impl_EndsOf_eq w h g) (Ev.bnd0 (impl_isFree_eq hm e0) ?_))
    rw [wsucc (by omega)]
    show Ev _ (w, h, ((maskFrom w h m d (g + 1) (maskStep w h m o g) : Nat) : Int), true)
    unfold maskStep at ih ⊢
    cases ha : openI m (endsI w h g).1
    · refine Ev.tt (by simp) (Ev.bnd0 (impl_isFree_eq hm (by omega)) ?_)
      cases hb : openI m (endsI w h g).2
      · refine Ev.tt (by simp) ?_
        simpa [ha, hb] using ih
      · refine Ev.ff (by simp) (Ev.bnd0 (impl_with_eq w h (open_small ho) (by omega) false) ?_)
        simpa [ha, hb] using ih
    · refine Ev.ff (by simp) (Ev.bnd0 (impl_with_eq w h (open_small ho) (by omega) false) ?_)
      simpa [ha] using ih
theorem impl_MaskedMaze_ev {w h : Int} {m o : Nat} (hg : gridOk w h = true) (hm : m < 2 ^ (cellsOf w h).toNat) (ho : o < 2 ^ gapsN w h) : Ev (fun k => impl_MaskedMaze.f k w h o m) (w, h, ((masked w h m o : Nat) : Int), true) := by
  unfold impl_MaskedMaze.f
  refine Ev.bnd0 (impl_MaskOk_eq w h m) (Ev.tt (maskOk_iff.2 ⟨hg, m, rfl, hm⟩) (Ev.bnd0 (impl_MazeOk_eq w h o) ?_))
  rw [mazeOk_iff.2 ⟨hg, o, rfl, ho⟩]
  refine Ev.step (fun _ => impl_MaskedMaze.j0.eq_2 ..) (Ev.ff (by decide) ?_)
  exact impl_masked_l0 hg (mask_small hm) _ 0 o (by omega) ho
/-- The free cells in ascending order. -/
def freeI (w h : Int) (m : Nat) : List Int := (run 0 (cellsOf w h).toNat).filter fun c => !openI m c
theorem impl_FreeCells_ev {w h : Int} {m : Nat} (hg : gridOk w h = true) (hm : m < 2 ^ (cellsOf w h).toNat) : Ev (fun k => impl_FreeCells.f k w h m) (freeI w h m) := by
  have hr := cellsOf_range w h
  have hs := mask_small hm
  unfold impl_FreeCells.f
  refine Ev.bnd0 (impl_MaskOk_eq w h m) (Ev.tt (maskOk_iff.2 ⟨hg, m, rfl, hm⟩) (Ev.bnd0 (impl_CountCells_eq w h) ?_))
  rw [show cellsOf w h = (((cellsOf w h).toNat : Nat) : Int) by omega]
  refine Ev.bind (impl_upTo_ev _ (by omega)) ?_
  have hf : ∀ c ∈ run 0 (cellsOf w h).toNat, impl_isFree.f m c = some (!openI m c) := fun c hc => impl_isFree_eq hs (by have := (mem_run.1 hc).1; omega)
  refine Ev.tt ?_ (Ev.ret ?_)
  · rw [List.all_eq_true]
    intro c hc
    rw [hf c hc]
    rfl
  · unfold freeI
    apply List.filter_congr
    intro c hc
    rw [hf c hc]
    simp
end Go.Proofs.Ytbeajmcjfhbcjaa.P
namespace Go.Proofs.Ytbeajmcjfhbcjaa.P
open Go.RowKit Go.Proofs.YtbeajmcjfhbcjaaW.PrintWords Go.Proofs.YtbeajmcjfhbcjaaW.PrintLast Go.Proofs.YtbeajmcjfhbcjaaW.PrintMore
attribute [local go_sem] max2_int min2_int max_two min_two max_three min_three max_four min_four   -- for this text's walks alone
set_option linter.unusedVariables false
set_option linter.unusedSimpArgs false

/-! ### impl_IsConnected: function 65 -/
/-! ### spec_CountPassages: function 149 -/
/-! ### impl_IsPerfect: function 17 -/
end Go.Proofs.Ytbeajmcjfhbcjaa.P
namespace Go.Proofs.Ytbeajmcjfhbcjaa.P
open Go.RowKit Go.Proofs.YtbeajmcjfhbcjaaW.PrintWords
set_option linter.unusedVariables false
set_option linter.unusedSimpArgs false

section
variable {w h : Int} {n : Nat} (hg : gridOk w h = true) (hn : n < 2 ^ gapsN w h)
include hg hn
theorem impl_CountPassages_eq : impl_CountPassages.f w h n = some (pop (gapsN w h) n : Int) := by
  have hs := open_small hn
  unfold impl_CountPassages.f
  rw [impl_MazeOk_eq, Option.bind_some, if_pos (mazeOk_nat hg hn), u64_small (by omega), ones_eq' (gapsN_le w h) hn, Option.bind_some]
end
end Go.Proofs.Ytbeajmcjfhbcjaa.P
namespace Go.Proofs.Ytbeajmcjfhbcjaa.P
open Go.RowKit Go.Proofs.YtbeajmcjfhbcjaaW.PrintWords Go.Proofs.Ytbeajmcjfhbcjaa.Sup
set_option linter.unusedVariables false
set_option linter.unusedSimpArgs false

theorem maskFrom_bit {w h : Int} {m : Nat} : ∀ (d g o i : Nat), g + d = gapsN w h → (maskFrom w h m d g o).testBit i = (o.testBit i && !(decide (g ≤ i ∧ i < gapsN w h) && (m.testBit (ends w h i).1 || m.testBit (ends w h i).2)))
  | 0, g, o, i, hd => by
    rw [show decide (g ≤ i ∧ i < gapsN w h) = false by rw [decide_eq_false_iff_not]; omega]
    simp [maskFrom]
  | d + 1, g, o, i, hd => by
    obtain ⟨e1, _, _⟩ := ends_facts (w := w) (h := h) (g := g) (by omega)
    unfold maskFrom
    rw [maskFrom_bit d (g + 1) _ i (by omega)]
    unfold maskStep
    rw [e1]
    simp only [openI_nat']
    by_cases hi : i = g
    · subst hi
      rw [show decide (i + 1 ≤ i ∧ i < gapsN w h) = false by rw [decide_eq_false_iff_not]; omega, show decide (i ≤ i ∧ i < gapsN w h) = true by rw [decide_eq_true_eq]; omega]
      split
      · rename_i hc
        rw [setB_bit, hc]; simp
      · rename_i hc
        rw [Bool.eq_false_iff.2 hc]; simp
    · rw [show decide (g + 1 ≤ i ∧ i < gapsN w h) = decide (g ≤ i ∧ i < gapsN w h) by rw [decide_eq_decide]; omega]
      split
      · rw [setB_ne _ hi]
      · rfl
theorem masked_bit {w h : Int} {m o i : Nat} (hi : i < gapsN w h) : (masked w h m o).testBit i = (o.testBit i && !(m.testBit (ends w h i).1 || m.testBit (ends w h i).2)) := by
  unfold masked
  rw [maskFrom_bit _ _ _ _ (by omega), show decide (0 ≤ i ∧ i < gapsN w h) = true by rw [decide_eq_true_eq]; omega, Bool.true_and]
theorem masked_clear {w h : Int} {m o : Nat} (ho : o < 2 ^ gapsN w h) : Clear w h m (masked w h m o) := fun g hg => by
  have hgg := lt_of_testBit (masked_lt ho) hg
  rw [masked_bit hgg] at hg
  simp at hg
  exact hg.2
theorem freeI_ints (w h : Int) (m : Nat) : freeI w h m = ints (freeN w h m) := by
  unfold freeI freeN
  rw [run_zero]
  unfold ints
  rw [List.filter_map]
  refine congrArg _ (List.filter_congr fun c _ => ?_)
  show (!openI m (c : Int)) = _
  rw [openI_nat']
end Go.Proofs.Ytbeajmcjfhbcjaa.P
namespace Go.Proofs.Ytbeajmcjfhbcjaa.P
open Go.RowKit Go.Proofs.YtbeajmcjfhbcjaaW.PrintWords Go.Proofs.YtbeajmcjfhbcjaaW.PrintLast Go.Proofs.YtbeajmcjfhbcjaaW.PrintMore
attribute [local go_sem] max2_int min2_int max_two min_two max_three min_three max_four min_four   -- for this text's walks alone
set_option linter.unusedVariables false
set_option linter.unusedSimpArgs false

/-! ### spec_FullMaze: function 98 -/
end Go.Proofs.Ytbeajmcjfhbcjaa.P
namespace Go.Proofs.Ytbeajmcjfhbcjaa.P
open Go.RowKit Go.Proofs.YtbeajmcjfhbcjaaW.PrintWords
set_option linter.unusedVariables false
set_option linter.unusedSimpArgs false

def fullN (w h : Int) : Nat := 2 ^ gapsN w h - 1
theorem fullN_lt (w h : Int) : fullN w h < 2 ^ gapsN w h := by unfold fullN; have := Nat.two_pow_pos (gapsN w h); omega
theorem full_val {w h : Int} : wrap64 ((shl .i64 1 (gapsOf w h)) - 1) = ((fullN w h : Nat) : Int) := by
  have hc := gapsOf_range w h
  have hp := pow_le hc.1 hc.2
  rw [shl_one hc.1 hc.2, wrap64_id (by omega) (by omega)]
  unfold fullN gapsN
  have h1 := Nat.two_pow_pos (gapsOf w h).toNat
  have h2 := Int.natCast_pow 2 (gapsOf w h).toNat
  simp only [Int.cast_ofNat_Int] at h2
  omega
theorem impl_FullMaze_eq {w h : Int} (hg : gridOk w h = true) : impl_FullMaze.f w h = some (w, h, ((fullN w h : Nat) : Int)) := by
  unfold impl_FullMaze.f
  rw [impl_GridOk_eq, Option.bind_some, if_pos hg, impl_CountGaps_eq, Option.bind_some, if_pos (gapsOf_range w h).1, full_val]
end Go.Proofs.Ytbeajmcjfhbcjaa.P
namespace Go.Proofs.Ytbeajmcjfhbcjaa.P
open Go.RowKit Go.Proofs.YtbeajmcjfhbcjaaW.PrintWords Go.Proofs.Ytbeajmcjfhbcjaa.Sup
set_option linter.unusedVariables false
set_option linter.unusedSimpArgs false

theorem equalT_l0 (a b : List Int) (hl : a.length = b.length) (hb : b.length ≤ 35184372088832) : ∀ (d i : Nat), i + d = a.length → Ev (fun k => slices_Equal_int_int.l0 k a b (a.length : Int) i) (decide (a.drop i = b.drop i))
  | 0, i, hd => by
    refine Ev.step (fun _ => slices_Equal_int_int.l0.eq_2 ..) (Ev.ff (by omega) (Ev.ret ?_))
    rw [List.drop_eq_nil_of_le (by omega), List.drop_eq_nil_of_le (by omega)]
    rfl
  | d + 1, i, hd => by
    refine Ev.step (fun _ => slices_Equal_int_int.l0.eq_2 ..) (Ev.tt (by omega) (Ev.tt (by omega) (Ev.tt (by omega) (Ev.tt (by omega) ?_))))
    have h1 : a.drop i = a[i]'(by omega) :: a.drop (i + 1) := List.drop_eq_getElem_cons (by omega)
    have h2 : b.drop i = b[i]'(by omega) :: b.drop (i + 1) := List.drop_eq_getElem_cons (by omega)
    rw [rd_get (show i < a.length by omega), rd_get (show i < b.length by omega), h1, h2]
    refine Ev.ite (fun e => ?_) (fun e => ?_)
    · rw [wsucc (by omega)]
      refine Ev.eq (equalT_l0 a b hl hb d (i + 1) (by omega)) ?_
      rw [decide_eq_decide, List.cons.injEq, e]
      simp only [true_and]
    · refine Ev.ret ?_
      symm
      rw [decide_eq_false_iff_not, List.cons.injEq]
      exact fun h => e h.1
theorem equalT_ev (a b : List Int) (hb : b.length ≤ 35184372088832) : Ev (fun k => slices_Equal_int_int.f k a b) (decide (a = b)) := by
  unfold slices_Equal_int_int.f
  refine Ev.ite (fun h => ?_) (fun h => ?_)
  · have := equalT_l0 a b (by omega) hb a.length 0 (by omega)
    simpa using this
  · refine Ev.ret ?_
    have : a ≠ b := by rintro rfl; exact h rfl
    simp [this]
theorem impl_maskpartsT_l0 {w h : Int} {n : Nat} (hg : gridOk w h = true) (hn : n < 2 ^ gapsN w h) (l : List Nat) (hl : ∀ c ∈ l, c < cellsN w h) (hl16 : l.length ≤ 16) : ∀ (d i m : Nat), i + d = l.length → m ≤ i →
    Ev (fun k => impl_MaskParts.l0 k m (ints l) ((ints l).length : Int) i w h n) (((m + (l.drop i).countP (fun c => labN w h n c == c) : Nat)) : Int)
  | 0, i, m, hd, hm => by
    refine Ev.step (fun _ => impl_MaskParts.l0.eq_2 ..) (Ev.ff (by rw [ints_length]; omega) (Ev.ret ?_))
    rw [List.drop_eq_nil_of_le (by omega)]
    simp
  | d + 1, i, m, hd, hm => by
    have hil : i < l.length := by omega
    have hcv := hl _ (List.getElem_mem hil)
    have hri : rd (ints l) (i : Int) = (l[i] : Nat) := rd_ints (List.getElem?_eq_getElem hil)
    obtain ⟨e1, e2⟩ := head_is hn hcv
    refine Ev.step (fun _ => impl_MaskParts.l0.eq_2 ..) (Ev.tt (by rw [ints_length]; omega) (Ev.tt (by omega) (Ev.tt (by rw [ints_length]; omega) ?_)))
    rw [hri, List.drop_eq_getElem_cons hil, List.countP_cons]
    refine Ev.bind (impl_Reached_ev hg hn hcv) (Ev.tt e1 ?_)
    rw [e2, wsucc (by omega), wsucc (by omega)]
    refine Ev.ite (fun h1 => ?_) (fun h1 => ?_)
    · rw [if_pos (show (labN w h n l[i] == l[i]) = true by rw [beq_iff_eq]; omega)]
      refine Ev.eq (impl_maskpartsT_l0 hg hn l hl hl16 d (i + 1) (m + 1) (by omega) (by omega)) ?_
      omega
    · rw [if_neg (show ¬ (labN w h n l[i] == l[i]) = true by rw [beq_iff_eq]; omega)]
      exact impl_maskpartsT_l0 hg hn l hl hl16 d (i + 1) m (by omega) (by omega)
/-- The parts of the free cells. -/
def freeParts (w h : Int) (m n : Nat) : Nat := (freeN w h m).countP (fun c => labN w h n c == c)
theorem freeN_mem {w h : Int} {m c : Nat} : c ∈ freeN w h m ↔ c < cellsN w h ∧ m.testBit c = false := by
  unfold freeN
  rw [List.mem_filter, List.mem_range]
  simp
theorem impl_MaskParts_ev {w h : Int} {m : Nat} (hg : gridOk w h = true) (hmm : m < 2 ^ (cellsOf w h).toNat) : Ev (fun k => impl_MaskParts.f k w h m) ((freeParts w h m (masked w h m (fullN w h)) : Nat) : Int) := by
  have hfi := impl_FreeCells_ev hg hmm
  rw [freeI_ints] at hfi
  have hf := fullN_lt w h
  have hn := masked_lt (m := m) hf
  have h16 := freeN_len w h m
  unfold impl_MaskParts.f
  refine Ev.bnd0 (impl_FullMaze_eq hg) (Ev.bind (impl_MaskedMaze_ev hg hmm hf) (Ev.tt rfl (Ev.bind hfi (Ev.eq (impl_maskpartsT_l0 hg hn _ (fun c hc => (freeN_mem.1 hc).1) h16 (freeN w h m).length 0 0 (by omega) (by omega)) ?_))))
  unfold freeParts
  rw [List.drop_zero, Nat.zero_add]
/-- One part: every free cell is joined to the first one. -/
theorem one_part {w h : Int} {m n s : Nat} (hn : n < 2 ^ gapsN w h) (hc : Clear w h m n) (hs : s ∈ freeN w h m) (h1 : freeParts w h m n = 1) : reachN w h n s = freeN w h m := by
  obtain ⟨hs1, hs2⟩ := freeN_mem.1 hs
  have rep : ∀ c, c ∈ freeN w h m → labN w h n c ∈ freeN w h m ∧ (labN w h n (labN w h n c) == labN w h n c) = true := by
    intro c hcm
    obtain ⟨c1, c2⟩ := freeN_mem.1 hcm
    have hle := lab_le (ends w h) n (gapsN w h) c
    refine ⟨freeN_mem.2 ⟨Nat.lt_of_le_of_lt hle c1, ?_⟩, by rw [beq_iff_eq]; exact lab_lab ..⟩
    rcases clear_cn hc (lab_cn (e := ends w h) hn c) with h2 | ⟨_, h2⟩
    · have h2' : c = labN w h n c := h2
      rw [← h2']; exact c2
    · exact h2
  have uniq : ∀ a b, a ∈ freeN w h m → b ∈ freeN w h m → (labN w h n a == a) = true → (labN w h n b == b) = true → a = b := by
    intro a b ha hb ra rb
    unfold freeParts at h1
    rw [List.countP_eq_length_filter] at h1
    obtain ⟨x, hx⟩ := List.length_eq_one_iff.1 h1
    have ha' : a ∈ (freeN w h m).filter (fun c => labN w h n c == c) := List.mem_filter.2 ⟨ha, ra⟩
    have hb' : b ∈ (freeN w h m).filter (fun c => labN w h n c == c) := List.mem_filter.2 ⟨hb, rb⟩
    rw [hx, List.mem_singleton] at ha' hb'
    rw [ha', hb']
  have hall : ∀ c, c ∈ freeN w h m → Cn (ends w h) n s c := by
    intro c hcm
    obtain ⟨r1, r2⟩ := rep s hs
    obtain ⟨r3, r4⟩ := rep c hcm
    exact (lab_iff (e := ends w h) hn s c).1 (uniq _ _ r1 r3 r2 r4)
  unfold reachN freeN
  refine List.filter_congr fun x hx => ?_
  have hx' := List.mem_range.1 hx
  rw [Bool.eq_iff_iff, decide_eq_true_eq, distN_cn hn hs1]
  constructor
  · intro h2
    rcases clear_cn hc h2 with h3 | ⟨_, h3⟩
    · rw [← h3, hs2]; rfl
    · rw [h3]; rfl
  · intro h2
    exact hall x (freeN_mem.2 ⟨hx', by simpa using h2⟩)
/-- Where loops were cut in a maze of the free cells: perfect just if the free cells are one part. -/
theorem impl_IsPerfectIn_cut {w h : Int} {m n : Nat} (hg : gridOk w h = true) (hmm : m < 2 ^ (cellsOf w h).toNat) (hn : n < 2 ^ gapsN w h) (hcl : Clear w h m n) (he : masked w h m n = n) (hfo : pop (gapsN w h) n + partsN w h n = cellsN w h) :
    Ev (fun k => impl_IsPerfectIn.f k w h n m) (((freeParts w h m n : Nat) : Int) == 1) := by
  have hfi := impl_FreeCells_ev hg hmm
  rw [freeI_ints] at hfi
  have hcp := clear_parts hn hcl
  have hlen := freeN_len w h m
  have hne : ¬ ((!(w == w) || (!(h == h))) || (!(((masked w h m n : Nat) : Int) == (n : Int)))) = true := by rw [he]; simp
  unfold impl_IsPerfectIn.f
  refine Ev.bind (impl_MaskedMaze_ev hg hmm hn) (Ev.bind hfi (Ev.tt rfl (Ev.ff hne ?_)))
  cases hf : freeN w h m with
  | nil =>
    have h0 : freeParts w h m n = 0 := by unfold freeParts; rw [hf]; rfl
    rw [h0]
    exact Ev.step (fun _ => impl_IsPerfectIn.j0.eq_2 ..) (Ev.tt rfl (Ev.ret rfl))
  | cons s t =>
    have hsm : s ∈ freeN w h m := by rw [hf]; simp
    obtain ⟨hs, hms⟩ := freeN_mem.1 hsm
    rw [← hf]
    have hpos : (((ints (freeN w h m)).length : Int) == 0) = false := by rw [hf, ints_length]; simp; omega
    have hhead : rd (ints (freeN w h m)) 0 = s := by rw [hf]; rfl
    have h0 : 0 < ((ints (freeN w h m)).length : Int) := by rw [hf, ints_length]; simp
    rw [hpos]
    refine Ev.step (fun _ => impl_IsPerfectIn.j0.eq_2 ..) (Ev.ff (by decide) (Ev.tt h0 ?_))
    rw [hhead]
    have hK : freeParts w h m n + pop (gapsN w h) n = (freeN w h m).length := by
      unfold freeParts
      omega
    refine Ev.bind (impl_Reached_ev hg hn hs) (Ev.bind (equalT_ev _ _ (by rw [ints_length]; omega)) (Ev.ite (fun h2 => ?_) (fun h2 => Ev.ret ?_)))
    · refine Ev.bnd0 (impl_CountPassages_eq hg hn) (Ev.ret ?_)
      rw [ints_length] at h0 ⊢
      rw [wrap64_id (by omega) (by omega), Bool.eq_iff_iff, beq_iff_eq, beq_iff_eq]
      omega
    · symm
      rw [beq_eq_false_iff_ne]
      intro h3
      refine h2 (decide_eq_true ?_)
      rw [one_part hn hcl hsm (by omega)]
end Go.Proofs.Ytbeajmcjfhbcjaa.P
namespace Go.Proofs.Ytbeajmcjfhbcjaa.P
open Go.RowKit Go.Proofs.YtbeajmcjfhbcjaaW.PrintWords
set_option linter.unusedVariables false
set_option linter.unusedSimpArgs false

section
variable {e : Nat → Nat × Nat} {V E : Nat}
/-- Labels P tell the parts of o; no loop; what was looked at is joined. -/
structure KInv (e : Nat → Nat × Nat) (V E : Nat) (done : Nat → Prop) (P : Nat → Int) (o : Nat) : Prop where
  lt : o < 2 ^ E
  lab : ∀ x y, x < V → y < V → (P x = P y ↔ Cn e o x y)
  fo : pop E o + parts e V E o = V
  dn : ∀ g, g < E → done g → Cn e o (e g).1 (e g).2
theorem pop_zero' (E : Nat) : pop E 0 = 0 := by
  induction E with
  | zero => rfl
  | succ m ih => simp only [pop, Nat.zero_testBit, ih]; rfl
theorem KInv.start {P : Nat → Int} (hP : ∀ x, P x = x) : KInv e V E (fun _ => False) P 0 := by
  refine ⟨Nat.two_pow_pos E, fun x y _ _ => ?_, ?_, fun _ _ h => h.elim⟩
  · rw [hP, hP, Cn_zero]
    omega
  · rw [parts_zero, pop_zero', Nat.zero_add]
theorem KInv.skip {done : Nat → Prop} {P : Nat → Int} {o g : Nat} (hG : Gr e V E) (K : KInv e V E done P o) (hg : g < E) (h : P (e g).1 = P (e g).2) : KInv e V E (fun j => done j ∨ j = g) P o :=
  ⟨K.lt, K.lab, K.fo, fun j hj hd => hd.elim (K.dn j hj) (fun h2 => by subst h2; exact (K.lab _ _ (hG j hg).1 (hG j hg).2).1 h)⟩
end
/-- All gaps of a grid join all its cells. -/
theorem nb_down_all : (List.range 5).all (fun W => (List.range 5).all fun H => (List.range 16).all fun c => decide (c = 0) || decide (¬ (c : Int) < cellsOf W H) ||
    (decide (0 ≤ nbI W H c 3 ∧ nbI W H c 3 < c) || decide (0 ≤ nbI W H c 0 ∧ nbI W H c 0 < c))) = true := by decide +kernel
theorem full_conn {w h : Int} (hg : gridOk w h = true) {full : Nat} (hf : ∀ g, g < gapsN w h → full.testBit g = true) : ∀ x, x < cellsN w h → Cn (ends w h) full 0 x := by
  intro x
  induction x using Nat.strongRecOn with
  | _ x ih =>
    intro hx
    have hc := cellsN_cast w h
    have hl := cellsN_le w h
    by_cases h0 : x = 0
    · subst h0; exact .refl _
    obtain ⟨W, H, rfl, rfl, _, w5, _, h5⟩ := grid_nat hg
    have := List.all_eq_true.1 (List.all_eq_true.1 (List.all_eq_true.1 nb_down_all W (List.mem_range.2 w5)) H (List.mem_range.2 h5)) x (List.mem_range.2 (by omega))
    simp only [Bool.or_eq_true, decide_eq_true_eq] at this
    have hd : ∃ d : Int, 0 ≤ nbI W H x d ∧ nbI W H x d < x := by
      rcases this with (h | h) | (h | h)
      · exact absurd h h0
      · exact absurd (show (x : Int) < cellsOf W H by omega) h
      · exact ⟨3, h⟩
      · exact ⟨0, h⟩
    obtain ⟨d, d0, d1⟩ := hd
    rcases step_facts W H x d with ⟨f1, _⟩ | ⟨f1, f2, f3, f4, f5, f6, _⟩
    · omega
    have hgc := gapsN_cast W H
    obtain ⟨g, hgg⟩ : ∃ g : Nat, gapI W H x d = g := ⟨(gapI W H x d).toNat, by omega⟩
    have hgl : g < gapsN W H := by omega
    obtain ⟨y, hy⟩ : ∃ y : Nat, nbI W H x d = y := ⟨(nbI W H x d).toNat, by omega⟩
    have he : ends W H g = (y, x) := by
      rw [hgg, hy] at f6
      unfold ends
      rw [f6]
      rw [hy] at d1
      have m1 : min (x : Int) (y : Int) = y := by omega
      have m2 : max (x : Int) (y : Int) = x := by omega
      rw [m1, m2]
      simp
    have hyx : Cn (ends W H) full y x := by
      have := Cn.edge (e := ends W H) (hf g hgl)
      rwa [he] at this
    exact (ih y (by omega) (by omega)).trans hyx
end Go.Proofs.Ytbeajmcjfhbcjaa.P
namespace Go.Proofs.Ytbeajmcjfhbcjaa.P
open Go.RowKit Go.Proofs.YtbeajmcjfhbcjaaW.PrintWords Go.Proofs.YtbeajmcjfhbcjaaW.PrintLast Go.Proofs.YtbeajmcjfhbcjaaW.PrintMore
attribute [local go_sem] max2_int min2_int max_two min_two max_three min_three max_four min_four   -- for this text's walks alone
set_option linter.unusedVariables false
set_option linter.unusedSimpArgs false

/-! ### spec_l03Common: function 155 -/
/-! ### spec_l03Tree: function 124 -/
/-! ### spec_l05Tree: function 121 -/
/-! ### spec_DrawPerfect: function 62 -/
end Go.Proofs.Ytbeajmcjfhbcjaa.P
namespace Go.Proofs.Ytbeajmcjfhbcjaa.P
open Go Go.RowKit Go.Proofs.YtbeajmcjfhbcjaaW.PrintWords
set_option linter.unusedVariables false
set_option linter.unusedSimpArgs false

theorem bits_255 (x : Int) : 0 ≤ Go.bits .and .i64 x 255 ∧ Go.bits .and .i64 x 255 ≤ 255 := by
  have h : (BitVec.ofInt 64 x &&& BitVec.ofInt 64 255).toNat ≤ 255 := by
    rw [BitVec.toNat_and]
    exact Nat.and_le_right
  show 0 ≤ IntKind.i64.wrap ((BitVec.ofInt 64 x &&& BitVec.ofInt 64 255).toNat : Int) ∧ IntKind.i64.wrap ((BitVec.ofInt 64 x &&& BitVec.ofInt 64 255).toNat : Int) ≤ 255
  rw [wrap_small (by omega)]
  omega
section
variable {l : List Int}
theorem spec_New_l0 (hl : l.length ≤ 1048576) : ∀ (e i : Nat) (h : Int), l.length - i = e → ∃ h', Ev (fun k => spec_l01New.l0 k l h i) (l, 0, h')
  | 0, i, h, he => ⟨h, Ev.step (fun _ => spec_l01New.l0.eq_2 ..) (Ev.ff (by omega) (Ev.ret rfl))⟩
  | e + 1, i, h, he => by
    by_cases h4 : (i : Int) < 4000
    · obtain ⟨h', ih⟩ := spec_New_l0 hl e (i + 1) (Go.bits .and .i64 (wrap64 ((wrap64 ((wrap64 (h * 131)) + (wrap64 (rd l i)))) + 7)) 1073741823) (by omega)
      refine ⟨h', Ev.step (fun _ => spec_l01New.l0.eq_2 ..) (Ev.tt (by omega) (Ev.tt h4 (Ev.tt (by omega) ?_)))⟩
      rw [wsucc (by omega)]
      exact ih
    · exact ⟨h, Ev.step (fun _ => spec_l01New.l0.eq_2 ..) (Ev.tt (by omega) (Ev.ff h4 (Ev.ret rfl)))⟩
theorem spec_New_ev (hl : l.length ≤ 1048576) : ∃ h', Ev (fun k => spec_l01New.f k l) (l, 0, h') := spec_New_l0 hl l.length 0 _ rfl
theorem spec_Byte_eq (hl : l.length ≤ 1048576) {i : Int} (hi : 0 ≤ i) (h : Int) : ∃ b i' h', spec_l01Byte.f l i h = some (b, i', h') ∧ 0 ≤ b ∧ b ≤ 255 ∧ 0 ≤ i' := by
  unfold spec_l01Byte.f
  by_cases e : i < (l.length : Int)
  · rw [if_pos e, if_pos hi]
    exact ⟨_, _, _, rfl, (bits_255 _).1, (bits_255 _).2, by rw [wrap64_id (by omega) (by omega)]; omega⟩
  · rw [if_neg e]
    exact ⟨_, _, _, rfl, (bits_255 _).1, (bits_255 _).2, hi⟩
theorem spec_Below_eq (hl : l.length ≤ 1048576) {i : Int} (hi : 0 ≤ i) (h : Int) {n : Int} (h1 : 1 ≤ n) (h2 : n ≤ 256) : ∃ b i' h', spec_l01Below.f l i h n = some (b, i', h') ∧ 0 ≤ b ∧ b < n ∧ 0 ≤ i' := by
  obtain ⟨b, i', h', e, b0, b1, hi'⟩ := spec_Byte_eq hl hi h
  unfold spec_l01Below.f
  rw [if_neg (by omega), if_pos h2, e, Option.bind_some, if_neg (by omega)]
  exact ⟨_, _, _, rfl, Int.tmod_nonneg _ b0, Int.tmod_lt_of_pos _ (by omega), hi'⟩
theorem spec_Pick_eq (hl : l.length ≤ 1048576) {i : Int} (hi : 0 ≤ i) (h : Int) : ∃ (j : Nat) (i' h' : Int), spec_l01PickInt.f l i h [1, 2, 3, 3, 4] = some (rd [1, 2, 3, 3, 4] (j : Int), i', h') ∧ j < 5 ∧ 0 ≤ i' := by
  obtain ⟨b, i', h', e, b0, b1, hi'⟩ := spec_Below_eq hl hi h (n := 5) (by omega) (by omega)
  unfold spec_l01PickInt.f
  show ∃ (j : Nat) (i'' h'' : Int), (spec_l01Below.f l i h 5).bind _ = _ ∧ _
  rw [e, Option.bind_some, if_pos b0]
  refine ⟨b.toNat, i', h', ?_, by omega, hi'⟩
  rw [if_pos (show b < (([1, 2, 3, 3, 4] : List Int).length : Int) from b1), Int.toNat_of_nonneg b0]
theorem pick_ok {j : Nat} (hj : j < 5) : 1 ≤ rd [1, 2, 3, 3, 4] (j : Int) ∧ rd [1, 2, 3, 3, 4] (j : Int) ≤ 4 := by
  have : j = 0 ∨ j = 1 ∨ j = 2 ∨ j = 3 ∨ j = 4 := by omega
  rcases this with rfl | rfl | rfl | rfl | rfl <;> decide
theorem spec_Grid_eq (hl : l.length ≤ 1048576) {i : Int} (hi : 0 ≤ i) (h : Int) : ∃ w hh i' h', spec_l02Grid.f l i h = some (w, hh, i', h') ∧ gridOk w hh = true ∧ 0 ≤ i' := by
  obtain ⟨j, i1, h1, e1, hj, hi1⟩ := spec_Pick_eq hl hi h
  obtain ⟨j2, i2, h2, e2, hj2, hi2⟩ := spec_Pick_eq hl hi1 h1
  unfold spec_l02Grid.f
  rw [e1, Option.bind_some, e2, Option.bind_some]
  refine ⟨_, _, _, _, rfl, gridOk_iff.2 ?_, hi2⟩
  have := pick_ok hj
  have := pick_ok hj2
  omega
end
/-! The step that the draw takes -/
/-! Labels as a table -/
end Go.Proofs.Ytbeajmcjfhbcjaa.P
namespace Go.Proofs.Ytbeajmcjfhbcjaa.P
open Go Go.RowKit Go.Proofs.YtbeajmcjfhbcjaaW.PrintWords
set_option linter.unusedVariables false
set_option linter.unusedSimpArgs false

theorem mask_l0 {w h : Int} {xs : List Int} (hg : gridOk w h = true) (hl : xs.length ≤ 1048576) : ∀ (d m : Nat) (i1 h1 : Int), d ≤ 3 → m < 2 ^ cellsN w h → 0 ≤ i1 →
    ∃ (m' : Nat) (i2 h2 : Int), m' < 2 ^ cellsN w h ∧ Ev (fun k => spec_l20Mask.l0 k m d xs i1 h1 w h) ((m' : Int), i2, h2)
  | 0, m, i1, h1, hd, hm, hi => ⟨m, i1, h1, hm, Ev.step (fun _ => spec_l20Mask.l0.eq_2 ..) (Ev.ff (by omega) (Ev.ret rfl))⟩
  | d + 1, m, i1, h1, hd, hm, hi => by
    have hcc := cellsN_cast w h
    have hcl := cellsN_le w h
    have hcp := cells_pos hg
    have hmx : mx 1 (cellsOf w h) = cellsOf w h := by unfold mx; split <;> omega
    obtain ⟨b, i2, h2, e, b0, b1, hi2⟩ := spec_Below_eq hl hi h1 (n := cellsOf w h) (by omega) (by omega)
    obtain ⟨b', rfl⟩ := Int.eq_ofNat_of_zero_le b0
    obtain ⟨m', i3, h3, hm', ih⟩ := mask_l0 hg hl d (setB m b' true) i2 h2 (by omega) (setB_lt true hm (by omega)) hi2
    refine ⟨m', i3, h3, hm', Ev.step (fun _ => spec_l20Mask.l0.eq_2 ..) (Ev.tt (by omega) (Ev.bnd0 (spec_CountCells_eq ..) ?_))⟩
    rw [hmx]
    refine Ev.bnd0 e (Ev.tt b0 ?_)
    have hp : 2 ^ cellsN w h ≤ 2 ^ 16 := Nat.pow_le_pow_right (by decide) hcl
    have hb : 2 ^ b' ≤ 2 ^ 16 := Nat.pow_le_pow_right (by decide) (by omega)
    rw [shl_pow (by omega), bits_or (by omega) (by omega), show m ||| 2 ^ b' = setB m b' true from rfl, show wrap64 (((d + 1 : Nat) : Int) - 1) = (d : Int) by rw [wrap64_id (by omega) (by omega)]; omega]
    exact ih
theorem spec_DrawMask_ev {l : List Int} (hl : l.length ≤ 1048576) : ∃ (w h : Int) (m : Nat), gridOk w h = true ∧ m < 2 ^ cellsN w h ∧ Ev (fun k => spec_DrawMask.f k l) (w, h, (m : Int)) := by
  obtain ⟨h', e1⟩ := spec_New_ev hl
  obtain ⟨w, h, i2, h2, e2, hg, hi2⟩ := spec_Grid_eq hl (i := 0) (by omega) h'
  obtain ⟨b, i3, h3, e3, b0, b1, hi3⟩ := spec_Below_eq hl hi2 h2 (n := 4) (by omega) (by omega)
  obtain ⟨b', rfl⟩ := Int.eq_ofNat_of_zero_le b0
  obtain ⟨m, i4, h4, hm, e4⟩ := mask_l0 hg hl b' 0 i3 h3 (by omega) (Nat.two_pow_pos _) hi3
  refine ⟨w, h, m, hg, hm, ?_⟩
  have hM : Ev (fun k => spec_l20Mask.f k l i2 h2 w h) ((m : Int), i4, h4) := by
    unfold spec_l20Mask.f
    exact Ev.bnd0 e3 e4
  unfold spec_DrawMask.f
  exact Ev.bind e1 (Ev.bnd0 e2 (Ev.bind hM (Ev.ret rfl)))
end Go.Proofs.Ytbeajmcjfhbcjaa.P
namespace Go.Proofs.Ytbeajmcjfhbcjaa.P
open Go.RowKit Go.Proofs.YtbeajmcjfhbcjaaW.PrintWords Go.Proofs.Ytbeajmcjfhbcjaa.Sup
set_option linter.unusedVariables false
set_option linter.unusedSimpArgs false

theorem has_l0 (l : List Int) (x : Int) (hl : l.length ≤ 1048576) : ∀ (d i : Nat), l.length - i = d → i ≤ l.length → Ev (fun k => laws_has.l0 k l x i) (decide (x ∈ l.drop i))
  | 0, i, hd, hi => by
    refine Ev.step (fun _ => laws_has.l0.eq_2 ..) (Ev.ff (by omega) (Ev.ret ?_))
    rw [List.drop_eq_nil_of_le (by omega)]
    simp
  | d + 1, i, hd, hi => by
    refine Ev.step (fun _ => laws_has.l0.eq_2 ..) (Ev.tt (by omega) (Ev.tt (by omega) ?_))
    rw [rd_get (show i < l.length by omega), List.drop_eq_getElem_cons (show i < l.length by omega), wsucc (by omega)]
    refine Ev.ite (fun e => Ev.ret ?_) (fun e => Ev.eq (has_l0 l x hl d (i + 1) (by omega) (by omega)) ?_)
    · simp [e]
    · have : ¬ x = l[i] := fun h => e h.symm
      rw [decide_eq_decide, List.mem_cons]
      exact ⟨Or.inr, fun h => h.resolve_left this⟩
theorem has_ev (l : List Int) (x : Int) (hl : l.length ≤ 1048576) : Ev (fun k => laws_has.f k l x) (decide (x ∈ l)) := by
  unfold laws_has.f
  have := has_l0 l x hl l.length 0 (by omega) (by omega)
  rwa [List.drop_zero] at this
theorem masked_idem {w h : Int} {m n : Nat} (hn : n < 2 ^ gapsN w h) (hc : Clear w h m n) : masked w h m n = n := by
  refine Nat.eq_of_testBit_eq fun i => ?_
  by_cases hi : i < gapsN w h
  · rw [masked_bit hi]
    cases hb : n.testBit i
    · rfl
    · obtain ⟨a, b⟩ := hc i hb
      rw [a, b]; rfl
  · have hp : 2 ^ gapsN w h ≤ 2 ^ i := Nat.pow_le_pow_right (by decide) (by omega)
    rw [Nat.testBit_lt_two_pow (Nat.lt_of_lt_of_le (masked_lt hn) hp), Nat.testBit_lt_two_pow (Nat.lt_of_lt_of_le hn hp)]
theorem ways_none {w h : Int} {m n c : Nat} (hn : n < 2 ^ gapsN w h) (hc : Clear w h m n) (hm : m.testBit c = true) : waysI w h n c = [] := by
  have hs : ∀ d : Int, ¬ 0 ≤ stepI w h n c d := by
    intro d h0
    obtain ⟨g, g1, g2, g3, g4, g5⟩ := step_open hn h0
    obtain ⟨a, b⟩ := hc g g3
    unfold ends at a b
    rw [g5] at a b
    have hcc : (min (c : Int) (nbI w h c d)).toNat = c ∨ (max (c : Int) (nbI w h c d)).toNat = c := by omega
    rcases hcc with e | e
    · rw [e, hm] at a; cases a
    · rw [e, hm] at b; cases b
  unfold waysI
  rw [waysFrom_succ _ (by omega), if_neg (hs _), waysFrom_succ _ (by omega), if_neg (hs _), waysFrom_succ _ (by omega), if_neg (hs _), waysFrom_succ _ (by omega), if_neg (hs _)]
  rfl
theorem parts_zero_mask {w h : Int} (hg : gridOk w h = true) : freeParts w h 0 (masked w h 0 (fullN w h)) = 1 := by
  have hf := fullN_lt w h
  have hn := masked_lt (m := 0) hf
  have hcp := clear_parts hn (masked_clear (m := 0) hf)
  have hl : (freeN w h 0).length = cellsN w h := by
    unfold freeN
    rw [List.filter_eq_self.2 (fun c _ => by rw [Nat.zero_testBit]; rfl), List.length_range]
  have h1 : partsN w h (masked w h 0 (fullN w h)) = 1 := by
    refine (parts_one hn (cells_pos hg)).2 (full_conn hg fun g hgg => ?_)
    rw [masked_bit hgg]
    unfold fullN
    rw [Nat.testBit_two_pow_sub_one]
    simp [hgg]
  unfold freeParts
  omega
theorem FnMasks_pure (l : List Int) (hy : l.length ≤ 140737488351232) (hz : ∀ x ∈ l, 0 ≤ x ∧ x ≤ 255) : ∃ k, laws_FnMasks.f k l = some true := by
  refine Ev.rounds ?_
  unfold laws_FnMasks.f laws_big.f
  refine Ev.bnd0 rfl (Ev.ite (fun _ => Ev.ret rfl) (fun hb => ?_))
  have hl : l.length ≤ 1048576 := by
    rw [decide_eq_true_eq] at hb
    omega
  obtain ⟨w, h, m, hg, hmm, hd⟩ := spec_DrawMask_ev hl
  have hmm' : m < 2 ^ (cellsOf w h).toNat := hmm
  have hf := fullN_lt w h
  have hn := masked_lt (m := m) hf
  have hcl := masked_clear (m := m) hf
  have hid := masked_idem hn hcl
  have hfi := impl_FreeCells_ev hg hmm'
  rw [freeI_ints] at hfi
  have h16 := freeN_len w h m
  have hcc := cellsN_cast w h
  have hcl16 := cellsN_le w h
  obtain ⟨c1, c2, c3⟩ := cut_facts hn
  have hclt := cutFrom_lt (w := w) (h := h) (gapsN w h) 0 _ (by omega) hn
  have hcc2 : Clear w h m (cutFrom w h (gapsN w h) 0 (masked w h m (fullN w h))) := fun g hgb => hcl g (c1 g hgb)
  have hsame : freeParts w h m (cutFrom w h (gapsN w h) 0 (masked w h m (fullN w h))) = freeParts w h m (masked w h m (fullN w h)) := by
    unfold freeParts
    exact List.countP_congr fun c _ => by rw [lab_same hclt hn c2]
  have hle : freeParts w h m (masked w h m (fullN w h)) ≤ (freeN w h m).length := List.countP_le_length
  have hM := impl_MaskParts_ev hg hmm'
  have hP := impl_IsPerfectIn_cut hg hmm' hclt hcc2 (masked_idem hclt hcc2) c3
  rw [hsame] at hP
  have hZ := impl_MaskParts_ev (m := 0) hg (Nat.two_pow_pos _)
  rw [parts_zero_mask hg] at hZ
  have loop : ∀ e i : Nat, i + e = cellsN w h → Ev (fun k => laws_FnMasks.l0 k m true true (ints (freeN w h m)) i w h w h (masked w h m (fullN w h) : Nat) w h (masked w h m (fullN w h) : Nat)) true := by
    intro e
    induction e with
    | zero =>
      intro i hi
      refine Ev.step (fun _ => laws_FnMasks.l0.eq_2 ..) (Ev.bnd0 (spec_CountCells_eq ..) (Ev.ff (by omega) (Ev.tt rfl (Ev.tt rfl (Ev.tt (by simp) ?_)))))
      refine Ev.bind (impl_CutLoops_ev hg hn) (Ev.bind hP (Ev.bind hM (Ev.tt (by simp) (Ev.bind hM (Ev.tt (by rw [ints_length]; omega) (Ev.bind hZ (Ev.ret rfl)))))))
    | succ e ih =>
      intro i hi
      have hnx := ih (i + 1) (by omega)
      refine Ev.step (fun _ => laws_FnMasks.l0.eq_2 ..) (Ev.bnd0 (spec_CountCells_eq ..) (Ev.tt (by omega) (Ev.bind (has_ev _ _ (by rw [ints_length]; omega)) ?_)))
      rw [wsucc (by omega)]
      refine Ev.ite (fun _ => hnx) (fun h2 => ?_)
      have hmb : m.testBit i = true := by
        cases hb : m.testBit i
        · exfalso
          refine h2 (decide_eq_true ?_)
          unfold ints
          exact List.mem_map.2 ⟨i, freeN_mem.2 ⟨by omega, hb⟩, rfl⟩
        · rfl
      refine Ev.bind (impl_Ways_ev hg hn i) ?_
      rw [ways_none hn hcl hmb]
      exact Ev.ff (by simp) hnx
  refine Ev.bind hd (Ev.bnd0 (impl_FullMaze_eq hg) (Ev.bind (impl_MaskedMaze_ev hg hmm' hf) (Ev.bind (impl_MaskedMaze_ev hg hmm' hn) (Ev.bind hfi ?_))))
  rw [hid]
  exact loop (cellsN w h) 0 (by omega)
end Go.Proofs.Ytbeajmcjfhbcjaa.P
namespace Go.Proofs.Ytbeajmcjfhbcjaa.fnMasks
open Go.ChangeShapes Go.WideShapes Go.ChangeAt Go.RowKit Go.Proofs.YtbeajmcjfhbcjaaW.PrintWords Go.Proofs.Ytbeajmcjfhbcjaa.Sup
open Go.ChangeMaps (open_string shut_string)
set_option linter.unusedVariables false
theorem own : ownKnob Try.prog.godebug = none := by kernel_rfl
theorem laidOut : laidOutB Try.prog = true := by kernel_rfl
set_option maxRecDepth 100000 in
theorem lifted (os : Os) (started : os.Started) (H : Type) (enc : TypeId × Value → H) :
    ReturnsInHanded {} Try.checked os 12 .any (Rows.fnMasksSpec.pre6 enc Try.prog Try.f12 Rows.fnMasksRow.domain false) (Rows.fnMasksSpec.post enc Try.prog Try.f12 false true false false) := by
  refine returnsInHanded_of_change_sized (C := Try.checked) own started (by kernel_rfl) Try.func12
    (ChangeSpec.witness6 (enc := enc) (C := Try.checked) false ⟨#[], #[.slice none 0 0], []⟩ 8 (by kernel_rfl) (by kernel_rfl) (by kernel_rfl) (by kernel_rfl)) ?_
  intro W base args ds gs before hval0 hW hcnd hsz0 _
  have hsz : (DataW.weightsEach Try.prog (Try.f12.params.toList ++ Rows.fnMasksSpec.plain.varTypes Try.prog) (ds ++ gs)).all (· ≤ reachBytes) = true := hsz0
  have hval : ∀ (j : Nat) t v, Try.f12.params[j]? = some t → args[j]? = some v → Value.okWide Try.prog W .any base t v := hval0
  have hW' := hW
  obtain ⟨p, q, hA0, hV, rfl, hfz, hnd⟩ := hW
  have hA : DataW.TrodAll enc Try.prog W 0 (fun _ => true) true Try.f12.params.toList args.toList ds p := hA0
  rw [Try.params12] at hA hval hsz
  obtain ⟨v0, vs0, d0, ds0, p0, q0, hargs, rfl, rfl, h0, r0⟩ := trodAll_cons hA
  obtain ⟨rfl, rfl, rfl⟩ := trodAll_nil r0
  obtain rfl : args = #[v0] := by cases args; simp_all
  obtain ⟨rfl, rfl⟩ := trodVars_none hV
  obtain ⟨a0, len0, cap0, rfl⟩ := okWide_slice Try.underlying22 (hval 0 22 v0 rfl rfl)
  have k0 := h0
  have lt0 : ∀ x ∈ p0, x.block < W.heap.size := by obtain ⟨m, hm⟩ := k0; exact DataW.trod_lt m _ _ _ hm
  obtain ⟨z0, w0⟩ : ∃ zs, IsRow .u8 W a0 len0 cap0 zs := by
    obtain ⟨fuel, hf⟩ := h0
    rcases open_ints Try.underlying22 Try.underlying5 (by kernel_rfl) hf with ⟨hcs, _⟩ | ⟨x, l, c, zs, hcs, _, hl, hm, hz, _, hcell, hwz⟩
    · simp [Value.cells] at hcs
      obtain ⟨rfl, rfl, rfl⟩ := hcs
      exact ⟨[], .inl ⟨rfl, rfl, rfl, rfl⟩⟩
    · simp [Value.cells] at hcs
      obtain ⟨rfl, rfl, rfl⟩ := hcs
      exact ⟨zs, .inr ⟨_, rfl, hl, hm, by simpa using hz, hcell, hwz⟩⟩
  have y0 : len0 * 1 ≤ 140737488351232 := sized_ints hsz (j := 0) (t := 22) rfl rfl Try.underlying22 Try.underlying5 (by kernel_rfl) (by kernel_rfl) h0
  obtain ⟨l0, rfl, hr0, hm0, hw0, hc0⟩ := ReadsInt.ofRowC w0
  clear hA0 hval0 hsz0 hsz
  obtain ⟨k, hf⟩ := P.FnMasks_pure l0 (by omega) (fun x hx => u8_of_wf (hw0 x hx))
  refine (P.laws_FnMasks.calls k _ _ l0 true W (Kd.C_of_reads (d := (0 : Int)) (h1 := fun _ => rfl) hr0) hc0 hf).mono fun e W' ⟨he, bel0⟩ => ?_
  have bel : Below W.heap.size W W' := bel0
  subst he
  exact ⟨_, rfl, _, _, _, [], _, [], hW', trodAll_mk1 (shut_bool Try.underlying4 _), (trodAll_cons_mk (Below.trod laidOut (by kernel_rfl) (of_decide_eq_true (by kernel_rfl)) k0 bel lt0) trodAll_mk0), rfl, bel.frame _, fun h => by cases h⟩
theorem over : Rows.fnMasksRow.holds Try.pinned (OpenSpec.ofChange Rows.fnMasksSpec) :=
  OpenClaim.holds_of_wide 12 Try.f12 rfl rfl rfl rfl rfl rfl rfl ⟨rfl, rfl, rfl, rfl, rfl⟩ rfl rfl rfl rfl rfl (by kernel_rfl) Try.func12 (by kernel_rfl)
    (of_decide_eq_true (by kernel_rfl)) (by unfold Func.isWrapper; first | (rw [if_pos (by decide +kernel)]; kernel_rfl) | (rw [if_neg (by decide +kernel)]; exact ⟨rfl, rfl⟩))
    (fun os started H enc _ => lifted os started H enc)
theorem proved : Rows.FnMasksSaid := over
end Go.Proofs.Ytbeajmcjfhbcjaa.fnMasks
namespace Go.Proofs.Ytbeajmcjfhbcjaa
/-- The row, under a short name, for the claim. -/
theorem fnMasks_holds : Rows.FnMasksSaid := fnMasks.proved
#print axioms fnMasks_holds
end Go.Proofs.Ytbeajmcjfhbcjaa
