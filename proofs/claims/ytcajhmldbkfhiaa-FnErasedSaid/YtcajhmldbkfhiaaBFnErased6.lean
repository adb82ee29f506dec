/- The statement FnErased of the seat, out of its plain form (FnErased_pure) and the walk of its Go function. Part 6 of 6: each Go function's walk, then the plain lemmas, then the row. No condition: it holds for every input. -/
import Derived.Test.YtcajhmldbkfhiaaBFnErased5
import Derived.Test.YtcajhmldbkfhiaaRows
import Derived.Below
import Derived.ChangeOld
import Derived.Deep.Matrix
import Derived.Lib.SmallJoins
import Derived.OpenShut
import Derived.ProofKit
import Derived.ShutString
import Derived.SizedLaws
import Derived.WalkKit
namespace Go.Proofs.Ytcajhmldbkfhiaa.Sup
open Go.ChangeShapes Go.WideShapes Go.ChangeAt Go.RowKit Go.Joins Go.Proofs.YtcajhmldbkfhiaaW.PrintWords
set_option linter.unusedVariables false
set_option linter.unusedSimpArgs false

theorem u8_of_wf {a : Int} (h : (Lit.int .u8 a).wf = true) : 0 ≤ a ∧ a ≤ 255 := by
  simp only [Lit.wf, IntKind.min, IntKind.max, IntKind.signed, IntKind.bits, Bool.and_eq_true, decide_eq_true_eq] at h
  simp at h
  omega

section
variable {H : Type} {enc : TypeId × Value → H} {P : Program} {w : World} {base : Nat} {spare : Nat → Bool} {held : Bool}

end

def IsRow (k : IntKind) (w : World) (a : Option Addr) (len cap : Nat) (zs : List Int) : Prop :=
  (a = none ∧ len = 0 ∧ cap = 0 ∧ zs = []) ∨
  ∃ x, a = some x ∧ len ≤ cap ∧ cap ≤ maxLen ∧ zs.length = cap ∧ (∀ i, i < zs.length → w.cell? (x.add i) = some (.int k (zs.getD i 0))) ∧ ∀ n ∈ zs, (Lit.int k n).wf = true

end Go.Proofs.Ytcajhmldbkfhiaa.Sup
namespace Go.Proofs.Ytcajhmldbkfhiaa.P
open Go.RowKit Go.Proofs.YtcajhmldbkfhiaaW.PrintWords
set_option linter.unusedVariables false
set_option linter.unusedSimpArgs false

theorem l01In_eq (a b c : Int) : spec_l01In.f a b c = some (decide (b ≤ a ∧ a ≤ c)) := by
  unfold spec_l01In.f
  by_cases h : a ≥ b
  · rw [if_pos h]; congr 1; simp; omega
  · rw [if_neg h]; congr 1; simp; omega

end Go.Proofs.Ytcajhmldbkfhiaa.P
namespace Go.Proofs.Ytcajhmldbkfhiaa.P
open Go.RowKit Go.Proofs.YtcajhmldbkfhiaaW.PrintWords Go.Proofs.Ytcajhmldbkfhiaa.Sup
set_option linter.unusedVariables false
set_option linter.unusedSimpArgs false

theorem spec_GridOk_eq (w h : Int) : spec_GridOk.f w h = some (gridOk w h) := by
  unfold spec_GridOk.f
  simp only [l01In_eq, Option.bind_some]
  unfold gridOk
  by_cases h1 : 1 ≤ w ∧ w ≤ 4
  · simp only [h1, and_self, decide_true, if_true, true_and]
  · have : ¬ (1 ≤ w ∧ w ≤ 4 ∧ 1 ≤ h ∧ h ≤ 4) := by omega
    rw [decide_eq_false h1, decide_eq_false this]; simp
theorem impl_GridOk_eq (w h : Int) : impl_GridOk.f w h = some (gridOk w h) := by
  unfold impl_GridOk.f gridOk
  repeat' split
  all_goals congr 1
  all_goals first | (rw [decide_eq_decide]; omega) | (symm; rw [decide_eq_false_iff_not]; omega)

theorem impl_CountCells_eq (w h : Int) : impl_CountCells.f w h = some (cellsOf w h) := by
  unfold impl_CountCells.f
  rw [impl_GridOk_eq, Option.bind_some]
  have := cellsOf_range w h
  unfold cellsOf at *
  by_cases hg : gridOk w h = true
  · rw [if_pos hg] at *
    rw [if_pos hg, wrap64_id (by omega) (by omega)]
  · rw [if_neg hg, if_neg hg]
theorem spec_CountCells_eq (w h : Int) : spec_CountCells.f w h = some (cellsOf w h) := by
  unfold spec_CountCells.f
  rw [spec_GridOk_eq, Option.bind_some]
  have := cellsOf_range w h
  unfold cellsOf at *
  by_cases hg : gridOk w h = true
  · rw [if_pos hg] at *
    rw [if_pos hg, wrap64_id (by omega) (by omega)]
  · rw [if_neg hg, if_neg hg]
theorem impl_CountGaps_eq (w h : Int) : impl_CountGaps.f w h = some (gapsOf w h) := by
  unfold impl_CountGaps.f
  rw [impl_GridOk_eq, Option.bind_some]
  unfold gapsOf
  by_cases hg : gridOk w h = true
  · rw [if_pos hg, if_pos hg]
    obtain ⟨h1 | h1 | h1 | h1, h2 | h2 | h2 | h2⟩ := grid_cases hg <;> subst h1 <;> subst h2 <;> simp [wrap64, eastOf]
  · rw [if_neg hg, if_neg hg]
theorem spec_l02East_eq {w h : Int} (hg : gridOk w h = true) : spec_l02East.f w h = some (eastOf w h) := by
  unfold spec_l02East.f eastOf
  obtain ⟨h1 | h1 | h1 | h1, h2 | h2 | h2 | h2⟩ := grid_cases hg <;> subst h1 <;> subst h2 <;> simp [wrap64, eastOf]
theorem spec_CountGaps_eq (w h : Int) : spec_CountGaps.f w h = some (gapsOf w h) := by
  unfold spec_CountGaps.f
  rw [spec_GridOk_eq, Option.bind_some]
  unfold gapsOf
  by_cases hg : gridOk w h = true
  · rw [if_pos hg, if_pos hg, spec_l02East_eq hg, Option.bind_some]
    obtain ⟨h1 | h1 | h1 | h1, h2 | h2 | h2 | h2⟩ := grid_cases hg <;> subst h1 <;> subst h2 <;> simp [wrap64, eastOf]
  · rw [if_neg hg, if_neg hg]

/-- 2 to the power of a small number. -/
theorem shl_one {n : Int} (h0 : 0 ≤ n) (h1 : n ≤ 24) : shl .i64 1 n = 2 ^ n.toNat := by
  obtain ⟨m, rfl⟩ := Int.eq_ofNat_of_zero_le h0
  have : m ≤ 24 := by omega
  clear h0 h1
  revert m
  decide +kernel
end Go.Proofs.Ytcajhmldbkfhiaa.P
namespace Go.Proofs.Ytcajhmldbkfhiaa.P
open Go.RowKit Go.Proofs.YtcajhmldbkfhiaaW.PrintWords
set_option linter.unusedVariables false
set_option linter.unusedSimpArgs false

theorem impl_isCell_eq (w h c : Int) : impl_isCell.f w h c = some (isCellI w h c) := by
  unfold impl_isCell.f isCellI
  rw [impl_CountCells_eq]
  by_cases hc : c ≥ 0
  · rw [if_pos hc, Option.bind_some]; congr 1; rw [decide_eq_decide]; omega
  · rw [if_neg hc]; congr 1; symm; rw [decide_eq_false_iff_not]; omega
theorem impl_Neighbor_ev (w h c d : Int) : Ev (fun k => impl_Neighbor.f k w h c d) (nbI w h c d) := by
  unfold impl_Neighbor.f nbI
  refine Ev.bnd0 (impl_isCell_eq w h c) ?_
  unfold isCellI
  by_cases hc : 0 ≤ c ∧ c < cellsOf w h
  · rw [if_pos hc]
    obtain ⟨hg, hcw⟩ := cellsOf_valid hc.1 hc.2
    have hcr := cellsOf_range w h
    have hgr := gridOk_iff.1 hg
    refine Ev.tt (by simpa using hc) (Ev.ff (by omega) ?_)
    have hx0 : 0 ≤ c % w := Int.emod_nonneg _ (by omega)
    have hx1 : c % w < w := Int.emod_lt_of_pos _ (by omega)
    have hy0 : 0 ≤ c / w := Int.ediv_nonneg hc.1 (by omega)
    have hy1 : c / w ≤ c := Int.ediv_le_self _ hc.1
    rw [Int.tmod_eq_emod_of_nonneg hc.1, Int.tdiv_eq_ediv_of_nonneg hc.1, wrap64_id (x := c / w) (by omega) (by omega)]
    generalize c % w = x at *
    generalize c / w = y at *
    have j2 : ∀ b : Bool, (d ≠ 0 ∨ ¬ 0 < y) → (d ≠ 1 ∨ ¬ x < w - 1) → (b = true ↔ d = 2 ∧ y < h - 1) → Ev (fun k => impl_Neighbor.j2 k c d x b w h) (if d = 2 ∧ y < h - 1 then c + w else if d = 3 ∧ 0 < x then c - 1 else -1) := by
      intro b _ _ hb
      refine Ev.step (fun _ => impl_Neighbor.j2.eq_2 ..) ?_
      refine Ev.ite (fun e => ?_) (fun e => ?_)
      · rw [if_pos (hb.1 e), wrap64_id (by omega) (by omega)]; exact Ev.ret rfl
      · rw [if_neg (fun h => e (hb.2 h))]
        refine Ev.ite (fun e3 => Ev.ite (fun e4 => ?_) (fun e4 => ?_)) (fun e3 => ?_)
        · rw [if_pos ⟨e3, e4⟩, wrap64_id (by omega) (by omega)]; exact Ev.ret rfl
        · rw [if_neg (fun h => e4 h.2)]; exact Ev.ret rfl
        · rw [if_neg (fun h => e3 h.1)]; exact Ev.ret rfl
    have j1 : ∀ b : Bool, (d ≠ 0 ∨ ¬ 0 < y) → (b = true ↔ d = 1 ∧ x < w - 1) → Ev (fun k => impl_Neighbor.j1 k c d x y b w h) (if d = 1 ∧ x < w - 1 then c + 1 else if d = 2 ∧ y < h - 1 then c + w else if d = 3 ∧ 0 < x then c - 1 else -1) := by
      intro b h0 hb
      refine Ev.step (fun _ => impl_Neighbor.j1.eq_2 ..) ?_
      refine Ev.ite (fun e => ?_) (fun e => ?_)
      · rw [if_pos (hb.1 e), wrap64_id (by omega) (by omega)]; exact Ev.ret rfl
      · have hn : ¬ (d = 1 ∧ x < w - 1) := fun h => e (hb.2 h)
        rw [if_neg hn]
        refine Ev.ite (fun e2 => ?_) (fun e2 => ?_)
        · refine j2 _ h0 (by omega) ?_
          rw [wrap64_id (by omega) (by omega)]
          simp [e2]
        · exact j2 _ h0 (by omega) (by simp [e2])
    have j0 : ∀ b : Bool, (b = true ↔ d = 0 ∧ 0 < y) → Ev (fun k => impl_Neighbor.j0 k c d x y b w h) (if d = 0 ∧ 0 < y then c - w else if d = 1 ∧ x < w - 1 then c + 1 else if d = 2 ∧ y < h - 1 then c + w else if d = 3 ∧ 0 < x then c - 1 else -1) := by
      intro b hb
      refine Ev.step (fun _ => impl_Neighbor.j0.eq_2 ..) ?_
      refine Ev.ite (fun e => ?_) (fun e => ?_)
      · rw [if_pos (hb.1 e), wrap64_id (by omega) (by omega)]; exact Ev.ret rfl
      · have hn : ¬ (d = 0 ∧ 0 < y) := fun h => e (hb.2 h)
        rw [if_neg hn]
        refine Ev.ite (fun e2 => ?_) (fun e2 => ?_)
        · refine j1 _ (by omega) ?_
          rw [wrap64_id (by omega) (by omega)]
          simp [e2]
        · exact j1 _ (by omega) (by simp [e2])
    refine Ev.ite (fun e => ?_) (fun e => ?_)
    · exact j0 _ (by simp [e])
    · exact j0 _ (by simp [e])
  · rw [if_neg hc]
    exact Ev.ff (by simpa using hc) (Ev.ret rfl)
theorem spec_Neighbor_ev (w h c d : Int) : Ev (fun k => spec_Neighbor.f k w h c d) (nbI w h c d) := by
  unfold spec_Neighbor.f nbI
  refine Ev.bnd0 (spec_CountCells_eq w h) ?_
  have hcr := cellsOf_range w h
  rw [wrap64_id (by omega) (by omega)]
  refine Ev.bnd0 (l01In_eq ..) ?_
  by_cases hc : 0 ≤ c ∧ c < cellsOf w h
  · rw [if_pos hc]
    obtain ⟨hg, hcw⟩ := cellsOf_valid hc.1 hc.2
    have hgr := gridOk_iff.1 hg
    refine Ev.tt (by simp; omega) (Ev.ff (by omega) ?_)
    have hx0 : 0 ≤ c % w := Int.emod_nonneg _ (by omega)
    have hx1 : c % w < w := Int.emod_lt_of_pos _ (by omega)
    have hy0 : 0 ≤ c / w := Int.ediv_nonneg hc.1 (by omega)
    have hy1 : c / w ≤ c := Int.ediv_le_self _ hc.1
    have hxy : c / w * w + c % w = c := by rw [Int.mul_comm]; exact Int.mul_ediv_add_emod c w
    have hy2 : c / w < h := by
      rw [hcw] at hc
      exact Int.ediv_lt_of_lt_mul (by omega) (by rw [Int.mul_comm]; exact hc.2)
    rw [Int.tmod_eq_emod_of_nonneg hc.1, Int.tdiv_eq_ediv_of_nonneg hc.1, wrap64_id (x := c / w) (by omega) (by omega)]
    generalize c % w = x at *
    generalize c / w = y at *
    have j0 : ∀ (a b r : Int), (r = if 0 ≤ a ∧ a ≤ w - 1 ∧ 0 ≤ b ∧ b ≤ h - 1 then b * w + a else -1) → Ev (fun k => spec_Neighbor.j0 k a b w h) r := by
      intro a b r hr
      subst hr
      refine Ev.step (fun _ => spec_Neighbor.j0.eq_2 ..) ?_
      refine Ev.bnd0 (l01In_eq ..) ?_
      rw [wrap64_id (x := w - 1) (by omega) (by omega), wrap64_id (x := h - 1) (by omega) (by omega)]
      by_cases h1 : 0 ≤ a ∧ a ≤ w - 1
      · refine Ev.tt (by simpa using h1) (Ev.bnd0 (l01In_eq ..) ?_)
        by_cases h2 : 0 ≤ b ∧ b ≤ h - 1
        · refine Ev.tt (by simpa using h2) (Ev.ret ?_)
          rw [if_pos (by omega)]
          have hb4 : b * w ≤ 3 * 4 := Int.mul_le_mul (by omega) (by omega) (by omega) (by omega)
          have hb0 : 0 ≤ b * w := Int.mul_nonneg (by omega) (by omega)
          rw [wrap64_id (x := b * w) (by omega) (by omega), wrap64_id (by omega) (by omega)]
        · refine Ev.ff (by simpa using h2) (Ev.ret ?_)
          rw [if_neg (by omega)]
      · refine Ev.ff (by simpa using h1) (Ev.ret ?_)
        rw [if_neg (by omega)]
    have hm1 : (y - 1) * w + x = c - w := by rw [Int.sub_mul]; omega
    have hp1 : (y + 1) * w + x = c + w := by rw [Int.add_mul]; omega
    refine Ev.ite (fun e => ?_) (fun e => Ev.ite (fun e => ?_) (fun e => Ev.ite (fun e => ?_) (fun e => Ev.ite (fun e => ?_) (fun e => Ev.ret ?_))))
    · rw [wrap64_id (by omega) (by omega)]
      refine j0 _ _ _ ?_
      subst e
      by_cases h0 : 0 < y
      · rw [if_pos ⟨rfl, h0⟩, if_pos (by omega), hm1]
      · rw [if_neg (by omega), if_neg (by omega), if_neg (by omega), if_neg (by omega), if_neg (by omega)]
    · rw [wrap64_id (by omega) (by omega)]
      refine j0 _ _ _ ?_
      subst e
      rw [if_neg (by omega)]
      by_cases h0 : x < w - 1
      · rw [if_pos ⟨rfl, h0⟩, if_pos (by omega)]; omega
      · rw [if_neg (by omega), if_neg (by omega), if_neg (by omega), if_neg (by omega)]
    · rw [wrap64_id (by omega) (by omega)]
      refine j0 _ _ _ ?_
      subst e
      rw [if_neg (by omega), if_neg (by omega)]
      by_cases h0 : y < h - 1
      · rw [if_pos ⟨rfl, h0⟩, if_pos (by omega), hp1]
      · rw [if_neg (by omega), if_neg (by omega), if_neg (by omega)]
    · rw [wrap64_id (by omega) (by omega)]
      refine j0 _ _ _ ?_
      subst e
      rw [if_neg (by omega), if_neg (by omega), if_neg (by omega)]
      by_cases h0 : 0 < x
      · rw [if_pos ⟨rfl, h0⟩, if_pos (by omega)]; omega
      · rw [if_neg (by omega), if_neg (by omega)]
    · rw [if_neg (by omega), if_neg (by omega), if_neg (by omega), if_neg (by omega)]
  · rw [if_neg hc]
    exact Ev.ff (by simp; omega) (Ev.ret rfl)
end Go.Proofs.Ytcajhmldbkfhiaa.P
namespace Go.Proofs.Ytcajhmldbkfhiaa.P
open Go.RowKit Go.Proofs.YtcajhmldbkfhiaaW.PrintWords Go.Proofs.YtcajhmldbkfhiaaW.PrintLast Go.Proofs.YtcajhmldbkfhiaaW.PrintMore
attribute [local go_sem] max2_int min2_int max_two min_two max_three min_three max_four min_four   -- for this text's walks alone
set_option linter.unusedVariables false
set_option linter.unusedSimpArgs false

/-! ### impl_isGap: function 100 -/
end Go.Proofs.Ytcajhmldbkfhiaa.P
namespace Go.Proofs.Ytcajhmldbkfhiaa.P
open Go.RowKit Go.Proofs.YtcajhmldbkfhiaaW.PrintWords
set_option linter.unusedVariables false
set_option linter.unusedSimpArgs false

theorem spec_MazeOk_eq (w h o : Int) : spec_MazeOk.f w h o = some (mazeOk w h o) := by
  have hc := gapsOf_range w h
  have hp := pow_le hc.1 hc.2
  unfold spec_MazeOk.f mazeOk gapsN
  rw [spec_GridOk_eq, Option.bind_some]
  cases hg : gridOk w h
  · simp
  · rw [if_pos rfl, spec_CountGaps_eq, Option.bind_some, if_pos hc.1, shl_one hc.1 hc.2, l01In_eq, Option.bind_some, wrap64_id (by omega) (by omega)]
    simp only [Bool.true_and]
    congr 1
    rw [decide_eq_decide]
    omega
theorem impl_MazeOk_eq (w h o : Int) : impl_MazeOk.f w h o = some (mazeOk w h o) := by
  have hc := gapsOf_range w h
  unfold impl_MazeOk.f mazeOk gapsN
  rw [impl_GridOk_eq, Option.bind_some]
  cases hg : gridOk w h
  · simp
  · rw [if_pos rfl, impl_CountGaps_eq, Option.bind_some, if_pos hc.1, shl_one hc.1 hc.2]
    simp only [Bool.true_and]
    split
    · congr 1; rw [decide_eq_decide]; omega
    · congr 1; symm; rw [decide_eq_false_iff_not]; omega
theorem impl_isOpen_eq (w h : Int) {n : Nat} (hn : n < 16777216) (g : Int) : impl_isOpen.f w h n g = some (openI n g) := by
  unfold impl_isOpen.f openI
  by_cases hg : g ≥ 0
  · rw [if_pos hg, if_pos hg]
    obtain ⟨m, rfl⟩ := Int.eq_ofNat_of_zero_le hg
    rw [bit_one (by omega)]
    simp
  · rw [if_neg hg]
    simp; omega
theorem spec_l03Bit_eq {n : Nat} (hn : n < 16777216) {g : Int} (hg : 0 ≤ g) : spec_l03Bit.f n g = some (openI n g) := by
  unfold spec_l03Bit.f openI
  rw [if_pos hg]
  obtain ⟨m, rfl⟩ := Int.eq_ofNat_of_zero_le hg
  rw [bit_one (by omega)]
  simp
/-! Sixteen small graphs: facts that are looked through -/
theorem impl_GapAt_ev (w h c d : Int) : Ev (fun k => impl_GapAt.f k w h c d) (gapI w h c d) := by
  unfold impl_GapAt.f gapI
  refine Ev.bind (impl_Neighbor_ev w h c d) ?_
  by_cases hn : nbI w h c d < 0
  · rw [if_pos hn, if_pos hn]
    exact Ev.ret rfl
  · rw [if_neg hn, if_neg hn]
    obtain ⟨hd, h0, h1⟩ := nb_dir (by omega : 0 ≤ nbI w h c d)
    obtain ⟨hg, hcw⟩ := cellsOf_valid h0 h1
    have hcr := cellsOf_range w h
    have hgr := gridOk_iff.1 hg
    have hlt := nb_lt (w := w) (h := h) (c := c) (d := d)
    have hmn : mn c (nbI w h c d) = min c (nbI w h c d) := by unfold mn; omega
    rw [hmn]
    have hm0 : 0 ≤ min c (nbI w h c d) := by omega
    have hm1 : min c (nbI w h c d) ≤ 15 := by omega
    generalize min c (nbI w h c d) = m at *
    have ha0 : 0 ≤ m / w := Int.ediv_nonneg hm0 (by omega)
    have ha1 : m / w ≤ m := Int.ediv_le_self _ hm0
    have hb0 : 0 ≤ m % w := Int.emod_nonneg _ (by omega)
    have hb1 : m % w < w := Int.emod_lt_of_pos _ (by omega)
    have hp0 : 0 ≤ m / w * (w - 1) := Int.mul_nonneg ha0 (by omega)
    have hp1 : m / w * (w - 1) ≤ 15 * 3 := Int.mul_le_mul (by omega) (by omega) (by omega) (by omega)
    have hq0 : 0 ≤ (w - 1) * h := Int.mul_nonneg (by omega) (by omega)
    have hq1 : (w - 1) * h ≤ 3 * 4 := Int.mul_le_mul (by omega) (by omega) (by omega) (by omega)
    rw [Int.tmod_eq_emod_of_nonneg hm0, Int.tdiv_eq_ediv_of_nonneg hm0, wrap64_id (x := m / w) (by omega) (by omega), wrap64_id (x := w - 1) (by omega) (by omega), wrap64_id (x := m / w * (w - 1)) (by omega) (by omega), wrap64_id (x := m / w * (w - 1) + m % w) (by omega) (by omega)]
    refine Ev.ite (fun e => Ev.ff (by omega) ?_) (fun e => Ev.ite (fun e3 => Ev.ff (by omega) ?_) (fun e3 => ?_))
    · rw [if_pos (.inl e)]; exact Ev.ret rfl
    · rw [if_pos (.inr e3)]; exact Ev.ret rfl
    · rw [if_neg (by omega)]
      rw [wrap64_id (x := (w - 1) * h) (by omega) (by omega), wrap64_id (by omega) (by omega)]
      exact Ev.ret rfl
end Go.Proofs.Ytcajhmldbkfhiaa.P
namespace Go.Proofs.Ytcajhmldbkfhiaa.P
open Go.RowKit Go.Proofs.YtcajhmldbkfhiaaW.PrintWords Go.Proofs.YtcajhmldbkfhiaaW.PrintLast Go.Proofs.YtcajhmldbkfhiaaW.PrintMore
attribute [local go_sem] max2_int min2_int max_two min_two max_three min_three max_four min_four   -- for this text's walks alone
set_option linter.unusedVariables false
set_option linter.unusedSimpArgs false

/-! ### impl_WaysFrom: function 146 -/
end Go.Proofs.Ytcajhmldbkfhiaa.P
namespace Go.Proofs.Ytcajhmldbkfhiaa.P
open Go.RowKit Go.Proofs.YtcajhmldbkfhiaaW.PrintWords
set_option linter.unusedVariables false
set_option linter.unusedSimpArgs false

/-- The directions from d on in which s leads somewhere. -/
def waysFrom (s : Int → Int) (d : Nat) : List Int := ([0, 1, 2, 3].drop d).filter fun x => decide (0 ≤ s x)
theorem waysFrom_succ (s : Int → Int) {d : Nat} (hd : d < 4) : waysFrom s d = if 0 ≤ s d then (d : Int) :: waysFrom s (d + 1) else waysFrom s (d + 1) := by
  have : d = 0 ∨ d = 1 ∨ d = 2 ∨ d = 3 := by omega
  rcases this with rfl | rfl | rfl | rfl <;> simp [waysFrom, List.filter_cons]
def waysI (w h : Int) (n : Nat) (c : Int) : List Int := waysFrom (stepI w h n c) 0
theorem impl_Step_ev {w h : Int} {n : Nat} (hg : gridOk w h = true) (hn : n < 2 ^ gapsN w h) (c d : Int) : Ev (fun k => impl_Step.f k w h n c d) (stepI w h n c d) := by
  unfold impl_Step.f stepI
  refine Ev.bnd0 (impl_MazeOk_eq w h n) (Ev.tt (mazeOk_iff.2 ⟨hg, n, rfl, hn⟩) ?_)
  refine Ev.bind (impl_GapAt_ev w h c d) (Ev.bnd0 (impl_isOpen_eq w h (open_small hn) _) ?_)
  by_cases ho : openI n (gapI w h c d) = true
  · rw [if_pos ho]
    exact Ev.tt ho (Ev.bind (impl_Neighbor_ev w h c d) (Ev.ret rfl))
  · rw [if_neg ho]
    exact Ev.ff ho (Ev.ret rfl)
theorem spec_GapAt_ev (w h c d : Int) : Ev (fun k => spec_GapAt.f k w h c d) (gapI w h c d) := by
  unfold spec_GapAt.f gapI
  refine Ev.bind (spec_Neighbor_ev w h c d) ?_
  by_cases hn : nbI w h c d < 0
  · rw [if_pos hn, if_pos hn]
    exact Ev.ret rfl
  · rw [if_neg hn, if_neg hn]
    obtain ⟨hd, h0, h1⟩ := nb_dir (by omega : 0 ≤ nbI w h c d)
    obtain ⟨hg, hcw⟩ := cellsOf_valid h0 h1
    have hcr := cellsOf_range w h
    have hgr := gridOk_iff.1 hg
    have hlt := nb_lt (w := w) (h := h) (c := c) (d := d)
    have hmn : mn c (nbI w h c d) = min c (nbI w h c d) := by unfold mn; omega
    rw [hmn]
    have hm0 : 0 ≤ min c (nbI w h c d) := by omega
    have hm1 : min c (nbI w h c d) ≤ 15 := by omega
    generalize min c (nbI w h c d) = m at *
    have ha0 : 0 ≤ m / w := Int.ediv_nonneg hm0 (by omega)
    have ha1 : m / w ≤ m := Int.ediv_le_self _ hm0
    have hb0 : 0 ≤ m % w := Int.emod_nonneg _ (by omega)
    have hb1 : m % w < w := Int.emod_lt_of_pos _ (by omega)
    have hp0 : 0 ≤ m / w * (w - 1) := Int.mul_nonneg ha0 (by omega)
    have hp1 : m / w * (w - 1) ≤ 15 * 3 := Int.mul_le_mul (by omega) (by omega) (by omega) (by omega)
    have hq0 : 0 ≤ (w - 1) * h := Int.mul_nonneg (by omega) (by omega)
    have hq1 : (w - 1) * h ≤ 3 * 4 := Int.mul_le_mul (by omega) (by omega) (by omega) (by omega)
    rw [Int.tmod_eq_emod_of_nonneg hm0, Int.tdiv_eq_ediv_of_nonneg hm0, wrap64_id (x := m / w) (by omega) (by omega), wrap64_id (x := w - 1) (by omega) (by omega), wrap64_id (x := m / w * (w - 1)) (by omega) (by omega), wrap64_id (x := m / w * (w - 1) + m % w) (by omega) (by omega)]
    refine Ev.ite (fun e => Ev.ff (by omega) ?_) (fun e => Ev.ite (fun e3 => Ev.ff (by omega) ?_) (fun e3 => ?_))
    · rw [if_pos (.inl e)]; exact Ev.ret rfl
    · rw [if_pos (.inr e3)]; exact Ev.ret rfl
    · rw [if_neg (by omega)]
      refine Ev.bnd0 (spec_l02East_eq hg) (Ev.ret ?_)
      unfold eastOf
      rw [wrap64_id (by omega) (by omega)]
theorem spec_IsPassage_eq {w h : Int} {n : Nat} (hg : gridOk w h = true) (hn : n < 2 ^ gapsN w h) (g : Int) : spec_IsPassage.f w h n g = some (openI n g) := by
  have hr := gapsOf_range w h
  unfold spec_IsPassage.f
  rw [spec_MazeOk_eq, Option.bind_some, if_pos (mazeOk_iff.2 ⟨hg, n, rfl, hn⟩), spec_CountGaps_eq, Option.bind_some, wrap64_id (by omega) (by omega), l01In_eq, Option.bind_some]
  by_cases hc : 0 ≤ g ∧ g < gapsOf w h
  · rw [if_pos (by simp; omega), spec_l03Bit_eq (open_small hn) hc.1]
    rfl
  · rw [if_neg (by simp; omega)]
    congr 1
    symm
    rw [Bool.eq_false_iff]
    intro ho
    have := open_isGap hn ho
    unfold isGapI at this
    simp at this
    omega
theorem spec_Step_ev {w h : Int} {n : Nat} (hg : gridOk w h = true) (hn : n < 2 ^ gapsN w h) (c d : Int) : Ev (fun k => spec_Step.f k w h n c d) (stepI w h n c d) := by
  unfold spec_Step.f stepI
  refine Ev.bnd0 (spec_MazeOk_eq w h n) (Ev.tt (mazeOk_iff.2 ⟨hg, n, rfl, hn⟩) ?_)
  refine Ev.bind (spec_GapAt_ev w h c d) (Ev.bnd0 (spec_IsPassage_eq hg hn _) ?_)
  by_cases ho : openI n (gapI w h c d) = true
  · rw [if_pos ho]
    exact Ev.tt ho (Ev.bind (spec_Neighbor_ev w h c d) (Ev.ret rfl))
  · rw [if_neg ho]
    exact Ev.ff ho (Ev.ret rfl)
theorem spec_Ways_l0 (w h : Int) (o c : Int) (s : Int → Int) (hs : ∀ d, Ev (fun k => spec_Step.f k w h o c d) (s d)) : ∀ (e d : Nat) (out : List Int), 4 - d = e → d ≤ 4 → out.length ≤ d →
    Ev (fun k => spec_WaysFrom.l0 k c out d w h o) (out ++ waysFrom s d)
  | 0, d, out, he, hd, hl => by
    refine Ev.step (fun _ => spec_WaysFrom.l0.eq_2 ..) ?_
    refine Ev.ff (by omega) (Ev.ret ?_)
    obtain rfl : d = 4 := by omega
    simp [waysFrom]
  | e + 1, d, out, he, hd, hl => by
    refine Ev.step (fun _ => spec_WaysFrom.l0.eq_2 ..) ?_
    refine Ev.tt (by omega) (Ev.bind (hs d) ?_)
    rw [wsucc (by omega), waysFrom_succ s (show d < 4 by omega)]
    refine Ev.ite (fun h1 => Ev.tt (by omega) ?_) (fun h1 => ?_)
    · rw [if_pos (by omega)]
      have := spec_Ways_l0 w h o c s hs e (d + 1) (out ++ [(d : Int)]) (by omega) (by omega) (by simp; omega)
      simpa using this
    · rw [if_neg (by omega)]
      exact spec_Ways_l0 w h o c s hs e (d + 1) out (by omega) (by omega) (by omega)
theorem spec_Ways_ev {w h : Int} {n : Nat} (hg : gridOk w h = true) (hn : n < 2 ^ gapsN w h) (c : Int) : Ev (fun k => spec_WaysFrom.f k w h n c) (waysI w h n c) := by
  unfold spec_WaysFrom.f waysI
  have := spec_Ways_l0 w h n c _ (fun d => spec_Step_ev hg hn c d) 4 0 [] (by omega) (by omega) (by simp)
  simpa using this
end Go.Proofs.Ytcajhmldbkfhiaa.P
namespace Go.Proofs.Ytcajhmldbkfhiaa.P
open Go.RowKit Go.Proofs.YtcajhmldbkfhiaaW.PrintWords Go.Proofs.YtcajhmldbkfhiaaW.PrintLast Go.Proofs.YtcajhmldbkfhiaaW.PrintMore
attribute [local go_sem] max2_int min2_int max_two min_two max_three min_three max_four min_four   -- for this text's walks alone
set_option linter.unusedVariables false
set_option linter.unusedSimpArgs false

/-! ### impl_distances: function 145 -/
end Go.Proofs.Ytcajhmldbkfhiaa.P
namespace Go.Proofs.Ytcajhmldbkfhiaa.P
open Go.RowKit Go.Proofs.YtcajhmldbkfhiaaW.PrintWords
set_option linter.unusedVariables false
set_option linter.unusedSimpArgs false

def ints (q : List Nat) : List Int := q.map fun (x : Nat) => (x : Int)
theorem ints_length (q : List Nat) : (ints q).length = q.length := by simp [ints]
theorem ints_app (q : List Nat) (y : Nat) : ints (q ++ [y]) = ints q ++ [(y : Int)] := by simp [ints]
theorem rd_ints {q : List Nat} {i x : Nat} (h : q[i]? = some x) : rd (ints q) (i : Int) = x := by
  rw [rd_nat, List.getD_eq_getElem?_getD]
  simp [ints, h]
/-- A function on the numbers under v as a list. -/
def dlist (v : Nat) (D : Nat → Int) : List Int := (List.range v).map D
theorem dlist_length (v : Nat) (D : Nat → Int) : (dlist v D).length = v := by simp [dlist]
theorem rd_dlist {v : Nat} {D : Nat → Int} {c : Nat} (h : c < v) : rd (dlist v D) (c : Int) = D c := by
  rw [rd_get (by rw [dlist_length]; exact h)]
  simp [dlist]
theorem dlist_set {v : Nat} {D : Nat → Int} {y : Nat} {a : Int} (h : y < v) : (dlist v D).set y a = dlist v (upd D y a) := by
  refine List.ext_getElem (by simp [dlist]) fun i h1 h2 => ?_
  rw [List.getElem_set]
  simp only [dlist, upd, List.getElem_map, List.getElem_range]
  by_cases e : y = i
  · rw [if_pos e, if_pos e.symm]
  · rw [if_neg e, if_neg (fun e' => e e'.symm)]
/-- What is kept while the search goes on. -/
structure SI (v : Nat) (S : (Nat → Int) × List Nat) : Prop where
  le : ∀ c, S.1 c ≤ S.2.length
  low : ∀ c, -1 ≤ S.1 c
  lt : ∀ c ∈ S.2, c < v
theorem SI.relax {v : Nat} {s : Nat → Nat → Int} (hs : Rng s v) {S : (Nat → Int) × List Nat} (I : SI v S) {x d : Nat} (hx : x < v) (hd : d < 4) : SI v (relax s x d S) ∧ (relax s x d S).2.length ≤ S.2.length + 1 ∧ ∀ (i z : Nat), S.2[i]? = some z → (relax s x d S).2[i]? = some z := by
  unfold Go.Proofs.Ytcajhmldbkfhiaa.P.relax
  split
  · rename_i hc
    refine ⟨⟨fun c => ?_, fun c => ?_, fun c hcq => ?_⟩, by simp, fun i z hz => ?_⟩
    · have := I.le c
      have := I.le x
      show upd _ _ _ c ≤ _
      unfold upd
      simp only [List.length_append, List.length_singleton]
      split <;> omega
    · have := I.low c
      have := I.low x
      show _ ≤ upd _ _ _ c
      unfold upd
      split <;> omega
    · rcases List.mem_append.1 hcq with h | h
      · exact I.lt c h
      · simp at h
        have := hs x d hx hd
        omega
    · have hi := (List.getElem?_eq_some_iff.1 hz).1
      rw [List.getElem?_append_left hi]; exact hz
  · exact ⟨I, by omega, fun i z hz => hz⟩
def relaxL (s : Nat → Nat → Int) (x : Nat) : List Nat → (Nat → Int) × List Nat → (Nat → Int) × List Nat
  | [], S => S
  | d :: ds, S => relaxL s x ds (relax s x d S)
theorem bround_eq (s : Nat → Nat → Int) (x : Nat) (S : (Nat → Int) × List Nat) : bround s x S = relaxL s x [0, 1, 2, 3] S := rfl
section
variable {w h : Int} {n : Nat} (hg : gridOk w h = true) (hn : n < 2 ^ gapsN w h)
include hg hn
omit hg hn in
theorem SI.start {v src : Nat} (h : src < v) : SI v (upd (fun _ => -1) src 0, [src]) where
  le := fun c => by simp only [upd]; split <;> simp
  low := fun c => by simp only [upd]; split <;> omega
  lt := fun c hc => by simp at hc; omega
theorem spec_dist_l2 {x i : Nat} (res : List Int) :
    ∀ (e j : Nat) (S : (Nat → Int) × List Nat), j + e = 4 → SI (cellsN w h) S → S.2[i]? = some x → S.2.length ≤ 100 + j →
      (∀ S', S' = relaxL (st w h n) x ([0, 1, 2, 3].drop j) S → SI (cellsN w h) S' → Ev (fun k => spec_l04Distances.l1 k (dlist (cellsN w h) S'.1) (ints S'.2) ((i + 1 : Nat) : Int) w h n) res) →
      Ev (fun k => spec_l04Distances.l2 k (dlist (cellsN w h) S.1) (ints S.2) i j w h n) res
  | 0, j, S, hj, I, hx, hl, next => by
    have hi := (List.getElem?_eq_some_iff.1 hx).1
    refine Ev.step (fun _ => spec_l04Distances.l2.eq_2 ..) (Ev.ff (by omega) ?_)
    rw [wsucc (by omega)]
    exact next S (by rw [show j = 4 by omega]; rfl) I
  | e + 1, j, S, hj, I, hx, hl, next => by
    have hcast := cellsN_cast w h
    have hi := (List.getElem?_eq_some_iff.1 hx).1
    have hxv := I.lt x (List.mem_of_getElem? hx)
    have hd4 : j < 4 := by omega
    have hdrop : [0, 1, 2, 3].drop j = j :: [0, 1, 2, 3].drop (j + 1) := by
      have : j = 0 ∨ j = 1 ∨ j = 2 ∨ j = 3 := by omega
      rcases this with rfl | rfl | rfl | rfl <;> rfl
    have hrng := (net_grid hn).rng x j hxv hd4
    obtain ⟨I', hl', hk'⟩ := I.relax (net_grid hn).rng hxv hd4
    have ih := spec_dist_l2 (i := i) res e (j + 1) (relax (st w h n) x j S) (by omega) I' (hk' i x hx) (by omega) (fun S' hS' I'' => next S' (by rw [hS', hdrop]; rfl) I'')
    refine Ev.step (fun _ => spec_l04Distances.l2.eq_2 ..) ?_
    refine Ev.tt (by omega) (Ev.tt (by omega) (Ev.tt (by rw [ints_length]; omega) ?_))
    rw [rd_ints hx]
    refine Ev.bind (spec_Step_ev hg hn x (j : Nat)) ?_
    rw [wsucc (by omega)]
    have hst : stepI w h n x (j : Nat) = st w h n x j := rfl
    rw [hst]
    refine Ev.ite (fun h0 => ?_) (fun h0 => ?_)
    · obtain ⟨y, hy⟩ : ∃ y : Nat, st w h n x j = y := ⟨(st w h n x j).toNat, by omega⟩
      have hyv : y < cellsN w h := by omega
      rw [hy]
      refine Ev.tt (by omega) (Ev.tt (by rw [dlist_length]; omega) ?_)
      rw [rd_dlist hyv, rd_dlist hxv]
      refine Ev.ite (fun h1 => ?_) (fun h1 => ?_)
      · refine Ev.tt (by omega) (Ev.tt (by rw [dlist_length]; omega) (Ev.tt (by rw [ints_length]; omega) ?_))
        have hb1 := I.le x
        have hrel : relax (st w h n) x j S = (upd S.1 y (S.1 x + 1), S.2 ++ [y]) := by
          unfold relax
          rw [hy, Int.toNat_natCast, if_pos ⟨by omega, h1⟩]
        rw [hrel] at ih
        rw [Int.toNat_natCast, dlist_set hyv, ← ints_app]
        have := I.low x
        rw [wrap64_id (by omega) (by omega)]
        exact ih
      · have hrel : relax (st w h n) x j S = S := by
          unfold relax
          rw [hy, Int.toNat_natCast, if_neg (fun hc => h1 hc.2)]
        rw [hrel] at ih
        exact ih
    · have hrel : relax (st w h n) x j S = S := by
        unfold relax
        rw [if_neg (fun hc => h0 hc.1)]
      rw [hrel] at ih
      exact ih
theorem spec_dist_l1 {src : Nat} (hs : src < cellsN w h) : ∀ (f i : Nat) (S : (Nat → Int) × List Nat), BInv (st w h n) (cellsN w h) src S i 0 → SI (cellsN w h) S → i ≤ S.2.length → cellsN w h + 1 - i ≤ f →
    Ev (fun k => spec_l04Distances.l1 k (dlist (cellsN w h) S.1) (ints S.2) i w h n) (dlist (cellsN w h) (bfsF (st w h n) f S i))
  | 0, i, S, B, I, hi, hf => by have := B.len; omega
  | f + 1, i, S, B, I, hi, hf => by
    have h16 := cellsN_le w h
    have hlen := B.len
    refine Ev.step (fun _ => spec_l04Distances.l1.eq_2 ..) ?_
    simp only [bfsF]
    cases hx : S.2[i]? with
    | none =>
      rw [List.getElem?_eq_none_iff] at hx
      exact Ev.ff (by rw [ints_length]; omega) (Ev.ret rfl)
    | some x =>
      have hil := (List.getElem?_eq_some_iff.1 hx).1
      refine Ev.tt (by rw [ints_length]; omega) ?_
      refine spec_dist_l2 hg hn (i := i) (x := x) _ 4 0 S rfl I hx (by omega) (fun S' hS' I' => ?_)
      rw [List.drop_zero, ← bround_eq] at hS'
      subst hS'
      have B' := B.round (net_grid hn).rng hx
      refine spec_dist_l1 hs f (i + 1) _ B' I' ?_ (by omega)
      have h1 : ∀ m T, T.2.length ≤ (relax (st w h n) x m T).2.length := by
        intro m T
        unfold relax
        split <;> simp
      have := Nat.le_trans (h1 0 S) (Nat.le_trans (h1 1 _) (Nat.le_trans (h1 2 _) (h1 3 _)))
      show i + 1 ≤ (bround (st w h n) x S).2.length
      unfold bround
      omega
omit hg hn in
theorem spec_dist_l0 {src : Nat} (hs : src < cellsN w h) (res : List Int) (next : Ev (fun k => spec_l04Distances.l1 k (dlist (cellsN w h) (upd (fun _ => -1) src 0)) (ints [src]) 0 w h n) res) :
    ∀ (d i : Nat) (X : List Int), i + d = cellsN w h → X = dlist (cellsN w h) (fun c => if c < i then -1 else 0) → Ev (fun k => spec_l04Distances.l0 k src X i w h n) res
  | 0, i, X, hd, hX => by
    subst hX
    refine Ev.step (fun _ => spec_l04Distances.l0.eq_2 ..) (Ev.ff (by rw [dlist_length]; omega) (Ev.tt (by omega) (Ev.tt (by rw [dlist_length]; omega) ?_)))
    rw [Int.toNat_natCast, dlist_set hs]
    have e : dlist (cellsN w h) (upd (fun c => if c < i then -1 else 0) src 0) = dlist (cellsN w h) (upd (fun _ => -1) src 0) := by
      unfold dlist
      refine List.map_congr_left fun c hc => ?_
      rw [List.mem_range] at hc
      simp only [upd]
      rw [if_pos (show c < i by omega)]
    rw [e]
    exact next
  | d + 1, i, X, hd, hX => by
    have h16 := cellsN_le w h
    subst hX
    refine Ev.step (fun _ => spec_l04Distances.l0.eq_2 ..) (Ev.tt (by rw [dlist_length]; omega) (Ev.tt (by omega) ?_))
    rw [Int.toNat_natCast, dlist_set (by omega), wsucc (by omega)]
    refine spec_dist_l0 hs res next d (i + 1) _ (by omega) ?_
    unfold dlist
    refine List.map_congr_left fun c hc => ?_
    simp only [upd]
    by_cases e : c = i
    · rw [if_pos e, if_pos (by omega)]
    · rw [if_neg e]
      by_cases e2 : c < i
      · rw [if_pos e2, if_pos (by omega)]
      · rw [if_neg e2, if_neg (by omega)]
theorem spec_distances_ev {src : Nat} (hs : src < cellsN w h) : Ev (fun k => spec_l04Distances.f k w h n src) (dlist (cellsN w h) (distN w h n src)) := by
  have h16 := cellsN_le w h
  have hcast := cellsN_cast w h
  unfold spec_l04Distances.f
  refine Ev.bnd0 (spec_CountCells_eq w h) (Ev.tt (by omega) (Ev.tt (by omega) ?_))
  refine spec_dist_l0 hs _ (spec_dist_l1 hg hn hs _ 0 _ (BInv.start hs) (SI.start hs) (by simp) (by omega)) (cellsN w h) 0 _ (by omega) ?_
  refine List.ext_getElem (by simp [dlist]; omega) fun i h1 h2 => ?_
  simp [dlist]
end
end Go.Proofs.Ytcajhmldbkfhiaa.P
namespace Go.Proofs.Ytcajhmldbkfhiaa.P
open Go.RowKit Go.Proofs.YtcajhmldbkfhiaaW.PrintWords Go.Proofs.Ytcajhmldbkfhiaa.Sup
set_option linter.unusedVariables false
set_option linter.unusedSimpArgs false

theorem impl_isIn_one (w h o c : Int) : impl_isIn.f w h o [c] = some (mazeOk w h o && isCellI w h c) := by
  unfold impl_isIn.f
  rw [impl_MazeOk_eq, Option.bind_some]
  cases hm : mazeOk w h o
  · simp
  · rw [if_pos rfl]
    simp [impl_isCell_eq]
theorem spec_l04Has_eq (w h o c : Int) : spec_l04Has.f w h o c = some (mazeOk w h o && isCellI w h c) := by
  have hr := cellsOf_range w h
  unfold spec_l04Has.f isCellI
  rw [spec_MazeOk_eq, Option.bind_some]
  cases hm : mazeOk w h o
  · simp
  · rw [if_pos rfl, spec_CountCells_eq, Option.bind_some, wrap64_id (by omega) (by omega), l01In_eq, Option.bind_some]
    simp only [Bool.true_and]
    congr 1
    rw [decide_eq_decide]
    omega
end Go.Proofs.Ytcajhmldbkfhiaa.P
namespace Go.Proofs.Ytcajhmldbkfhiaa.P
open Go.RowKit Go.Proofs.YtcajhmldbkfhiaaW.PrintWords Go.Proofs.YtcajhmldbkfhiaaW.PrintLast Go.Proofs.YtcajhmldbkfhiaaW.PrintMore
attribute [local go_sem] max2_int min2_int max_two min_two max_three min_three max_four min_four   -- for this text's walks alone
set_option linter.unusedVariables false
set_option linter.unusedSimpArgs false

/-! ### impl_upTo: function 168 -/
end Go.Proofs.Ytcajhmldbkfhiaa.P
namespace Go.Proofs.Ytcajhmldbkfhiaa.P
open Go.RowKit Go.Proofs.YtcajhmldbkfhiaaW.PrintWords
set_option linter.unusedVariables false
set_option linter.unusedSimpArgs false

/-- i, i + 1, .. : d of them. -/
def run (i d : Nat) : List Int := (List.range d).map fun t => ((i + t : Nat) : Int)
end Go.Proofs.Ytcajhmldbkfhiaa.P
namespace Go.Proofs.Ytcajhmldbkfhiaa.P
open Go.RowKit Go.Proofs.YtcajhmldbkfhiaaW.PrintWords Go.Proofs.YtcajhmldbkfhiaaW.PrintLast Go.Proofs.YtcajhmldbkfhiaaW.PrintMore
attribute [local go_sem] max2_int min2_int max_two min_two max_three min_three max_four min_four   -- for this text's walks alone
set_option linter.unusedVariables false
set_option linter.unusedSimpArgs false

/-! ### bits_OnesCount64: function 117 -/
/-! ### bits_OnesCount: function 71 -/
end Go.Proofs.Ytcajhmldbkfhiaa.P
namespace Go.Proofs.Ytcajhmldbkfhiaa.P
open Go.RowKit Go.Proofs.YtcajhmldbkfhiaaW.PrintWords
set_option linter.unusedVariables false
set_option linter.unusedSimpArgs false

def p1 (x : Nat) : Nat := ((x / 2) &&& 6148914691236517205) + (x &&& 6148914691236517205)
def p2 (x : Nat) : Nat := ((x / 4) &&& 3689348814741910323) + (x &&& 3689348814741910323)
def s1 (a : Int) : Int := IntKind.u64.wrap ((Go.bits .and .u64 (a / 2) 6148914691236517205) + (Go.bits .and .u64 a 6148914691236517205))
def s2 (a : Int) : Int := IntKind.u64.wrap ((Go.bits .and .u64 (a / 4) 3689348814741910323) + (Go.bits .and .u64 a 3689348814741910323))
def s3 (a : Int) : Int := Go.bits .and .u64 (IntKind.u64.wrap (a / 16 + a)) 1085102592571150095
def s4 (a : Int) : Int := IntKind.u64.wrap (a + a / 256)
end Go.Proofs.Ytcajhmldbkfhiaa.P
namespace Go.Proofs.Ytcajhmldbkfhiaa.P
open Go.RowKit Go.Proofs.YtcajhmldbkfhiaaW.PrintWords Go.Proofs.YtcajhmldbkfhiaaW.PrintLast Go.Proofs.YtcajhmldbkfhiaaW.PrintMore
attribute [local go_sem] max2_int min2_int max_two min_two max_three min_three max_four min_four   -- for this text's walks alone
set_option linter.unusedVariables false
set_option linter.unusedSimpArgs false

/-! ### impl_Reached: function 158 -/
/-! ### impl_CountParts: function 138 -/
/-! ### impl_DistanceOf: function 144 -/
/-! ### spec_DistanceOf: function 99 -/
end Go.Proofs.Ytcajhmldbkfhiaa.P
namespace Go.Proofs.Ytcajhmldbkfhiaa.P
open Go.RowKit Go.Proofs.YtcajhmldbkfhiaaW.PrintWords
set_option linter.unusedVariables false
set_option linter.unusedSimpArgs false

theorem isCellI_nat {w h : Int} {c : Nat} (hc : c < cellsN w h) : isCellI w h c = true := by
  have := cellsN_cast w h
  unfold isCellI
  rw [decide_eq_true_eq]; omega
section
variable {w h : Int} {n : Nat} (hg : gridOk w h = true) (hn : n < 2 ^ gapsN w h)
include hg hn
theorem mazeOk_nat : mazeOk w h n = true := mazeOk_iff.2 ⟨hg, n, rfl, hn⟩
omit hg hn in
theorem spec_reach_l0 {s : Nat} : ∀ (d i : Nat) (out : List Nat), i + d = cellsN w h → out.length ≤ i →
    Ev (fun k => spec_Reached.l0 k (ints out) (dlist (cellsN w h) (distN w h n s)) i) (ints (out ++ ((List.range d).map (i + ·)).filter fun c => decide (0 ≤ distN w h n s c)))
  | 0, i, out, hd, ho => by
    refine Ev.step (fun _ => spec_Reached.l0.eq_2 ..) (Ev.ff (by rw [dlist_length]; omega) (Ev.ret ?_))
    simp
  | d + 1, i, out, hd, ho => by
    have h16 := cellsN_le w h
    refine Ev.step (fun _ => spec_Reached.l0.eq_2 ..) (Ev.tt (by rw [dlist_length]; omega) (Ev.tt (by omega) ?_))
    rw [rd_dlist (by omega), wsucc (by omega), List.range_succ_eq_map, List.map_cons, List.map_map, List.filter_cons, Nat.add_zero]
    have hmap : List.map ((fun x => i + x) ∘ Nat.succ) (List.range d) = List.map (fun x => i + 1 + x) (List.range d) := List.map_congr_left fun x _ => by simp only [Function.comp]; omega
    rw [hmap]
    refine Ev.ite (fun h1 => Ev.tt (by rw [ints_length]; omega) ?_) (fun h1 => ?_)
    · rw [if_pos (by simpa using h1), ← ints_app]
      have := spec_reach_l0 (s := s) d (i + 1) (out ++ [i]) (by omega) (by simp; omega)
      simpa using this
    · rw [if_neg (by simpa using h1)]
      exact spec_reach_l0 d (i + 1) out (by omega) (by omega)
theorem spec_Reached_ev {s : Nat} (hs : s < cellsN w h) : Ev (fun k => spec_Reached.f k w h n s) (ints (reachN w h n s)) := by
  unfold spec_Reached.f
  refine Ev.bnd0 rfl (Ev.bnd0 (spec_l04Has_eq w h n s) (Ev.tt (by rw [mazeOk_nat hg hn, isCellI_nat hs]; rfl) ?_))
  refine Ev.bind (spec_distances_ev hg hn hs) ?_
  have := spec_reach_l0 (w := w) (h := h) (n := n) (s := s) (cellsN w h) 0 [] (by omega) (by simp)
  have e : ([] ++ ((List.range (cellsN w h)).map (0 + ·)).filter fun c => decide (0 ≤ distN w h n s c)) = reachN w h n s := by
    unfold reachN
    rw [List.nil_append]
    congr 1
    have : ∀ l : List Nat, l.map (0 + ·) = l := fun l => by
      induction l with
      | nil => rfl
      | cons a t ih => simp
    exact this _
  rw [e] at this
  exact this
omit hg hn in
theorem head_is {s : Nat} (hn : n < 2 ^ gapsN w h) (hs : s < cellsN w h) : 0 < ((ints (reachN w h n s)).length : Int) ∧ rd (ints (reachN w h n s)) 0 = labN w h n s := by
  obtain ⟨t, ht⟩ := reachN_head hn hs
  rw [ht]
  exact ⟨by simp [ints], rfl⟩
theorem spec_parts_l0 : ∀ (d c m : Nat), c + d = cellsN w h → m ≤ c → Ev (fun k => spec_CountParts.l0 k m c w h n) (((m + (cnt (fun i => labN w h n i == i) (cellsN w h) - cnt (fun i => labN w h n i == i) c) : Nat)) : Int)
  | 0, c, m, hd, hm => by
    have hcast := cellsN_cast w h
    refine Ev.step (fun _ => spec_CountParts.l0.eq_2 ..) (Ev.bnd0 (spec_CountCells_eq w h) (Ev.ff (by omega) ?_))
    refine Ev.step (fun _ => spec_CountParts.j1.eq_2 ..) (Ev.ff (by decide) (Ev.ret ?_))
    rw [show c = cellsN w h by omega, Nat.sub_self, Nat.add_zero]
  | d + 1, c, m, hd, hm => by
    have h16 := cellsN_le w h
    have hcast := cellsN_cast w h
    have hcv : c < cellsN w h := by omega
    obtain ⟨e1, e2⟩ := head_is hn hcv
    refine Ev.step (fun _ => spec_CountParts.l0.eq_2 ..) (Ev.bnd0 (spec_CountCells_eq w h) (Ev.tt (by omega) (Ev.bnd0 (spec_MazeOk_eq w h n) ?_)))
    rw [mazeOk_nat hg hn]
    refine Ev.step (fun _ => spec_CountParts.j1.eq_2 ..) (Ev.tt rfl ?_)
    refine Ev.bind (spec_Reached_ev hg hn hcv) (Ev.tt e1 ?_)
    rw [e2, wsucc (by omega), wsucc (by omega)]
    have hle : cnt (fun i => labN w h n i == i) (c + 1) ≤ cnt (fun i => labN w h n i == i) (cellsN w h) := by
      obtain ⟨x, hx⟩ := Nat.exists_eq_add_of_le (show c + 1 ≤ cellsN w h by omega)
      rw [hx]
      have : ∀ x, cnt (fun i => labN w h n i == i) (c + 1) ≤ cnt (fun i => labN w h n i == i) (c + 1 + x) := by
        intro x
        induction x with
        | zero => exact Nat.le_refl _
        | succ x ih => rw [← Nat.add_assoc]; simp only [cnt]; simp only [cnt] at ih; omega
      exact this x
    simp only [cnt] at hle
    refine Ev.ite (fun h1 => ?_) (fun h1 => ?_)
    · refine Ev.eq (spec_parts_l0 d (c + 1) (m + 1) (by omega) (by omega)) ?_
      have : (labN w h n c == c) = true := by rw [beq_iff_eq]; omega
      simp only [cnt, this, Bool.toNat_true] at hle ⊢
      omega
    · refine Ev.eq (spec_parts_l0 d (c + 1) m (by omega) (by omega)) ?_
      have : (labN w h n c == c) = false := by rw [beq_eq_false_iff_ne]; omega
      simp only [cnt, this, Bool.toNat_false] at hle ⊢
      omega
theorem spec_CountParts_ev : Ev (fun k => spec_CountParts.f k w h n) (partsN w h n : Int) := by
  unfold spec_CountParts.f
  refine Ev.eq (spec_parts_l0 hg hn (cellsN w h) 0 0 (by omega) (by omega)) ?_
  simp only [cnt, Nat.zero_add, Nat.sub_zero]
  rfl
end
end Go.Proofs.Ytcajhmldbkfhiaa.P
namespace Go.Proofs.Ytcajhmldbkfhiaa.P
open Go.RowKit Go.Proofs.YtcajhmldbkfhiaaW.PrintWords Go.Proofs.YtcajhmldbkfhiaaW.PrintLast Go.Proofs.YtcajhmldbkfhiaaW.PrintMore
attribute [local go_sem] max2_int min2_int max_two min_two max_three min_three max_four min_four   -- for this text's walks alone
set_option linter.unusedVariables false
set_option linter.unusedSimpArgs false

/-! ### impl_CountPassages: function 70 -/
/-! ### impl_IsConnected: function 118 -/
/-! ### impl_IsPerfect: function 73 -/
end Go.Proofs.Ytcajhmldbkfhiaa.P
namespace Go.Proofs.Ytcajhmldbkfhiaa.P
open Go.RowKit Go.Proofs.YtcajhmldbkfhiaaW.PrintWords
set_option linter.unusedVariables false
set_option linter.unusedSimpArgs false

theorem cnt_len (p : Nat → Bool) {a b : Nat} (h : a ≤ b) : cnt p a ≤ cnt p b := by
  obtain ⟨x, rfl⟩ := Nat.exists_eq_add_of_le h
  induction x with
  | zero => exact Nat.le_refl _
  | succ x ih => rw [← Nat.add_assoc]; simp only [cnt]; have := ih (by omega); omega
theorem pop_cnt (n k : Nat) : pop k n = cnt n.testBit k := by
  induction k with
  | zero => rfl
  | succ k ih => simp only [pop, cnt]; rw [ih]
theorem shift_count {p : Nat → Bool} {c v m : Nat} (hc : c < v) : m + (p c).toNat + (cnt p v - cnt p (c + 1)) = m + (cnt p v - cnt p c) := by
  have := cnt_len p (show c + 1 ≤ v by omega)
  simp only [cnt] at this ⊢
  omega
section
variable {w h : Int} {n : Nat} (hg : gridOk w h = true) (hn : n < 2 ^ gapsN w h)
include hg hn
theorem spec_passages_l0 : ∀ (d c m : Nat), c + d = gapsN w h → m ≤ c → Ev (fun k => spec_CountPassages.l0 k m c w h n) (((m + (cnt n.testBit (gapsN w h) - cnt n.testBit c) : Nat)) : Int)
  | 0, c, m, hd, hm => by
    have hcast := gapsN_cast w h
    refine Ev.step (fun _ => spec_CountPassages.l0.eq_2 ..) (Ev.bnd0 (spec_CountGaps_eq w h) (Ev.ff (by omega) ?_))
    refine Ev.step (fun _ => spec_CountPassages.j1.eq_2 ..) (Ev.ff (by decide) (Ev.ret ?_))
    rw [show c = gapsN w h by omega, Nat.sub_self, Nat.add_zero]
  | d + 1, c, m, hd, hm => by
    have hcast := gapsN_cast w h
    have h24 := gapsN_le w h
    have hs := open_small hn
    refine Ev.step (fun _ => spec_CountPassages.l0.eq_2 ..) (Ev.bnd0 (spec_CountGaps_eq w h) (Ev.tt (by omega) (Ev.bnd0 (spec_MazeOk_eq w h n) ?_)))
    rw [mazeOk_nat hg hn]
    refine Ev.step (fun _ => spec_CountPassages.j1.eq_2 ..) (Ev.tt rfl (Ev.bnd0 (spec_l03Bit_eq hs (by omega)) ?_))
    rw [openI_nat', wsucc (by omega), wsucc (by omega)]
    refine Ev.ite (fun h1 => ?_) (fun h1 => ?_)
    · refine Ev.eq (spec_passages_l0 d (c + 1) (m + 1) (by omega) (by omega)) ?_
      rw [← shift_count (p := n.testBit) (c := c) (v := gapsN w h) (m := m) (by omega), h1]
      rfl
    · refine Ev.eq (spec_passages_l0 d (c + 1) m (by omega) (by omega)) ?_
      rw [← shift_count (p := n.testBit) (c := c) (v := gapsN w h) (m := m) (by omega), Bool.eq_false_iff.2 h1]
      rfl
theorem spec_CountPassages_ev : Ev (fun k => spec_CountPassages.f k w h n) (pop (gapsN w h) n : Int) := by
  unfold spec_CountPassages.f
  refine Ev.eq (spec_passages_l0 hg hn (gapsN w h) 0 0 (by omega) (by omega)) ?_
  rw [pop_cnt]
  simp [cnt]
omit hn in
theorem perf_value : (if (decide (((partsN w h n : Nat) : Int) = 1)) = true then decide (((pop (gapsN w h) n : Nat) : Int) = wrap64 (cellsOf w h - 1)) else false) = perfN w h n := by
  have h16 := cellsN_le w h
  have hpos := cells_pos hg
  have hcast := cellsN_cast w h
  have hpop := pop_le (gapsN w h) n
  rw [wrap64_id (by omega) (by omega)]
  unfold perfN perf
  by_cases h1 : partsN w h n = 1
  · have h1' := h1
    unfold partsN at h1'
    rw [h1, h1']
    simp only [Int.natCast_one, decide_true, if_true, true_and]
    rw [decide_eq_decide]
    omega
  · have h1' := h1
    unfold partsN at h1'
    rw [if_neg (by simp; omega)]
    symm
    rw [decide_eq_false_iff_not]
    exact fun h2 => h1' h2.1
theorem spec_IsPerfect_ev : Ev (fun k => spec_IsPerfect.f k w h n) (perfN w h n) := by
  unfold spec_IsPerfect.f spec_IsConnected.f
  rw [← perf_value hg]
  refine Ev.bind (Ev.bind (spec_CountParts_ev hg hn) (Ev.ret rfl)) ?_
  refine Ev.ite (fun h1 => Ev.bind (spec_CountPassages_ev hg hn) (Ev.bnd0 (spec_CountCells_eq w h) (Ev.ret ?_))) (fun h1 => Ev.ret ?_)
  · rw [if_pos (by simpa using h1)]
    rw [Bool.eq_iff_iff]
    simp
  · rw [if_neg (by simpa using h1)]
end
end Go.Proofs.Ytcajhmldbkfhiaa.P
namespace Go.Proofs.Ytcajhmldbkfhiaa.P
open Go.RowKit Go.Proofs.YtcajhmldbkfhiaaW.PrintWords
set_option linter.unusedVariables false
set_option linter.unusedSimpArgs false

section
variable {e : Nat → Nat × Nat} {V E : Nat}
/-- Labels P tell the parts of o; no loop; what was looked at is joined. -/
structure KInv (e : Nat → Nat × Nat) (V E : Nat) (done : Nat → Prop) (P : Nat → Int) (o : Nat) : Prop where
  lt : o < 2 ^ E
  lab : ∀ x y, x < V → y < V → (P x = P y ↔ Cn e o x y)
  fo : pop E o + parts e V E o = V
  dn : ∀ g, g < E → done g → Cn e o (e g).1 (e g).2
theorem pop_zero' (E : Nat) : pop E 0 = 0 := by
  induction E with
  | zero => rfl
  | succ m ih => simp only [pop, Nat.zero_testBit, ih]; rfl
theorem KInv.start {P : Nat → Int} (hP : ∀ x, P x = x) : KInv e V E (fun _ => False) P 0 := by
  refine ⟨Nat.two_pow_pos E, fun x y _ _ => ?_, ?_, fun _ _ h => h.elim⟩
  · rw [hP, hP, Cn_zero]
    omega
  · rw [parts_zero, pop_zero', Nat.zero_add]
theorem KInv.skip {done : Nat → Prop} {P : Nat → Int} {o g : Nat} (hG : Gr e V E) (K : KInv e V E done P o) (hg : g < E) (h : P (e g).1 = P (e g).2) : KInv e V E (fun j => done j ∨ j = g) P o :=
  ⟨K.lt, K.lab, K.fo, fun j hj hd => hd.elim (K.dn j hj) (fun h2 => by subst h2; exact (K.lab _ _ (hG j hg).1 (hG j hg).2).1 h)⟩
theorem KInv.join {done : Nat → Prop} {P : Nat → Int} {o g : Nat} (hG : Gr e V E) (K : KInv e V E done P o) (hg : g < E) (h : ¬ P (e g).1 = P (e g).2) :
    KInv e V E (fun j => done j ∨ j = g) (fun x => if P x = P (e g).2 then P (e g).1 else P x) (setB o g true) := by
  obtain ⟨g1, g2⟩ := hG g hg
  have hnc : ¬ Cn e o (e g).1 (e g).2 := fun hc => h ((K.lab _ _ g1 g2).2 hc)
  have hb : o.testBit g = false := by
    cases hb : o.testBit g
    · rfl
    · exact absurd (Cn.edge hb) hnc
  refine ⟨setB_lt true K.lt hg, fun x y hx hy => ?_, ?_, fun j hj hd => ?_⟩
  · rw [Cn_add, ← K.lab x y hx hy, ← K.lab x _ hx g1, ← K.lab _ y g2 hy, ← K.lab x _ hx g2, ← K.lab _ y g1 hy]
    show (if P x = P (e g).2 then P (e g).1 else P x) = (if P y = P (e g).2 then P (e g).1 else P y) ↔ _
    by_cases e1 : P x = P (e g).2 <;> by_cases e2 : P y = P (e g).2
    · rw [if_pos e1, if_pos e2, e1, e2]; simp
    · rw [if_pos e1, if_neg e2]
      constructor
      · intro e3; exact Or.inr (Or.inr ⟨e1, e3⟩)
      · rintro (e3 | ⟨e3, e4⟩ | ⟨_, e4⟩)
        · exact absurd (e3.symm.trans e1) e2
        · exact absurd e4.symm e2
        · exact e4
    · rw [if_neg e1, if_pos e2]
      constructor
      · intro e3; exact Or.inr (Or.inl ⟨e3, e2.symm⟩)
      · rintro (e3 | ⟨e3, _⟩ | ⟨e3, _⟩)
        · exact absurd (e3.trans e2) e1
        · exact e3
        · exact absurd e3 e1
    · rw [if_neg e1, if_neg e2]
      constructor
      · exact Or.inl
      · rintro (e3 | ⟨_, e4⟩ | ⟨e3, _⟩)
        · exact e3
        · exact absurd e4.symm e2
        · exact absurd e3 e1
  · have h1 := (parts_add (v := V) K.lt hg g1 g2).2 hnc
    have h2 := K.fo
    rw [pop_setB hg hb]
    omega
  · rcases hd with hd | rfl
    · exact Cn.mono (fun i hi => by rw [testBit_setB]; split <;> simp_all) (K.dn j hj hd)
    · have : (setB o j true).testBit j = true := setB_bit o j true
      exact Cn.edge this
/-- Where all gaps were looked at, and all gaps together join all cells: perfect. -/
theorem KInv.perfect {done : Nat → Prop} {P : Nat → Int} {o full : Nat} (K : KInv e V E done P o) (hV : 0 < V) (hd : ∀ g, g < E → done g) (hfl : full < 2 ^ E) (hfull : ∀ x, x < V → Cn e full 0 x) : perf e V E o = true := by
  have hmap : ∀ x y, Cn e full x y → Cn e o x y := by
    intro x y hc
    induction hc with
    | refl => exact .refl _
    | fwd k hk _ ih => exact ih.trans (K.dn k (lt_of_testBit hfl hk) (hd k (lt_of_testBit hfl hk)))
    | bwd k hk _ ih => exact ih.trans (K.dn k (lt_of_testBit hfl hk) (hd k (lt_of_testBit hfl hk))).symm
  have h1 : parts e V E o = 1 := (parts_one K.lt hV).2 fun x hx => hmap _ _ (hfull x hx)
  have h2 := K.fo
  rw [perf_iff]
  omega
end
/-- All gaps of a grid join all its cells. -/
theorem nb_down_all : (List.range 5).all (fun W => (List.range 5).all fun H => (List.range 16).all fun c => decide (c = 0) || decide (¬ (c : Int) < cellsOf W H) ||
    (decide (0 ≤ nbI W H c 3 ∧ nbI W H c 3 < c) || decide (0 ≤ nbI W H c 0 ∧ nbI W H c 0 < c))) = true := by decide +kernel
theorem full_conn {w h : Int} (hg : gridOk w h = true) {full : Nat} (hf : ∀ g, g < gapsN w h → full.testBit g = true) : ∀ x, x < cellsN w h → Cn (ends w h) full 0 x := by
  intro x
  induction x using Nat.strongRecOn with
  | _ x ih =>
    intro hx
    have hc := cellsN_cast w h
    have hl := cellsN_le w h
    by_cases h0 : x = 0
    · subst h0; exact .refl _
    obtain ⟨W, H, rfl, rfl, _, w5, _, h5⟩ := grid_nat hg
    have := List.all_eq_true.1 (List.all_eq_true.1 (List.all_eq_true.1 nb_down_all W (List.mem_range.2 w5)) H (List.mem_range.2 h5)) x (List.mem_range.2 (by omega))
    simp only [Bool.or_eq_true, decide_eq_true_eq] at this
    have hd : ∃ d : Int, 0 ≤ nbI W H x d ∧ nbI W H x d < x := by
      rcases this with (h | h) | (h | h)
      · exact absurd h h0
      · exact absurd (show (x : Int) < cellsOf W H by omega) h
      · exact ⟨3, h⟩
      · exact ⟨0, h⟩
    obtain ⟨d, d0, d1⟩ := hd
    rcases step_facts W H x d with ⟨f1, _⟩ | ⟨f1, f2, f3, f4, f5, f6, _⟩
    · omega
    have hgc := gapsN_cast W H
    obtain ⟨g, hgg⟩ : ∃ g : Nat, gapI W H x d = g := ⟨(gapI W H x d).toNat, by omega⟩
    have hgl : g < gapsN W H := by omega
    obtain ⟨y, hy⟩ : ∃ y : Nat, nbI W H x d = y := ⟨(nbI W H x d).toNat, by omega⟩
    have he : ends W H g = (y, x) := by
      rw [hgg, hy] at f6
      unfold ends
      rw [f6]
      rw [hy] at d1
      have m1 : min (x : Int) (y : Int) = y := by omega
      have m2 : max (x : Int) (y : Int) = x := by omega
      rw [m1, m2]
      simp
    have hyx : Cn (ends W H) full y x := by
      have := Cn.edge (e := ends W H) (hf g hgl)
      rwa [he] at this
    exact (ih y (by omega) (by omega)).trans hyx
end Go.Proofs.Ytcajhmldbkfhiaa.P
namespace Go.Proofs.Ytcajhmldbkfhiaa.P
open Go.RowKit Go.Proofs.YtcajhmldbkfhiaaW.PrintWords
set_option linter.unusedVariables false
set_option linter.unusedSimpArgs false

theorem spec_EndsOf_eq (w h g : Int) : spec_EndsOf.f w h g = some (endsI w h g) := by
  unfold spec_EndsOf.f endsI
  have hr0 := gapsOf_range w h
  rw [spec_CountGaps_eq, Option.bind_some, wrap64_id (x := gapsOf w h - 1) (by omega) (by omega), l01In_eq, Option.bind_some]
  by_cases hc : 0 ≤ g ∧ g < gapsOf w h
  · rw [if_pos hc, if_pos (by simp; omega)]
    obtain ⟨hg, hgw⟩ := gapsOf_valid hc.1 hc.2
    have hgr := gridOk_iff.1 hg
    have hrr := gapsOf_range w h
    have hq0 : 0 ≤ (w - 1) * h := Int.mul_nonneg (by omega) (by omega)
    have hq1 : (w - 1) * h ≤ 3 * 4 := Int.mul_le_mul (by omega) (by omega) (by omega) (by omega)
    have hw1 : w - 1 = 0 → (w - 1) * h = 0 := fun e => by rw [e, Int.zero_mul]
    rw [spec_l02East_eq hg]
    unfold eastOf
    simp only [Option.bind_some]
    rw [wrap64_id (x := w - 1) (by omega) (by omega)]
    by_cases hlt : g < (w - 1) * h
    · rw [if_pos hlt, if_pos hlt]
      have hne : w - 1 ≠ 0 := fun e => by have := hw1 e; omega
      have ha0 : 0 ≤ g / (w - 1) := Int.ediv_nonneg hc.1 (by omega)
      have ha1 : g / (w - 1) ≤ g := Int.ediv_le_self _ hc.1
      have hb0 : 0 ≤ g % (w - 1) := Int.emod_nonneg _ (by omega)
      have hb1 : g % (w - 1) < w - 1 := Int.emod_lt_of_pos _ (by omega)
      have hp0 : 0 ≤ g / (w - 1) * w := Int.mul_nonneg ha0 (by omega)
      have hp1 : g / (w - 1) * w ≤ 23 * 4 := Int.mul_le_mul (by omega) (by omega) (by omega) (by omega)
      rw [if_neg hne, Int.tmod_eq_emod_of_nonneg hc.1, Int.tdiv_eq_ediv_of_nonneg hc.1, wrap64_id (x := g / (w - 1)) (by omega) (by omega), wrap64_id (x := g / (w - 1) * w) (by omega) (by omega), wrap64_id (x := g / (w - 1) * w + g % (w - 1)) (by omega) (by omega), wrap64_id (by omega) (by omega)]
    · rw [if_neg hlt, if_neg hlt]
      rw [wrap64_id (x := g - (w - 1) * h) (by omega) (by omega), wrap64_id (by omega) (by omega)]
  · rw [if_neg hc, if_neg (by simp; omega)]
end Go.Proofs.Ytcajhmldbkfhiaa.P
namespace Go.Proofs.Ytcajhmldbkfhiaa.P
open Go.RowKit Go.Proofs.YtcajhmldbkfhiaaW.PrintWords Go.Proofs.YtcajhmldbkfhiaaW.PrintLast Go.Proofs.YtcajhmldbkfhiaaW.PrintMore
attribute [local go_sem] max2_int min2_int max_two min_two max_three min_three max_four min_four   -- for this text's walks alone
set_option linter.unusedVariables false
set_option linter.unusedSimpArgs false

/-! ### spec_l05Tree: function 75 -/
end Go.Proofs.Ytcajhmldbkfhiaa.P
namespace Go.Proofs.Ytcajhmldbkfhiaa.P
open Go Go.RowKit Go.Proofs.YtcajhmldbkfhiaaW.PrintWords
set_option linter.unusedVariables false
set_option linter.unusedSimpArgs false

theorem bits_255 (x : Int) : 0 ≤ Go.bits .and .i64 x 255 ∧ Go.bits .and .i64 x 255 ≤ 255 := by
  have h : (BitVec.ofInt 64 x &&& BitVec.ofInt 64 255).toNat ≤ 255 := by
    rw [BitVec.toNat_and]
    exact Nat.and_le_right
  show 0 ≤ IntKind.i64.wrap ((BitVec.ofInt 64 x &&& BitVec.ofInt 64 255).toNat : Int) ∧ IntKind.i64.wrap ((BitVec.ofInt 64 x &&& BitVec.ofInt 64 255).toNat : Int) ≤ 255
  rw [wrap_small (by omega)]
  omega
section
variable {l : List Int}
theorem spec_New_l0 (hl : l.length ≤ 1048576) : ∀ (e i : Nat) (h : Int), l.length - i = e → ∃ h', Ev (fun k => spec_l01New.l0 k l h i) (l, 0, h')
  | 0, i, h, he => ⟨h, Ev.step (fun _ => spec_l01New.l0.eq_2 ..) (Ev.ff (by omega) (Ev.ret rfl))⟩
  | e + 1, i, h, he => by
    by_cases h4 : (i : Int) < 4000
    · obtain ⟨h', ih⟩ := spec_New_l0 hl e (i + 1) (Go.bits .and .i64 (wrap64 ((wrap64 ((wrap64 (h * 131)) + (wrap64 (rd l i)))) + 7)) 1073741823) (by omega)
      refine ⟨h', Ev.step (fun _ => spec_l01New.l0.eq_2 ..) (Ev.tt (by omega) (Ev.tt h4 (Ev.tt (by omega) ?_)))⟩
      rw [wsucc (by omega)]
      exact ih
    · exact ⟨h, Ev.step (fun _ => spec_l01New.l0.eq_2 ..) (Ev.tt (by omega) (Ev.ff h4 (Ev.ret rfl)))⟩
theorem spec_New_ev (hl : l.length ≤ 1048576) : ∃ h', Ev (fun k => spec_l01New.f k l) (l, 0, h') := spec_New_l0 hl l.length 0 _ rfl
theorem spec_Byte_eq (hl : l.length ≤ 1048576) {i : Int} (hi : 0 ≤ i) (h : Int) : ∃ b i' h', spec_l01Byte.f l i h = some (b, i', h') ∧ 0 ≤ b ∧ b ≤ 255 ∧ 0 ≤ i' := by
  unfold spec_l01Byte.f
  by_cases e : i < (l.length : Int)
  · rw [if_pos e, if_pos hi]
    exact ⟨_, _, _, rfl, (bits_255 _).1, (bits_255 _).2, by rw [wrap64_id (by omega) (by omega)]; omega⟩
  · rw [if_neg e]
    exact ⟨_, _, _, rfl, (bits_255 _).1, (bits_255 _).2, hi⟩
theorem spec_Below_eq (hl : l.length ≤ 1048576) {i : Int} (hi : 0 ≤ i) (h : Int) {n : Int} (h1 : 1 ≤ n) (h2 : n ≤ 256) : ∃ b i' h', spec_l01Below.f l i h n = some (b, i', h') ∧ 0 ≤ b ∧ b < n ∧ 0 ≤ i' := by
  obtain ⟨b, i', h', e, b0, b1, hi'⟩ := spec_Byte_eq hl hi h
  unfold spec_l01Below.f
  rw [if_neg (by omega), if_pos h2, e, Option.bind_some, if_neg (by omega)]
  exact ⟨_, _, _, rfl, Int.tmod_nonneg _ b0, Int.tmod_lt_of_pos _ (by omega), hi'⟩
theorem spec_Pick_eq (hl : l.length ≤ 1048576) {i : Int} (hi : 0 ≤ i) (h : Int) : ∃ (j : Nat) (i' h' : Int), spec_l01PickInt.f l i h [1, 2, 3, 3, 4] = some (rd [1, 2, 3, 3, 4] (j : Int), i', h') ∧ j < 5 ∧ 0 ≤ i' := by
  obtain ⟨b, i', h', e, b0, b1, hi'⟩ := spec_Below_eq hl hi h (n := 5) (by omega) (by omega)
  unfold spec_l01PickInt.f
  show ∃ (j : Nat) (i'' h'' : Int), (spec_l01Below.f l i h 5).bind _ = _ ∧ _
  rw [e, Option.bind_some, if_pos b0]
  refine ⟨b.toNat, i', h', ?_, by omega, hi'⟩
  rw [if_pos (show b < (([1, 2, 3, 3, 4] : List Int).length : Int) from b1), Int.toNat_of_nonneg b0]
theorem pick_ok {j : Nat} (hj : j < 5) : 1 ≤ rd [1, 2, 3, 3, 4] (j : Int) ∧ rd [1, 2, 3, 3, 4] (j : Int) ≤ 4 := by
  have : j = 0 ∨ j = 1 ∨ j = 2 ∨ j = 3 ∨ j = 4 := by omega
  rcases this with rfl | rfl | rfl | rfl | rfl <;> decide
theorem spec_Grid_eq (hl : l.length ≤ 1048576) {i : Int} (hi : 0 ≤ i) (h : Int) : ∃ w hh i' h', spec_l02Grid.f l i h = some (w, hh, i', h') ∧ gridOk w hh = true ∧ 0 ≤ i' := by
  obtain ⟨j, i1, h1, e1, hj, hi1⟩ := spec_Pick_eq hl hi h
  obtain ⟨j2, i2, h2, e2, hj2, hi2⟩ := spec_Pick_eq hl hi1 h1
  unfold spec_l02Grid.f
  rw [e1, Option.bind_some, e2, Option.bind_some]
  refine ⟨_, _, _, _, rfl, gridOk_iff.2 ?_, hi2⟩
  have := pick_ok hj
  have := pick_ok hj2
  omega
end
/-! The step that the draw takes -/
theorem spec_Common_ev : ∀ (b a : Nat), Ev (fun k => spec_l03Common.f k a b) (decide (Nat.gcd a b > 1)) := by
  intro b
  induction b using Nat.strongRecOn with
  | _ b ih =>
    intro a
    by_cases h0 : b = 0
    · subst h0
      refine Ev.step (g := fun k => spec_l03Common.f k a (0 : Nat)) (fun _ => spec_l03Common.l0.eq_2 ..) (Ev.ff (by omega) (Ev.ret ?_))
      rw [Nat.gcd_zero_right, decide_eq_decide]
      omega
    · refine Ev.step (g := fun k => spec_l03Common.f k a b) (fun _ => spec_l03Common.l0.eq_2 ..) (Ev.tt (by omega) (Ev.ff (by omega) ?_))
      rw [Int.tmod_eq_emod_of_nonneg (by omega), ← Int.natCast_emod]
      refine Ev.eq (ih (a % b) (Nat.mod_lt _ (by omega)) b) ?_
      rw [decide_eq_decide, Nat.gcd_comm b (a % b), ← Nat.gcd_rec, Nat.gcd_comm b a]
def coverB (n s : Nat) : Bool := (List.range n).all fun g => (List.range n).any fun k => decide ((k * s) % n = g)
theorem cover_all : (List.range 25).all (fun n => (List.range n).all fun s => decide (¬ Nat.gcd s n = 1) || coverB n s) = true := by decide +kernel
theorem cover {n step first : Nat} (hn : n < 25) (h0 : 0 < n) (hg : Nat.gcd step n ≤ 1) {g : Nat} (hgn : g < n) : ∃ k, k < n ∧ (first + k * step) % n = g := by
  have hs : step % n < n := Nat.mod_lt _ h0
  have h1 : Nat.gcd (step % n) n = 1 := by
    have e : Nat.gcd (step % n) n = Nat.gcd step n := by rw [Nat.gcd_comm step n, ← Nat.gcd_rec]
    rw [e]
    have : 0 < Nat.gcd step n := Nat.gcd_pos_of_pos_right _ h0
    omega
  have := List.all_eq_true.1 (List.all_eq_true.1 cover_all n (List.mem_range.2 hn)) (step % n) (List.mem_range.2 hs)
  simp only [Bool.or_eq_true, decide_eq_true_eq] at this
  have hc : coverB n (step % n) = true := this.resolve_left (fun h => h h1)
  unfold coverB at hc
  have hx : (g + (n - first % n)) % n < n := Nat.mod_lt _ h0
  have := List.all_eq_true.1 hc ((g + (n - first % n)) % n) (List.mem_range.2 hx)
  obtain ⟨k, hk, hkk⟩ := List.any_eq_true.1 this
  refine ⟨k, List.mem_range.1 hk, ?_⟩
  have hk2 := of_decide_eq_true hkk
  rw [Nat.mul_mod_mod] at hk2
  have hf : first % n < n := Nat.mod_lt _ h0
  rw [Nat.add_mod, hk2, Nat.add_mod_mod, ← Nat.mod_add_mod (first % n), Nat.mod_mod]
  rw [show first % n + (g + (n - first % n)) = g + n by omega, Nat.add_mod_right, Nat.mod_eq_of_lt hgn]
/-! Labels as a table -/
def tabL (P : Nat → Int) (V : Nat) : List Int := (List.range V).map P
theorem tabL_length (P : Nat → Int) (V : Nat) : (tabL P V).length = V := by simp [tabL]
theorem tabL_rd {P : Nat → Int} {V c : Nat} (h : c < V) : rd (tabL P V) (c : Int) = P c := by
  rw [rd_get (by rw [tabL_length]; exact h)]
  simp [tabL]
theorem tabL_congr {P Q : Nat → Int} {V : Nat} (h : ∀ x, x < V → P x = Q x) : tabL P V = tabL Q V := List.map_congr_left fun x hx => h x (List.mem_range.1 hx)
theorem tabL_set (P : Nat → Int) (V i : Nat) (v : Int) : (tabL P V).set i v = tabL (fun x => if x = i then v else P x) V := by
  refine List.ext_getElem (by simp [tabL]) fun j h1 h2 => ?_
  rw [List.getElem_set]
  simp only [tabL, List.getElem_map, List.getElem_range]
  by_cases e : i = j
  · subst e; simp
  · rw [if_neg e, if_neg (fun h => e h.symm)]
theorem KInv.weak {e : Nat → Nat × Nat} {V E : Nat} {d d' : Nat → Prop} {P : Nat → Int} {o : Nat} (K : KInv e V E d P o) (h : ∀ g, d' g → d g) : KInv e V E d' P o := ⟨K.lt, K.lab, K.fo, fun g hg hd => K.dn g hg (h g hd)⟩
end Go.Proofs.Ytcajhmldbkfhiaa.P
namespace Go.Proofs.Ytcajhmldbkfhiaa.P
open Go Go.RowKit Go.Proofs.YtcajhmldbkfhiaaW.PrintWords
set_option linter.unusedVariables false
set_option linter.unusedSimpArgs false

section
variable {w h : Int} {xs : List Int} {i1 h1 : Int}
/-- The k-th gap that is looked at. -/
def gapN (n first step k : Nat) : Nat := (first + k * step) % n
theorem tree_l3 {n first step kk : Nat} {P : Nat → Int} {a : Nat} {old : Int} {o : Int} {r : Int × Int × Int × Int × Int} (ha : a < cellsN w h) (hne : ¬ P a = old)
    (hk : Ev (fun k => spec_l03Tree.l2 k n (tabL (fun x => if P x = old then P a else P x) (cellsN w h)) first step (wrap64 ((kk : Int) + 1)) xs i1 h1 w h w h o) r) : ∀ e i : Nat, i + e = cellsN w h →
    Ev (fun k => spec_l03Tree.l3 k n (tabL (fun x => if x < i ∧ P x = old then P a else P x) (cellsN w h)) first step kk a old i xs i1 h1 w h w h o) r
  | 0, i, he => by
    refine Ev.step (fun _ => spec_l03Tree.l3.eq_2 ..) (Ev.ff (by rw [tabL_length]; omega) ?_)
    rw [tabL_congr (Q := fun x => if P x = old then P a else P x) (fun x hx => by
      by_cases e : P x = old
      · rw [if_pos ⟨by omega, e⟩, if_pos e]
      · rw [if_neg (fun h => e h.2), if_neg e])]
    exact hk
  | e + 1, i, he => by
    have hl := cellsN_le w h
    have ih := tree_l3 (n := n) (first := first) (step := step) (kk := kk) (P := P) (old := old) (o := o) ha hne hk e (i + 1) (by omega)
    refine Ev.step (fun _ => spec_l03Tree.l3.eq_2 ..) (Ev.tt (by rw [tabL_length]; omega) (Ev.tt (by omega) ?_))
    rw [tabL_rd (show i < cellsN w h by omega), wsucc (show i < 4611686018427387904 by omega)]
    simp only [Nat.lt_irrefl, false_and, if_false]
    refine Ev.ite (fun e1 => ?_) (fun e1 => ?_)
    · refine Ev.tt (by omega) (Ev.tt (by rw [tabL_length]; omega) ?_)
      rw [tabL_rd ha, if_neg (fun h => hne h.2), Int.toNat_natCast, tabL_set]
      rw [tabL_congr (Q := fun x => if x < i + 1 ∧ P x = old then P a else P x) (fun x hx => by
        by_cases e2 : x = i
        · subst e2; rw [if_pos rfl, if_pos ⟨by omega, e1⟩]
        · rw [if_neg e2]
          by_cases e3 : x < i ∧ P x = old
          · rw [if_pos e3, if_pos ⟨by omega, e3.2⟩]
          · rw [if_neg e3, if_neg (fun h => e3 ⟨by omega, h.2⟩)])]
      exact ih
    · rw [tabL_congr (Q := fun x => if x < i + 1 ∧ P x = old then P a else P x) (fun x hx => by
        by_cases e3 : x < i ∧ P x = old
        · rw [if_pos e3, if_pos ⟨by omega, e3.2⟩]
        · rw [if_neg e3]
          by_cases e4 : x < i + 1 ∧ P x = old
          · have : x = i := by
              by_cases e5 : x < i
              · exact absurd ⟨e5, e4.2⟩ e3
              · omega
            subst this
            exact absurd e4.2 e1
          · rw [if_neg e4])]
      exact ih
theorem tree_l2 (hg : gridOk w h = true) {first step : Nat} (hf : first < 25) (hs : step < 100) : ∀ (e kk : Nat) (P : Nat → Int) (o : Nat), kk + e = gapsN w h →
    KInv (ends w h) (cellsN w h) (gapsN w h) (fun g => ∃ j, j < kk ∧ gapN (gapsN w h) first step j = g) P o →
    ∃ (P' : Nat → Int) (o' : Nat), KInv (ends w h) (cellsN w h) (gapsN w h) (fun g => ∃ j, j < gapsN w h ∧ gapN (gapsN w h) first step j = g) P' o' ∧
      Ev (fun k => spec_l03Tree.l2 k (gapsN w h : Nat) (tabL P (cellsN w h)) first step kk xs i1 h1 w h w h o) (w, h, (o' : Int), i1, h1)
  | 0, kk, P, o, he, K => by
    refine ⟨P, o, K.weak (fun g ⟨j, hj, e⟩ => ⟨j, by omega, e⟩), Ev.step (fun _ => spec_l03Tree.l2.eq_2 ..) (Ev.ff (by omega) (Ev.ret rfl))⟩
  | e + 1, kk, P, o, he, K => by
    have hgl := gapsN_le w h
    have hgc := gapsN_cast w h
    have hcl := cellsN_le w h
    have hgN : gapN (gapsN w h) first step kk < gapsN w h := Nat.mod_lt _ (by omega)
    have hkm : kk * step ≤ 24 * 100 := Nat.mul_le_mul (by omega) (by omega)
    have hgap : Int.tmod (wrap64 ((first : Int) + (wrap64 ((kk : Int) * (step : Int))))) (gapsN w h : Nat) = ((gapN (gapsN w h) first step kk : Nat) : Int) := by
      rw [show ((kk : Int) * (step : Int)) = ((kk * step : Nat) : Int) by rw [Int.natCast_mul], wrap64_id (x := ((kk * step : Nat) : Int)) (by omega) (by omega), wrap64_id (by omega) (by omega), Int.tmod_eq_emod_of_nonneg (by omega)]
      unfold gapN
      rw [Int.natCast_emod, Int.natCast_add]
    obtain ⟨f1, f2, f3⟩ := ends_facts hgN
    have hstep : ∀ {P' : Nat → Int} {o' : Nat}, KInv (ends w h) (cellsN w h) (gapsN w h) (fun j => (∃ j', j' < kk ∧ gapN (gapsN w h) first step j' = j) ∨ j = gapN (gapsN w h) first step kk) P' o' →
        KInv (ends w h) (cellsN w h) (gapsN w h) (fun g => ∃ j, j < kk + 1 ∧ gapN (gapsN w h) first step j = g) P' o' := fun K' => K'.weak (fun g ⟨j, hj, e2⟩ => by
          by_cases e3 : j < kk
          · exact Or.inl ⟨j, e3, e2⟩
          · have : j = kk := by omega
            subst this
            exact Or.inr e2.symm)
    by_cases he1 : P (ends w h (gapN (gapsN w h) first step kk)).1 = P (ends w h (gapN (gapsN w h) first step kk)).2
    · obtain ⟨P', o', K', ih⟩ := tree_l2 hg hf hs e (kk + 1) P o (by omega) (hstep (K.skip (gr_grid w h) hgN he1))
      refine ⟨P', o', K', Ev.step (fun _ => spec_l03Tree.l2.eq_2 ..) (Ev.tt (by omega) (Ev.ff (by omega) ?_))⟩
      rw [hgap, wsucc (show kk < 4611686018427387904 by omega)]
      refine Ev.bnd0 ((spec_EndsOf_eq w h _).trans (congrArg some f1)) ?_
      refine Ev.tt (by omega) (Ev.tt (by rw [tabL_length]; omega) (Ev.tt (by omega) (Ev.tt (by rw [tabL_length]; omega) ?_)))
      rw [tabL_rd (by omega), tabL_rd f3]
      exact Ev.tt he1 ih
    · obtain ⟨P', o', K', ih⟩ := tree_l2 hg hf hs e (kk + 1) _ (setB o (gapN (gapsN w h) first step kk) true) (by omega) (hstep (K.join (gr_grid w h) hgN he1))
      refine ⟨P', o', K', Ev.step (fun _ => spec_l03Tree.l2.eq_2 ..) (Ev.tt (by omega) (Ev.ff (by omega) ?_))⟩
      rw [hgap]
      refine Ev.bnd0 ((spec_EndsOf_eq w h _).trans (congrArg some f1)) ?_
      refine Ev.tt (by omega) (Ev.tt (by rw [tabL_length]; omega) (Ev.tt (by omega) (Ev.tt (by rw [tabL_length]; omega) ?_)))
      rw [tabL_rd (show (ends w h (gapN (gapsN w h) first step kk)).1 < cellsN w h by omega), tabL_rd f3]
      refine Ev.ff he1 (Ev.tt (by omega) ?_)
      have ho := open_small K.lt
      have hpw : 2 ^ gapN (gapsN w h) first step kk ≤ 2 ^ 24 := Nat.pow_le_pow_right (by decide) (by omega)
      rw [shl_pow (by omega), bits_or (by omega) (by omega), show o ||| 2 ^ gapN (gapsN w h) first step kk = setB o (gapN (gapsN w h) first step kk) true from rfl]
      have := tree_l3 (w := w) (h := h) (xs := xs) (i1 := i1) (h1 := h1) (n := gapsN w h) (first := first) (step := step) (kk := kk) (P := P) (a := (ends w h (gapN (gapsN w h) first step kk)).1) (old := P (ends w h (gapN (gapsN w h) first step kk)).2)
        (o := ((setB o (gapN (gapsN w h) first step kk) true : Nat) : Int)) (r := (w, h, (o' : Int), i1, h1)) (by omega) he1 (by rw [wsucc (show kk < 4611686018427387904 by omega)]; exact ih) (cellsN w h) 0 (by omega)
      rw [tabL_congr (Q := P) (fun x hx => if_neg (fun h => absurd h.1 (by omega)))] at this
      exact this
theorem tree_l1 (hg : gridOk w h = true) (h0 : 0 < gapsN w h) {first : Nat} (hf : first < 25) {P : Nat → Int} {o : Nat} (K : KInv (ends w h) (cellsN w h) (gapsN w h) (fun _ => False) P o) : ∀ d step : Nat, step + d = 2 * gapsN w h + 1 →
    ∃ o' : Nat, o' < 2 ^ gapsN w h ∧ perfN w h o' = true ∧ Ev (fun k => spec_l03Tree.l1 k (gapsN w h : Nat) (tabL P (cellsN w h)) first step xs i1 h1 w h w h o) (w, h, (o' : Int), i1, h1) := by
  have hgl := gapsN_le w h
  have fin : ∀ step : Nat, step < 100 → Nat.gcd step (gapsN w h) ≤ 1 → ∃ o' : Nat, o' < 2 ^ gapsN w h ∧ perfN w h o' = true ∧ Ev (fun k => spec_l03Tree.l1 k (gapsN w h : Nat) (tabL P (cellsN w h)) first step xs i1 h1 w h w h o) (w, h, (o' : Int), i1, h1) := by
    intro step hs hgcd
    obtain ⟨P', o', K', hEv⟩ := tree_l2 (xs := xs) (i1 := i1) (h1 := h1) hg hf hs (gapsN w h) 0 P o (by omega) (K.weak (fun g ⟨j, hj, _⟩ => absurd hj (by omega)))
    refine ⟨o', K'.lt, ?_, Ev.step (fun _ => spec_l03Tree.l1.eq_2 ..) (Ev.bind (spec_Common_ev (gapsN w h) step) (Ev.ff (by rw [decide_eq_true_eq]; omega) hEv))⟩
    exact K'.perfect (cells_pos hg) (fun g hgg => cover (by omega) h0 hgcd hgg) (full := 2 ^ gapsN w h - 1) (by have := Nat.two_pow_pos (gapsN w h); omega) (full_conn hg (fun g hgg => by rw [Nat.testBit_two_pow_sub_one]; simp [hgg]))
  intro d
  induction d with
  | zero =>
    intro step hst
    refine fin step (by omega) ?_
    have : Nat.gcd step (gapsN w h) = 1 := by
      rw [show step = 1 + gapsN w h * 2 by omega, Nat.gcd_add_mul_left_left, Nat.gcd_one_left]
    omega
  | succ d ih =>
    intro step hst
    by_cases hc : Nat.gcd step (gapsN w h) > 1
    · obtain ⟨o', ho, hp, hEv⟩ := ih (step + 1) (by omega)
      refine ⟨o', ho, hp, Ev.step (fun _ => spec_l03Tree.l1.eq_2 ..) (Ev.bind (spec_Common_ev (gapsN w h) step) (Ev.tt (by rw [decide_eq_true_eq]; exact hc) ?_))⟩
      rw [wsucc (by omega)]
      exact hEv
    · exact fin step (by omega) (by omega)
theorem tree_l0 (hg : gridOk w h = true) (hl : xs.length ≤ 1048576) (hi : 0 ≤ i1) : ∀ e i : Nat, i + e = cellsN w h →
    ∃ (o' : Nat) (i2 h2 : Int), 0 ≤ i2 ∧ o' < 2 ^ gapsN w h ∧ perfN w h o' = true ∧ Ev (fun k => spec_l03Tree.l0 k (gapsN w h : Nat) (tabL (fun x => if x < i then (x : Int) else 0) (cellsN w h)) i xs i1 h1 w h w h (0 : Nat)) (w, h, (o' : Int), i2, h2)
  | 0, i, he => by
    have hgl := gapsN_le w h
    have hgc := gapsN_cast w h
    have hK : KInv (ends w h) (cellsN w h) (gapsN w h) (fun _ => False) (fun x => (x : Int)) 0 := KInv.start (fun x => rfl)
    have ht : tabL (fun x => if x < i then (x : Int) else 0) (cellsN w h) = tabL (fun x => (x : Int)) (cellsN w h) := tabL_congr (fun x hx => if_pos (by omega))
    rw [ht]
    by_cases h0 : gapsN w h = 0
    · refine ⟨0, i1, h1, hi, Nat.two_pow_pos _, ?_, Ev.step (fun _ => spec_l03Tree.l0.eq_2 ..) (Ev.ff (by rw [tabL_length]; omega) (Ev.tt (by omega) (Ev.ret rfl)))⟩
      exact hK.perfect (cells_pos hg) (fun g hgg => absurd hgg (by omega)) (full := 0) (Nat.two_pow_pos _) (full_conn hg (fun g hgg => absurd hgg (by omega)))
    · obtain ⟨b, i2, h2, e1, b0, b1, hi2⟩ := spec_Below_eq hl hi h1 (n := (gapsN w h : Nat)) (by omega) (by omega)
      obtain ⟨c, i3, h3, e2, c0, c1, hi3⟩ := spec_Below_eq hl hi2 h2 (n := (gapsN w h : Nat)) (by omega) (by omega)
      obtain ⟨b', rfl⟩ := Int.eq_ofNat_of_zero_le b0
      obtain ⟨c', rfl⟩ := Int.eq_ofNat_of_zero_le c0
      obtain ⟨o', ho, hp, hEv⟩ := tree_l1 (xs := xs) (i1 := i3) (h1 := h3) hg (by omega) (first := b') (by omega) hK (2 * gapsN w h - c') (1 + c') (by omega)
      refine ⟨o', i3, h3, hi3, ho, hp, Ev.step (fun _ => spec_l03Tree.l0.eq_2 ..) (Ev.ff (by rw [tabL_length]; omega) (Ev.ff (by omega) (Ev.bnd0 e1 (Ev.bnd0 e2 ?_))))⟩
      rw [show wrap64 (1 + (c' : Int)) = ((1 + c' : Nat) : Int) by rw [wrap64_id (by omega) (by omega)]; omega]
      exact hEv
  | e + 1, i, he => by
    have hcl := cellsN_le w h
    obtain ⟨o', i2, h2, hq, ho, hp, ih⟩ := tree_l0 hg hl hi e (i + 1) (by omega)
    refine ⟨o', i2, h2, hq, ho, hp, Ev.step (fun _ => spec_l03Tree.l0.eq_2 ..) (Ev.tt (by rw [tabL_length]; omega) (Ev.tt (by omega) ?_))⟩
    rw [wsucc (show i < 4611686018427387904 by omega), Int.toNat_natCast, tabL_set]
    rw [tabL_congr (Q := fun x => if x < i + 1 then (x : Int) else 0) (fun x hx => by
      by_cases e2 : x = i
      · subst e2; rw [if_pos rfl, if_pos (by omega)]
      · rw [if_neg e2]
        by_cases e3 : x < i
        · rw [if_pos e3, if_pos (by omega)]
        · rw [if_neg e3, if_neg (by omega)])]
    exact ih
theorem spec_Tree_ev2 (hg : gridOk w h = true) (hl : xs.length ≤ 1048576) (hi : 0 ≤ i1) : ∃ (o' : Nat) (i2 h2 : Int), 0 ≤ i2 ∧ o' < 2 ^ gapsN w h ∧ perfN w h o' = true ∧ Ev (fun k => spec_l03Tree.f k xs i1 h1 w h) (w, h, (o' : Int), i2, h2) := by
  have hgc := gapsN_cast w h
  have hcc := cellsN_cast w h
  have hcl := cellsN_le w h
  obtain ⟨o', i2, h2, hq, ho, hp, hEv⟩ := tree_l0 (h1 := h1) hg hl hi (cellsN w h) 0 (by omega)
  refine ⟨o', i2, h2, hq, ho, hp, ?_⟩
  unfold spec_l03Tree.f
  refine Ev.bnd0 (spec_CountGaps_eq ..) (Ev.bnd0 (spec_CountCells_eq ..) (Ev.tt (by omega) (Ev.tt (by omega) ?_)))
  rw [← hgc, show (cellsOf w h).toNat = cellsN w h from rfl]
  rw [show List.replicate (cellsN w h) (0 : Int) = tabL (fun x => if x < 0 then (x : Int) else 0) (cellsN w h) by
    refine List.ext_getElem (by simp [tabL]) fun j hj1 hj2 => ?_
    simp [tabL]]
  exact hEv
end
end Go.Proofs.Ytcajhmldbkfhiaa.P
namespace Go.Proofs.Ytcajhmldbkfhiaa.P
open Go Go.RowKit Go.Proofs.YtcajhmldbkfhiaaW.PrintWords
set_option linter.unusedVariables false
set_option linter.unusedSimpArgs false

theorem shl_pow' {n : Nat} (h : n < 25) : shl .i64 1 (n : Int) = ((2 ^ n : Nat) : Int) := by
  have : ∀ m : Nat, m < 25 → shl .i64 1 (m : Int) = ((2 ^ m : Nat) : Int) := by decide +kernel
  exact this n h
end Go.Proofs.Ytcajhmldbkfhiaa.P
namespace Go.Proofs.Ytcajhmldbkfhiaa.P
open Go.RowKit Go.Proofs.YtcajhmldbkfhiaaW.PrintWords Go.Proofs.YtcajhmldbkfhiaaW.PrintLast Go.Proofs.YtcajhmldbkfhiaaW.PrintMore
attribute [local go_sem] max2_int min2_int max_two min_two max_three min_three max_four min_four   -- for this text's walks alone
set_option linter.unusedVariables false
set_option linter.unusedSimpArgs false

/-! ### spec_FullMaze: function 55 -/
/-! ### spec_l16Way: function 105 -/
end Go.Proofs.Ytcajhmldbkfhiaa.P
namespace Go.Proofs.Ytcajhmldbkfhiaa.P
open Go.RowKit Go.Proofs.YtcajhmldbkfhiaaW.PrintWords
set_option linter.unusedVariables false
set_option linter.unusedSimpArgs false

/-- The direction from a to b. -/
def dirOf (w h a b : Int) : Nat := if nbI w h a 0 = b then 0 else if nbI w h a 1 = b then 1 else if nbI w h a 2 = b then 2 else 3
def fitsB (w h a b : Int) : Bool :=
  decide (0 ≤ a) && decide (0 ≤ b) && decide (nbI w h a (dirOf w h a b) = b) && (List.range 4).all (fun d => decide (nbI w h a d = b → d = dirOf w h a b)) && decide (0 ≤ gapI w h a (dirOf w h a b)) && decide (gapI w h a (dirOf w h a b) < gapsOf w h)
theorem dirOf_lt (w h a b : Int) : dirOf w h a b < 4 := by 
  unfold dirOf
  split
  · omega
  · split
    · omega
    · split <;> omega
theorem fits_iff {w h a b : Int} (hf : fitsB w h a b = true) : 0 ≤ a ∧ 0 ≤ b ∧ nbI w h a (dirOf w h a b) = b ∧ (∀ d : Nat, d < 4 → nbI w h a d = b → d = dirOf w h a b) ∧ 0 ≤ gapI w h a (dirOf w h a b) ∧ gapI w h a (dirOf w h a b) < gapsOf w h := by
  unfold fitsB at hf
  simp only [Bool.and_eq_true, List.all_eq_true, List.mem_range, decide_eq_true_eq] at hf
  exact ⟨hf.1.1.1.1.1, hf.1.1.1.1.2, hf.1.1.1.2, hf.1.1.2, hf.1.2, hf.2⟩
end Go.Proofs.Ytcajhmldbkfhiaa.P
namespace Go.Proofs.Ytcajhmldbkfhiaa.P
open Go.RowKit Go.Proofs.YtcajhmldbkfhiaaW.PrintWords
set_option linter.unusedVariables false
set_option linter.unusedSimpArgs false

/-- The cells that a way leads to, one a step; none where it ends. -/
def wk (s : Int → Int → Int) : Int → List Int → Option (List Int)
  | _, [] => some []
  | c, d :: ds => if s c d < 0 then none else (wk s (s c d) ds).map (s c d :: ·)
theorem wk_len {s : Int → Int → Int} : ∀ {ds : List Int} {c : Int} {l : List Int}, wk s c ds = some l → l.length = ds.length
  | [], c, l, h => by cases h; rfl
  | d :: ds, c, l, h => by
    unfold wk at h
    by_cases e : s c d < 0
    · rw [if_pos e] at h; cases h
    · rw [if_neg e] at h
      obtain ⟨l', h', rfl⟩ := Option.map_eq_some_iff.1 h
      rw [List.length_cons, List.length_cons, wk_len h']
def cellsN' (w h : Int) (n : Nat) (c : Int) (way : List Int) : List Int := match (if isCellI w h c = true ∧ way.length ≤ 400 then wk (stepI w h n) c way else none) with | none => [] | some l => c :: l
section
variable {w h : Int} {n : Nat}
theorem impl_Cells_l0 (hg : gridOk w h = true) (hn : n < 2 ^ gapsN w h) (way : List Int) (hw : way.length ≤ 400) : ∀ (e i : Nat) (c : Int) (out : List Int), way.length - i = e → i ≤ way.length → out.length ≤ i + 1 →
    Ev (fun k => impl_CellsOn.l0 k c out way way.length i w h n) (match wk (stepI w h n) c (way.drop i) with | none => [] | some l => out ++ l)
  | 0, i, c, out, he, hi, ho => by
    refine Ev.step (fun _ => impl_CellsOn.l0.eq_2 ..) (Ev.ff (by omega) (Ev.ret ?_))
    rw [List.drop_eq_nil_of_le (by omega)]
    simp [wk]
  | e + 1, i, c, out, he, hi, ho => by
    refine Ev.step (fun _ => impl_CellsOn.l0.eq_2 ..) (Ev.tt (by omega) (Ev.tt (by omega) (Ev.tt (by omega) (Ev.bind (impl_Step_ev hg hn _ _) ?_))))
    rw [rd_get (show i < way.length by omega), List.drop_eq_getElem_cons (show i < way.length by omega)]
    unfold wk
    refine Ev.ite (fun e1 => ?_) (fun e1 => ?_)
    · rw [if_pos e1]; exact Ev.ret rfl
    · rw [if_neg e1, wsucc (by omega)]
      refine Ev.tt (by omega) ?_
      refine Ev.eq (impl_Cells_l0 hg hn way hw e (i + 1) (stepI w h n c way[i]) (out ++ [stepI w h n c way[i]]) (by omega) (by omega) (by simp; omega)) ?_
      cases wk (stepI w h n) (stepI w h n c way[i]) (way.drop (i + 1)) <;> simp
theorem impl_CellsOn_ev (hg : gridOk w h = true) (hn : n < 2 ^ gapsN w h) (c : Int) (way : List Int) : Ev (fun k => impl_CellsOn.f k w h n c way) (cellsN' w h n c way) := by
  unfold impl_CellsOn.f cellsN'
  refine Ev.bnd0 (impl_isIn_one ..) ?_
  rw [mazeOk_iff.2 ⟨hg, n, rfl, hn⟩, Bool.true_and]
  by_cases hc : isCellI w h c = true
  · refine Ev.tt hc (Ev.step (fun _ => impl_CellsOn.j0.eq_2 ..) ?_)
    by_cases hw : way.length ≤ 400
    · rw [if_pos ⟨hc, hw⟩]
      refine Ev.ff (by rw [decide_eq_true_eq]; omega) ?_
      refine Ev.eq (impl_Cells_l0 hg hn way hw way.length 0 c [c] (by omega) (by omega) (by simp)) ?_
      rw [List.drop_zero]
      cases wk (stepI w h n) c way <;> simp
    · rw [if_neg (fun h => hw h.2)]
      exact Ev.tt (by rw [decide_eq_true_eq]; omega) (Ev.ret rfl)
  · rw [if_neg (fun h => hc h.1)]
    exact Ev.ff hc (Ev.step (fun _ => impl_CellsOn.j0.eq_2 ..) (Ev.tt rfl (Ev.ret rfl)))
theorem spec_Walk_l0 (hg : gridOk w h = true) (hn : n < 2 ^ gapsN w h) (way : List Int) (hw : way.length ≤ 400) : ∀ (e i : Nat) (c : Int), way.length - i = e → i ≤ way.length →
    ∃ v, Ev (fun k => spec_WalkWay.l0 k c way i w h n) (v, (wk (stepI w h n) c (way.drop i)).isSome)
  | 0, i, c, he, hi => by
    refine ⟨c, Ev.step (fun _ => spec_WalkWay.l0.eq_2 ..) (Ev.ff (by omega) (Ev.ret ?_))⟩
    rw [List.drop_eq_nil_of_le (by omega)]
    simp [wk]
  | e + 1, i, c, he, hi => by
    obtain ⟨v, ih⟩ := spec_Walk_l0 hg hn way hw e (i + 1) (stepI w h n c way[i]) (by omega) (by omega)
    rw [List.drop_eq_getElem_cons (show i < way.length by omega)]
    unfold wk
    by_cases e1 : stepI w h n c way[i] < 0
    · refine ⟨-1, Ev.step (fun _ => spec_WalkWay.l0.eq_2 ..) (Ev.tt (by omega) (Ev.tt (by omega) (Ev.bind (spec_Step_ev hg hn _ _) ?_)))⟩
      rw [rd_get (show i < way.length by omega), if_pos e1]
      exact Ev.tt e1 (Ev.ret rfl)
    · refine ⟨v, Ev.step (fun _ => spec_WalkWay.l0.eq_2 ..) (Ev.tt (by omega) (Ev.tt (by omega) (Ev.bind (spec_Step_ev hg hn _ _) ?_)))⟩
      rw [rd_get (show i < way.length by omega), if_neg e1, wsucc (by omega)]
      refine Ev.ff e1 (Ev.eq ih ?_)
      cases wk (stepI w h n) (stepI w h n c way[i]) (way.drop (i + 1)) <;> simp
theorem spec_Cells_l0 (hg : gridOk w h = true) (hn : n < 2 ^ gapsN w h) (way : List Int) (hw : way.length ≤ 400) : ∀ (e i : Nat) (c : Int) (out l : List Int), way.length - i = e → i ≤ way.length → out.length ≤ i + 1 → wk (stepI w h n) c (way.drop i) = some l →
    Ev (fun k => spec_CellsOn.l0 k c way out i w h n) (out ++ l)
  | 0, i, c, out, l, he, hi, ho, hk => by
    refine Ev.step (fun _ => spec_CellsOn.l0.eq_2 ..) (Ev.ff (by omega) (Ev.ret ?_))
    rw [List.drop_eq_nil_of_le (by omega)] at hk
    cases hk
    simp
  | e + 1, i, c, out, l, he, hi, ho, hk => by
    refine Ev.step (fun _ => spec_CellsOn.l0.eq_2 ..) (Ev.tt (by omega) (Ev.tt (by omega) (Ev.bind (spec_Step_ev hg hn _ _) (Ev.tt (by omega) ?_))))
    rw [rd_get (show i < way.length by omega), wsucc (by omega)]
    rw [List.drop_eq_getElem_cons (show i < way.length by omega)] at hk
    unfold wk at hk
    by_cases e1 : stepI w h n c way[i] < 0
    · rw [if_pos e1] at hk; cases hk
    · rw [if_neg e1] at hk
      obtain ⟨l', h', rfl⟩ := Option.map_eq_some_iff.1 hk
      refine Ev.eq (spec_Cells_l0 hg hn way hw e (i + 1) _ (out ++ [stepI w h n c way[i]]) l' (by omega) (by omega) (by simp; omega) h') (by simp)
theorem spec_CellsOn_ev (hg : gridOk w h = true) (hn : n < 2 ^ gapsN w h) (c : Int) (way : List Int) : Ev (fun k => spec_CellsOn.f k w h n c way) (cellsN' w h n c way) := by
  unfold spec_CellsOn.f
  refine Ev.bnd0 rfl ?_
  have hm : mazeOk w h n = true := mazeOk_iff.2 ⟨hg, n, rfl, hn⟩
  have hww : ∃ v, Ev (fun k => spec_WalkWay.f k w h n c way) (v, (if isCellI w h c = true ∧ way.length ≤ 400 then wk (stepI w h n) c way else none).isSome) := by
    unfold spec_WalkWay.f
    by_cases hc : isCellI w h c = true
    · by_cases hw : way.length ≤ 400
      · obtain ⟨v, hv⟩ := spec_Walk_l0 hg hn way hw way.length 0 c (by omega) (by omega)
        refine ⟨v, Ev.bnd0 (spec_l04Has_eq ..) (Ev.tt (by rw [hm, hc]; rfl) (Ev.step (fun _ => spec_WalkWay.j0.eq_2 ..) (Ev.ff (by rw [decide_eq_true_eq]; omega) ?_)))⟩
        rw [if_pos ⟨hc, hw⟩]
        rw [List.drop_zero] at hv
        exact hv
      · refine ⟨-1, Ev.bnd0 (spec_l04Has_eq ..) (Ev.tt (by rw [hm, hc]; rfl) (Ev.step (fun _ => spec_WalkWay.j0.eq_2 ..) (Ev.tt (by rw [decide_eq_true_eq]; omega) ?_)))⟩
        rw [if_neg (fun h => hw h.2)]
        exact Ev.ret rfl
    · refine ⟨-1, Ev.bnd0 (spec_l04Has_eq ..) (Ev.ff (by rw [hm, Bool.true_and]; exact hc) (Ev.step (fun _ => spec_WalkWay.j0.eq_2 ..) (Ev.tt rfl ?_)))⟩
      rw [if_neg (fun h => hc h.1)]
      exact Ev.ret rfl
  obtain ⟨v, hv⟩ := hww
  refine Ev.bind hv ?_
  unfold cellsN'
  by_cases e : isCellI w h c = true ∧ way.length ≤ 400
  · rw [if_pos e]
    cases hk : wk (stepI w h n) c way with
    | none => exact Ev.ff (by simp) (Ev.ret rfl)
    | some l =>
      refine Ev.tt (by simp) (Ev.tt (by simp) ?_)
      exact spec_Cells_l0 hg hn way e.2 way.length 0 c [c] l (by omega) (by omega) (by simp) (by rw [List.drop_zero]; exact hk)
  · rw [if_neg e]
    exact Ev.ff (by simp) (Ev.ret rfl)
end
end Go.Proofs.Ytcajhmldbkfhiaa.P
namespace Go.Proofs.Ytcajhmldbkfhiaa.P
open Go.RowKit Go.Proofs.YtcajhmldbkfhiaaW.PrintWords
set_option linter.unusedVariables false
set_option linter.unusedSimpArgs false

theorem idxOf_is {l : List Int} {x : Int} {i : Nat} (h : i < l.length) (hx : l[i] = x) (hn : ∀ j, (hj : j < i) → l[j] ≠ x) : l.idxOf x = i := by
  unfold List.idxOf
  rw [List.findIdx_eq h]
  exact ⟨by simp [hx], fun j hj => by simp [hn j hj]⟩
theorem index_l0 (l : List Int) (x : Int) (hl : l.length ≤ 4611686018427387903) : ∀ (d i : Nat), l.length - i = d → i ≤ l.length → (∀ j, j < i → rd l j ≠ x) →
    Ev (fun k => slices_Index_int_int.l0 k l x l.length i) (if x ∈ l then (l.idxOf x : Int) else -1)
  | 0, i, hd, hi, hn => by
    refine Ev.step (fun _ => slices_Index_int_int.l0.eq_2 ..) ?_
    refine Ev.ff (by omega) (Ev.ret ?_)
    rw [if_neg]
    intro hx
    obtain ⟨j, hj, rfl⟩ := List.getElem_of_mem hx
    exact hn j (by omega) (rd_get hj)
  | d + 1, i, hd, hi, hn => by
    refine Ev.step (fun _ => slices_Index_int_int.l0.eq_2 ..) ?_
    refine Ev.tt (by omega) (Ev.tt (by omega) (Ev.tt (by omega) ?_))
    have hlt : i < l.length := by omega
    refine Ev.ite (fun e => ?_) (fun e => ?_)
    · refine Ev.ret ?_
      have hm : x ∈ l := by rw [e, rd_get hlt]; exact List.getElem_mem hlt
      rw [if_pos hm]
      rw [idxOf_is hlt (by rw [e, rd_get hlt]) (fun j hj => by have := hn j hj; rwa [rd_get (by omega)] at this)]
    · rw [wsucc (by omega)]
      refine index_l0 l x hl d (i + 1) (by omega) (by omega) fun j hj => ?_
      by_cases h : j = i
      · subst h; exact fun e' => e e'.symm
      · exact hn j (by omega)
theorem index_ev (l : List Int) (x : Int) (hl : l.length ≤ 4611686018427387903) : Ev (fun k => slices_Index_int_int.f k l x) (if x ∈ l then (l.idxOf x : Int) else -1) := by
  unfold slices_Index_int_int.f
  exact index_l0 l x hl l.length 0 (by omega) (by omega) (fun j hj => by omega)

end Go.Proofs.Ytcajhmldbkfhiaa.P
namespace Go.Proofs.Ytcajhmldbkfhiaa.P
open Go.RowKit Go.Proofs.YtcajhmldbkfhiaaW.PrintWords Go.Proofs.YtcajhmldbkfhiaaW.PrintLast Go.Proofs.YtcajhmldbkfhiaaW.PrintMore
attribute [local go_sem] max2_int min2_int max_two min_two max_three min_three max_four min_four   -- for this text's walks alone
set_option linter.unusedVariables false
set_option linter.unusedSimpArgs false

/-! ### impl_FullMaze: function 84 -/
/-! ### impl_with: function 107 -/
/-! ### spec_SetGap: function 98 -/
/-! ### slices_Contains_int_int: function 106 -/
/-! ### spec_l07In: function 62 -/
end Go.Proofs.Ytcajhmldbkfhiaa.P
namespace Go.Proofs.Ytcajhmldbkfhiaa.P
open Go.RowKit Go.Proofs.YtcajhmldbkfhiaaW.PrintWords Go.Proofs.YtcajhmldbkfhiaaW.PrintLast Go.Proofs.YtcajhmldbkfhiaaW.PrintMore
attribute [local go_sem] max2_int min2_int max_two min_two max_three min_three max_four min_four   -- for this text's walks alone
set_option linter.unusedVariables false
set_option linter.unusedSimpArgs false

attribute [local go_sem] Go.Lib.run_eql_slice_nil
/-! ### impl_FirstEntryMaze: function 53 -/
/-! ### impl_LastExitMaze: function 56 -/
end Go.Proofs.Ytcajhmldbkfhiaa.P
namespace Go.Proofs.Ytcajhmldbkfhiaa.P
open Go.RowKit Go.Proofs.YtcajhmldbkfhiaaW.PrintWords
set_option linter.unusedVariables false
set_option linter.unusedSimpArgs false

/-- The gap to the east of the cell in column a and row b, and the gap to the south. -/
def eG (W b a : Nat) : Nat := b * (W - 1) + a
def sG (W H b a : Nat) : Nat := (W - 1) * H + (b * W + a)
/-- The gaps that lie inside a room: columns x .. x + rw - 1, rows y .. y + rh - 1. -/
def Inn (W H x y rw rh g : Nat) : Prop :=
  (∃ a b, x ≤ a ∧ a + 1 < x + rw ∧ y ≤ b ∧ b < y + rh ∧ g = eG W b a) ∨ (∃ a b, x ≤ a ∧ a < x + rw ∧ y ≤ b ∧ b + 1 < y + rh ∧ g = sG W H b a)
theorem Inn.mono {W H x y rw rh x' y' rw' rh' g : Nat} (h1 : x' ≤ x) (h2 : x + rw ≤ x' + rw') (h3 : y' ≤ y) (h4 : y + rh ≤ y' + rh') (h : Inn W H x y rw rh g) : Inn W H x' y' rw' rh' g := by
  rcases h with ⟨a, b, p, q, r, s, e⟩ | ⟨a, b, p, q, r, s, e⟩
  · exact .inl ⟨a, b, by omega, by omega, by omega, by omega, e⟩
  · exact .inr ⟨a, b, by omega, by omega, by omega, by omega, e⟩
section
variable {W H : Nat} (hW : W < 5) (hH : H < 5)
include hW hH
end
theorem setB_on {n j : Nat} (h : n.testBit j = true) : setB n j true = n := by
  apply Nat.eq_of_testBit_eq
  intro i
  rw [testBit_setB]
  split
  · rename_i e; rw [e, h]
  · rfl
/-- What dividing a room does: see divN_main. -/
structure Divd (W H x y rw rh o o' : Nat) : Prop where
  lt : o' < 2 ^ gapsN W H
  out : ∀ g, ¬ Inn W H x y rw rh g → o'.testBit g = o.testBit g
  conn : ∀ m a b c d, (∀ g, Inn W H x y rw rh g → o'.testBit g = true → m.testBit g = true) → x ≤ a → a < x + rw → y ≤ b → b < y + rh → x ≤ c → c < x + rw → y ≤ d → d < y + rh → Cn (ends W H) m (b * W + a) (d * W + c)
  cnt : pop (gapsN W H) o' + (rw - 1) * (rh - 1) = pop (gapsN W H) o
theorem full_bits {n g : Nat} (h : g < n) : (2 ^ n - 1).testBit g = true := by rw [Nat.testBit_two_pow_sub_one]; simpa using h
end Go.Proofs.Ytcajhmldbkfhiaa.P
namespace Go.Proofs.Ytcajhmldbkfhiaa.P
open Go.RowKit Go.Proofs.YtcajhmldbkfhiaaW.PrintWords
set_option linter.unusedVariables false
set_option linter.unusedSimpArgs false

/-- The gaps with just one end among the cells of S. -/
def frN (w h : Int) (S : Nat) : List Nat := (List.range (gapsN w h)).filter fun g => S.testBit (ends w h g).1 != S.testBit (ends w h g).2
def growS (w h : Int) (S g : Nat) : Nat := setB (setB S (ends w h g).1 true) (ends w h g).2 true
/-- The cells of S hang together by the passages, which are one less. -/
structure Grw (w h : Int) (r S o : Nat) : Prop where
  lt : o < 2 ^ gapsN w h
  zero : S.testBit r = true
  cell : S < 2 ^ cellsN w h
  conn : ∀ c, S.testBit c = true → Cn (ends w h) o r c
  inn : ∀ g, o.testBit g = true → S.testBit (ends w h g).1 = true ∧ S.testBit (ends w h g).2 = true
  cnt : pop (cellsN w h) S = pop (gapsN w h) o + 1
theorem grid_full : ∀ W : Nat, W < 5 → ∀ H : Nat, H < 5 → gridOk W H = true → parts (ends W H) (cellsN W H) (gapsN W H) (2 ^ gapsN W H - 1) = 1 := by decide +kernel
theorem mem_frN {w h : Int} {S g : Nat} : g ∈ frN w h S ↔ g < gapsN w h ∧ S.testBit (ends w h g).1 ≠ S.testBit (ends w h g).2 := by
  unfold frN
  rw [List.mem_filter, List.mem_range, bne_iff_ne]
theorem Grw.front {w h : Int} {r S o : Nat} (hg : gridOk w h = true) (G : Grw w h r S o) (hl : pop (cellsN w h) S < cellsN w h) : 0 < (frN w h S).length := by
  rcases Nat.eq_zero_or_pos (frN w h S).length with h0 | h0
  · exfalso
    have hnil : frN w h S = [] := List.length_eq_zero_iff.1 h0
    have hno : ∀ g, g < gapsN w h → S.testBit (ends w h g).1 = S.testBit (ends w h g).2 := fun g hgl => by
      rcases Decidable.em (S.testBit (ends w h g).1 = S.testBit (ends w h g).2) with e | e
      · exact e
      · have := mem_frN.2 ⟨hgl, e⟩
        rw [hnil] at this
        cases this
    obtain ⟨W, H, rfl, rfl, hW1, hW2, hH1, hH2⟩ := grid_nat hg
    have hV := cells_pos hg
    have hp := Nat.two_pow_pos (gapsN W H)
    have hc := (parts_one (by omega) (by omega)).1 (grid_full W hW2 H hH2 hg)
    have hr : r < cellsN W H := lt_of_testBit G.cell G.zero
    have hall : ∀ x, Cn (ends W H) (2 ^ gapsN W H - 1) r x → S.testBit x = true := by
      intro x hx
      induction hx with
      | refl => exact G.zero
      | fwd k hk _ ih => rw [← hno k (lt_of_testBit (by omega) hk)]; exact ih
      | bwd k hk _ ih => rw [hno k (lt_of_testBit (by omega) hk)]; exact ih
    have : pop (cellsN W H) S = cellsN W H := by
      rw [pop_congr (t := 2 ^ cellsN W H - 1) fun i hi => by rw [hall i ((hc r hr).symm.trans (hc i hi)), full_bits hi]]
      exact pop_full _
    omega
  · exact h0
theorem Grw.step {w h : Int} {r S o : Nat} (G : Grw w h r S o) {g : Nat} (hf : g ∈ frN w h S) : Grw w h r (growS w h S g) (setB o g true) := by
  obtain ⟨hgl, hne⟩ := mem_frN.1 hf
  obtain ⟨_, f2, f3⟩ := ends_facts hgl
  have ho : o.testBit g = false := by
    rw [Bool.eq_false_iff]
    intro e
    have := G.inn g e
    rw [this.1, this.2] at hne
    exact hne rfl
  have hsup : ∀ i, S.testBit i = true → (growS w h S g).testBit i = true := fun i hi => by
    unfold growS; rw [testBit_setB, testBit_setB]; split
    · rfl
    · split
      · rfl
      · exact hi
  have hb : ∀ i, (growS w h S g).testBit i = true → S.testBit i = true ∨ i = (ends w h g).1 ∨ i = (ends w h g).2 := fun i hi => by
    unfold growS at hi; rw [testBit_setB, testBit_setB] at hi
    by_cases e2 : i = (ends w h g).2
    · exact .inr (.inr e2)
    · rw [if_neg e2] at hi
      by_cases e1 : i = (ends w h g).1
      · exact .inr (.inl e1)
      · rw [if_neg e1] at hi; exact .inl hi
  have h1 : (growS w h S g).testBit (ends w h g).1 = true := by unfold growS; rw [testBit_setB, testBit_setB]; simp
  have h2 : (growS w h S g).testBit (ends w h g).2 = true := by unfold growS; rw [testBit_setB]; simp
  have hgb : (setB o g true).testBit g = true := by rw [testBit_setB]; simp
  have hm : ∀ i, o.testBit i = true → (setB o g true).testBit i = true := fun i hi => by rw [testBit_setB]; split <;> simp [hi]
  have hends : Cn (ends w h) (setB o g true) r (ends w h g).1 ∧ Cn (ends w h) (setB o g true) r (ends w h g).2 := by
    cases e1 : S.testBit (ends w h g).1 with
    | true => exact ⟨(G.conn _ e1).mono hm, ((G.conn _ e1).mono hm).trans (Cn.edge hgb)⟩
    | false =>
      have e2 : S.testBit (ends w h g).2 = true := by
        rw [e1] at hne
        cases q : S.testBit (ends w h g).2 with
        | true => rfl
        | false => exact absurd q.symm hne
      exact ⟨((G.conn _ e2).mono hm).trans (Cn.edge' hgb), (G.conn _ e2).mono hm⟩
  refine ⟨setB_lt true G.lt hgl, hsup r G.zero, setB_lt true (setB_lt true G.cell (by omega)) f3, fun c hc => ?_, fun k hk => ?_, ?_⟩
  · rcases hb c hc with e | rfl | rfl
    · exact (G.conn c e).mono hm
    · exact hends.1
    · exact hends.2
  · rw [testBit_setB] at hk
    by_cases e : k = g
    · subst e; exact ⟨h1, h2⟩
    · rw [if_neg e] at hk
      have := G.inn k hk
      exact ⟨hsup _ this.1, hsup _ this.2⟩
  · rw [pop_setB hgl ho, ← G.cnt]
    unfold growS
    cases e1 : S.testBit (ends w h g).1 with
    | true =>
      have e2 : S.testBit (ends w h g).2 = false := by
        rw [e1] at hne
        cases q : S.testBit (ends w h g).2 with
        | false => rfl
        | true => exact absurd q.symm hne
      rw [setB_on e1, pop_setB f3 e2]
    | false =>
      have e2 : S.testBit (ends w h g).2 = true := by
        rw [e1] at hne
        cases q : S.testBit (ends w h g).2 with
        | true => rfl
        | false => exact absurd q.symm hne
      rw [setB_on (by rw [testBit_setB]; split <;> simp [e2]), pop_setB (by omega) e1]
theorem pop_nil (n : Nat) : pop n 0 = 0 := by
  induction n with
  | zero => rfl
  | succ n ih => simp [pop, ih]
theorem Grw.start {w h : Int} {r : Nat} (hr : r < cellsN w h) : Grw w h r (2 ^ r) 0 := by
  refine ⟨Nat.two_pow_pos _, by rw [Nat.testBit_two_pow]; simp, Nat.pow_lt_pow_right (by decide) hr, fun c hc => ?_, fun g h => by simp at h, ?_⟩
  · rw [Nat.testBit_two_pow, decide_eq_true_eq] at hc
    subst hc
    exact .refl _
  · have e : 2 ^ r = setB 0 r true := by unfold setB; rw [if_pos rfl, Nat.zero_or]
    rw [e, pop_setB hr (Nat.zero_testBit r), pop_nil, pop_nil]
theorem pop_all' {n s : Nat} (h : pop n s = n) : ∀ i, i < n → s.testBit i = true := by
  induction n with
  | zero => intro i hi; omega
  | succ n ih =>
    simp only [pop] at h
    have h1 := pop_le n s
    have h2 := Bool.toNat_le (s.testBit n)
    intro i hi
    rcases Nat.lt_succ_iff_lt_or_eq.1 hi with e | rfl
    · exact ih (by omega) i e
    · cases q : s.testBit i with
      | true => rfl
      | false => rw [q] at h; simp at h; omega
theorem Grw.perf {w h : Int} {r S o : Nat} (hg : gridOk w h = true) (G : Grw w h r S o) : perfN w h o = true ↔ pop (cellsN w h) S = cellsN w h := by
  have hV := cells_pos hg
  have hc := G.cnt
  have hr : r < cellsN w h := lt_of_testBit G.cell G.zero
  unfold perfN
  rw [perf_iff]
  constructor
  · rintro ⟨_, h2⟩; omega
  · intro hp
    have h0 := G.conn 0 (pop_all' hp 0 (by omega))
    exact ⟨(parts_one G.lt (by omega)).2 fun x hx => h0.symm.trans (G.conn x (pop_all' hp x hx)), by omega⟩
theorem insU_len_new {x : Int} : ∀ {l : List Int}, x ∉ l → (insU x l).length = l.length + 1
  | [], _ => rfl
  | y :: t, h => by
    rw [List.mem_cons, not_or] at h
    unfold insU
    split
    · rfl
    · rw [if_neg h.1, List.length_cons, insU_len_new h.2, List.length_cons]
theorem insU_len_old {x : Int} : ∀ {l : List Int}, l.Pairwise (· < ·) → x ∈ l → (insU x l).length = l.length
  | y :: t, hs, h => by
    have h1 := List.pairwise_cons.1 hs
    unfold insU
    rcases List.mem_cons.1 h with e | e
    · rw [if_neg (by omega), if_pos e]
    · have := h1.1 x e
      rw [if_neg (by omega), if_neg (by omega), List.length_cons, insU_len_old h1.2 e, List.length_cons]
/-- As long as the list just if no number stands twice. -/
theorem ordF_nodup : ∀ l : List Int, (ordF l).length = l.length ↔ l.Nodup
  | [] => by simp [ordF]
  | x :: t => by
    have h0 := ordF_len_le t
    have ih := ordF_nodup t
    rw [List.nodup_cons, ← ih]
    have e0 : ordF (x :: t) = insU x (ordF t) := rfl
    rw [e0]
    by_cases h : x ∈ t
    · rw [insU_len_old (ordF_sorted t) (ordF_mem.2 h), List.length_cons]
      constructor
      · intro e; omega
      · intro e; exact absurd h e.1
    · rw [insU_len_new (fun hc => h (ordF_mem.1 hc)), List.length_cons]
      constructor
      · intro e; exact ⟨h, by omega⟩
      · intro e; omega
end Go.Proofs.Ytcajhmldbkfhiaa.P
namespace Go.Proofs.Ytcajhmldbkfhiaa.P
open Go.RowKit Go.Proofs.YtcajhmldbkfhiaaW.PrintWords Go.Proofs.YtcajhmldbkfhiaaW.PrintLast Go.Proofs.YtcajhmldbkfhiaaW.PrintMore
attribute [local go_sem] max2_int min2_int max_two min_two max_three min_three max_four min_four   -- for this text's walks alone
set_option linter.unusedVariables false
set_option linter.unusedSimpArgs false

/-! ### spec_DrawTour: function 52 -/
/-! ### spec_l06Way: function 109 -/
/-! ### spec_ReverseWay: function 57 -/
/-! ### impl_CoverTime: function 34 -/
/-! ### impl_SnakeWay: function 58 -/
end Go.Proofs.Ytcajhmldbkfhiaa.P
namespace Go.Proofs.Ytcajhmldbkfhiaa.P
open Go.RowKit Go.Proofs.YtcajhmldbkfhiaaW.PrintWords
set_option linter.unusedVariables false
set_option linter.unusedSimpArgs false

/-! Walks -/
def lastO (c : Int) (l : List Int) : Int := (c :: l).getLast (by simp)
theorem lastO_cons (c b : Int) (l : List Int) : lastO c (b :: l) = lastO b l := by simp [lastO]
/-! The draw -/
theorem ways_ok {w h : Int} {n : Nat} {c : Int} {d : Int} (hd : d ∈ waysI w h n c) : 0 ≤ d ∧ d ≤ 3 ∧ 0 ≤ stepI w h n c d := by
  unfold waysI waysFrom at hd
  rw [List.mem_filter, List.drop_zero] at hd
  simp only [List.mem_cons, List.not_mem_nil, or_false, decide_eq_true_eq] at hd
  rcases hd with ⟨rfl | rfl | rfl | rfl, h2⟩ <;> exact ⟨by omega, by omega, h2⟩
/-! Cover time -/
end Go.Proofs.Ytcajhmldbkfhiaa.P
namespace Go.Proofs.Ytcajhmldbkfhiaa.P
open Go.RowKit Go.Proofs.YtcajhmldbkfhiaaW.PrintWords
set_option linter.unusedVariables false
set_option linter.unusedSimpArgs false

theorem dist_chain {w h : Int} {n z : Nat} (hn : n < 2 ^ gapsN w h) (hz : z < cellsN w h) : ∀ (m c : Nat), c < cellsN w h → distN w h n z c = m → ∃ L : List Nat, L.length = m + 1 ∧ L.Nodup ∧ ∀ x ∈ L, x < cellsN w h ∧ distN w h n z x ≤ m
  | 0, c, hc, hm => ⟨[c], rfl, by simp, fun x hx => by rw [List.mem_singleton.1 hx]; exact ⟨hc, by omega⟩⟩
  | m + 1, c, hc, hm => by
    obtain ⟨f1, f2, f3, _⟩ := near_facts hn hz hc (by omega)
    obtain ⟨L, h1, h2, h3⟩ := dist_chain hn hz m (nearCell w h n z c) f2 (by omega)
    refine ⟨c :: L, by simp [h1], ?_, fun x hx => ?_⟩
    · rw [List.nodup_cons]
      refine ⟨fun q => ?_, h2⟩
      have := (h3 c q).2
      omega
    · rcases List.mem_cons.1 hx with rfl | hx
      · exact ⟨hc, by omega⟩
      · have := h3 x hx
        exact ⟨this.1, by omega⟩
theorem dist_le {w h : Int} {n z : Nat} (hn : n < 2 ^ gapsN w h) (hz : z < cellsN w h) (c : Nat) : distN w h n z c < cellsN w h ∧ distN w h n z c ≤ 16 := by
  have h16 := cellsN_le w h
  have I := distN_dist hn hz
  rcases I.neg c with q | q
  · omega
  · have hc := I.inr c q
    obtain ⟨m, hm⟩ := Int.eq_ofNat_of_zero_le q
    obtain ⟨L, h1, h2, h3⟩ := dist_chain hn hz m c hc hm
    have := nodup_len h2 fun x hx => (h3 x hx).1
    omega
section
variable {w h : Int} {n z : Nat} (hg : gridOk w h = true) (hn : n < 2 ^ gapsN w h) (hz : z < cellsN w h)
include hg hn hz
theorem sway_l1 {c : Nat} (hc : c < cellsN w h) (h0 : 0 < distN w h n z c) (out : List Int) (ho : out.length ≤ 1000) {res : List Int × Bool}
    (next : Ev (fun k => spec_WayBetween.l0 k (nearCell w h n z c : Nat) z (out ++ [((nearDir w h n z c : Nat) : Int)]) (dlist (cellsN w h) (distN w h n z)) w h n) res) :
    ∀ (e d : Nat), d + e = nearDir w h n z c → Ev (fun k => spec_WayBetween.l1 k c z out (dlist (cellsN w h) (distN w h n z)) d w h n) res
  | 0, d, he => by
    obtain ⟨f1, f2, f3, f4, _, _, _, f8⟩ := near_facts hn hz hc h0
    have h4 := nearDir_lt w h n z c
    have hb := (distN_dist hn hz).inr
    obtain rfl : d = nearDir w h n z c := by omega
    have hstep := spec_Step_ev hg hn (c : Int) (nearDir w h n z c : Int)
    rw [show stepI w h n c (nearDir w h n z c : Int) = (nearCell w h n z c : Int) from f1] at hstep
    refine Ev.step (fun _ => spec_WayBetween.l1.eq_2 ..) (Ev.tt (by omega) (Ev.bind hstep (Ev.tt (by omega) (Ev.tt (by omega) (Ev.tt (by rw [dlist_length]; omega) (Ev.tt (by omega) (Ev.tt (by rw [dlist_length]; omega) ?_)))))))
    rw [rd_dlist f2, rd_dlist hc]
    have hd16 : distN w h n z c ≤ 1000000 := by
      have := dist_le hn hz c
      omega
    refine Ev.tt ?_ (Ev.tt (by omega) next)
    rw [wrap64_id (by omega) (by omega)]
    omega
  | e + 1, d, he => by
    obtain ⟨f1, f2, f3, f4, _, _, _, f8⟩ := near_facts hn hz hc h0
    have h4 := nearDir_lt w h n z c
    have ih := sway_l1 hc h0 out ho next e (d + 1) (by omega)
    have hrng := (net_grid hn).rng c d hc (by omega)
    have hd16 : distN w h n z c ≤ 1000000 := by
      have := dist_le hn hz c
      omega
    refine Ev.step (fun _ => spec_WayBetween.l1.eq_2 ..) (Ev.tt (by omega) (Ev.bind (spec_Step_ev hg hn (c : Int) (d : Int)) ?_))
    rw [wsucc (by omega)]
    refine Ev.ite (fun hp => ?_) (fun _ => ih)
    obtain ⟨y, hy⟩ : ∃ y : Nat, stepI w h n c (d : Int) = y := ⟨(stepI w h n c (d : Int)).toNat, by omega⟩
    have hy' : st w h n c d = (y : Int) := hy
    have hyv : y < cellsN w h := by omega
    rw [hy]
    refine Ev.tt (by omega) (Ev.tt (by rw [dlist_length]; omega) (Ev.tt (by omega) (Ev.tt (by rw [dlist_length]; omega) ?_)))
    rw [rd_dlist hyv, rd_dlist hc, wrap64_id (by omega) (by omega)]
    refine Ev.ff (fun hq => f8 d (by omega) ⟨by omega, ?_⟩) ih
    rw [hy', Int.toNat_natCast]
    omega
theorem sway_l0 : ∀ (m c : Nat) (out : List Int), c < cellsN w h → distN w h n z c = m → out.length + m ≤ 1000 → Ev (fun k => spec_WayBetween.l0 k c z out (dlist (cellsN w h) (distN w h n z)) w h n) (out ++ ints (wayD w h n z m c), true)
  | 0, c, out, hc, hm, ho => by
    obtain rfl := (distN_dist hn hz).zero c (by omega)
    refine Ev.step (fun _ => spec_WayBetween.l0.eq_2 ..) (Ev.tt rfl (Ev.ret ?_))
    simp [wayD, ints]
  | m + 1, c, out, hc, hm, ho => by
    have I := distN_dist hn hz
    obtain ⟨f1, f2, f3, f4, _, _, _, f8⟩ := near_facts hn hz hc (by omega)
    have hne : ¬ ((c : Int) = (z : Int)) := by
      intro e
      have : c = z := by omega
      rw [this, I.src0] at hm
      omega
    have ih := sway_l0 m (nearCell w h n z c) (out ++ [((nearDir w h n z c : Nat) : Int)]) f2 (by omega) (by rw [List.length_append]; simp; omega)
    have e1 : out ++ [((nearDir w h n z c : Nat) : Int)] ++ ints (wayD w h n z m (nearCell w h n z c)) = out ++ ints (wayD w h n z (m + 1) c) := by
      rw [List.append_assoc]; rfl
    rw [e1] at ih
    refine Ev.step (fun _ => spec_WayBetween.l0.eq_2 ..) (Ev.ff hne ?_)
    exact sway_l1 hg hn hz hc (by omega) out (by omega) ih (nearDir w h n z c) 0 (by omega)
theorem spec_WayBetween_ev {c : Nat} (hc : c < cellsN w h) {m : Nat} (hm : distN w h n z c = m) : Ev (fun k => spec_WayBetween.f k w h n c z) (ints (wayD w h n z m c), true) := by
  have hle := dist_le hn hz c
  have h16 := cellsN_le w h
  unfold spec_WayBetween.f
  refine Ev.bnd0 rfl (Ev.bnd0 (spec_l04Has_eq ..) (Ev.tt ?_ (Ev.bnd0 (spec_l04Has_eq ..) (Ev.step (fun _ => spec_WayBetween.j0.eq_2 ..) (Ev.ff ?_ (Ev.bind (spec_distances_ev hg hn hz) (Ev.tt (by omega) (Ev.tt (by rw [dlist_length]; omega) ?_))))))))
  · rw [mazeOk_iff.2 ⟨hg, n, rfl, hn⟩, isCellI_nat hc]; rfl
  · rw [mazeOk_iff.2 ⟨hg, n, rfl, hn⟩, isCellI_nat hz]; decide
  · rw [rd_dlist hc]
    refine Ev.ff (by omega) ?_
    have := sway_l0 hg hn hz m c [] hc hm (by simp; omega)
    rwa [List.nil_append] at this
end
/-! The walk that is drawn -/
theorem walk6_l0 {w h : Int} {n : Nat} {xs : List Int} (hg : gridOk w h = true) (hn : n < 2 ^ gapsN w h) (hl : xs.length ≤ 1048576) {N : Nat} (hN : N ≤ 400) : ∀ (e i : Nat) (c : Int) (out : List Int) (i1 h1 : Int), i + e = N → out.length ≤ i → 0 ≤ i1 →
    ∃ (way l : List Int) (i2 h2 : Int), way.length ≤ e ∧ (∀ d ∈ way, 0 ≤ d ∧ d ≤ 3) ∧ wk (stepI w h n) c way = some l ∧ Ev (fun k => spec_l06Walk.l0 k c out (N : Int) i xs i1 h1 w h n) (out ++ way, i2, h2)
  | 0, i, c, out, i1, h1, he, ho, hi => by
    refine ⟨[], [], i1, h1, by simp, by simp, rfl, Ev.step (fun _ => spec_l06Walk.l0.eq_2 ..) (Ev.ff (by omega) (Ev.ret (by simp)))⟩
  | e + 1, i, c, out, i1, h1, he, ho, hi => by
    by_cases h0 : (waysI w h n c).length = 0
    · exact ⟨[], [], i1, h1, by simp, by simp, rfl, Ev.step (fun _ => spec_l06Walk.l0.eq_2 ..) (Ev.tt (by omega) (Ev.bind (spec_Ways_ev hg hn c) (Ev.tt (by omega) (Ev.ret (by simp)))))⟩
    · have h4 : (waysI w h n c).length ≤ 4 := by
        have := List.length_filter_le (fun x => decide (0 ≤ stepI w h n c x)) ([0, 1, 2, 3] : List Int)
        exact this
      obtain ⟨b, i2, h2, f1, b0, b1, hi2⟩ := spec_Below_eq hl hi h1 (n := ((waysI w h n c).length : Int)) (by omega) (by omega)
      obtain ⟨q, rfl⟩ := Int.eq_ofNat_of_zero_le b0
      have hq : q < (waysI w h n c).length := by omega
      obtain ⟨d0, d1, ds⟩ := ways_ok (List.getElem_mem hq)
      obtain ⟨way, l, i3, h3, w1, w2, w3, ev⟩ := walk6_l0 (xs := xs) hg hn hl hN e (i + 1) (stepI w h n c (waysI w h n c)[q]) (out ++ [(waysI w h n c)[q]]) i2 h2 (by omega) (by simp; omega) hi2
      refine ⟨(waysI w h n c)[q] :: way, stepI w h n c (waysI w h n c)[q] :: l, i3, h3, by simp; omega, ?_, ?_, ?_⟩
      · intro d hd
        rcases List.mem_cons.1 hd with rfl | hd
        · exact ⟨d0, d1⟩
        · exact w2 d hd
      · unfold wk
        rw [if_neg (by omega), w3]
        rfl
      · refine Ev.step (fun _ => spec_l06Walk.l0.eq_2 ..) (Ev.tt (by omega) (Ev.bind (spec_Ways_ev hg hn c) (Ev.ff (by omega) (Ev.bnd0 f1 (Ev.tt (by omega) (Ev.tt (by omega) (Ev.tt (by omega) ?_)))))))
        rw [rd_get hq, wsucc (by omega)]
        refine Ev.bind (spec_Step_ev hg hn _ _) (Ev.eq ev (by simp))
theorem drawy_l0 {w h : Int} {xs : List Int} (hg : gridOk w h = true) (hl : xs.length ≤ 1048576) (h0 : 0 < gapsOf w h) : ∀ (d : Nat) (n : Nat) (i1 h1 : Int), d ≤ 1000 → n < 2 ^ gapsN w h → 0 ≤ i1 →
    ∃ (m : Nat) (i2 h2 : Int), m < 2 ^ gapsN w h ∧ 0 ≤ i2 ∧ Ev (fun k => spec_l03Maze.l0 k (gapsOf w h) ((d : Int) - 1) xs i1 h1 w h n) (w, h, (m : Int), i2, h2)
  | 0, n, i1, h1, hd, hn, hi => ⟨n, i1, h1, hn, hi, Ev.step (fun _ => spec_l03Maze.l0.eq_2 ..) (Ev.ff (by omega) (Ev.ret rfl))⟩
  | d + 1, n, i1, h1, hd, hn, hi => by
    have hgc := gapsN_cast w h
    have h24 := gapsN_le w h
    obtain ⟨b, i2, h2, e1, b0, b1, hi2⟩ := spec_Below_eq hl hi h1 (n := gapsOf w h) (by omega) (by omega)
    obtain ⟨x, rfl⟩ := Int.eq_ofNat_of_zero_le b0
    have hx : x < gapsN w h := by omega
    have hs := open_small hn
    have h2x : 2 ^ x < 2 ^ gapsN w h := Nat.pow_lt_pow_right (by decide) hx
    have hx24 : 2 ^ x ≤ 2 ^ 24 := Nat.pow_le_pow_right (by decide) (by omega)
    have hxor : n ^^^ 2 ^ x < 2 ^ gapsN w h := Nat.xor_lt_two_pow hn h2x
    obtain ⟨m, i3, h3, hm, hi3, ev⟩ := drawy_l0 hg hl h0 d (n ^^^ 2 ^ x) i2 h2 (by omega) hxor hi2
    refine ⟨m, i3, h3, hm, hi3, Ev.step (fun _ => spec_l03Maze.l0.eq_2 ..) (Ev.tt (by omega) (Ev.bnd0 e1 (Ev.tt (by omega) ?_)))⟩
    rw [shl_pow' (by omega), bits_xor (by omega) (by omega), wrap64_id (by omega) (by omega), show ((d + 1 : Nat) : Int) - 1 - 1 = (d : Int) - 1 by omega]
    exact ev
theorem spec_DrawWalk_ev {l : List Int} (hl : l.length ≤ 1048576) : ∃ (w h : Int) (n c : Nat) (way L : List Int), gridOk w h = true ∧ n < 2 ^ gapsN w h ∧ c < cellsN w h ∧ way.length ≤ 400 ∧ wk (stepI w h n) c way = some L ∧ Ev (fun k => spec_DrawWalk.f k l) (w, h, (n : Int), (c : Int), way) := by
  obtain ⟨h', e1⟩ := spec_New_ev hl
  obtain ⟨w, h, i2, h2, e2, hg, hi2⟩ := spec_Grid_eq hl (i := 0) (by omega) h'
  obtain ⟨o', i3, h3, hi3, ho, hp, e3⟩ := spec_Tree_ev2 (xs := l) (i1 := i2) (h1 := h2) hg hl hi2
  have hj : ∀ (i4 h4 : Int), Ev (fun k => spec_l03Maze.j0 k (gapsOf w h) false l i4 h4 w h o') (w, h, (o' : Int), i4, h4) := fun i4 h4 => Ev.step (fun _ => spec_l03Maze.j0.eq_2 ..) (Ev.ff (by decide) (Ev.ret rfl))
  have key : ∃ (m : Nat) (i4 h4 : Int), m < 2 ^ gapsN w h ∧ 0 ≤ i4 ∧ Ev (fun k => spec_l03Maze.f k l 0 h') (w, h, (m : Int), i4, h4) := by
    unfold spec_l03Maze.f
    by_cases h0 : gapsOf w h > 0
    · obtain ⟨b, i4, h4, f1, b0, b1, hi4⟩ := spec_Below_eq hl hi3 h3 (n := 2) (by omega) (by omega)
      have hon : spec_l01Once.f l i3 h3 2 = some (b == 0, i4, h4) := by
        unfold spec_l01Once.f
        rw [f1]; rfl
      cases hb : (b == 0)
      · refine ⟨o', i4, h4, ho, hi4, Ev.bnd0 e2 (Ev.bind e3 (Ev.bnd0 (spec_CountGaps_eq w h) (Ev.tt h0 (Ev.bnd0 hon ?_))))⟩
        rw [hb]
        exact hj i4 h4
      · obtain ⟨c, i5, h5, f2, c0, c1, hi5⟩ := spec_Below_eq hl hi4 h4 (n := 4) (by omega) (by omega)
        obtain ⟨c', rfl⟩ := Int.eq_ofNat_of_zero_le c0
        obtain ⟨m, i6, h6, hm, hi6, ev⟩ := drawy_l0 (xs := l) hg hl h0 (c' + 1) o' i5 h5 (by omega) ho hi5
        refine ⟨m, i6, h6, hm, hi6, Ev.bnd0 e2 (Ev.bind e3 (Ev.bnd0 (spec_CountGaps_eq w h) (Ev.tt h0 (Ev.bnd0 hon ?_))))⟩
        rw [hb]
        refine Ev.step (fun _ => spec_l03Maze.j0.eq_2 ..) (Ev.tt rfl (Ev.bnd0 f2 ?_))
        rw [show ((c' + 1 : Nat) : Int) - 1 = (c' : Int) by omega] at ev
        exact ev
    · exact ⟨o', i3, h3, ho, hi3, Ev.bnd0 e2 (Ev.bind e3 (Ev.bnd0 (spec_CountGaps_eq w h) (Ev.ff h0 (hj i3 h3))))⟩
  obtain ⟨m, i4, h4, hm, hi4, ev⟩ := key
  have hV := cells_pos hg
  have h16 := cellsN_le w h
  have hVc := cellsN_cast w h
  obtain ⟨b, i5, h5, e5, b0, b1, hi5⟩ := spec_Below_eq hl hi4 h4 (n := cellsOf w h) (by omega) (by omega)
  obtain ⟨c, rfl⟩ := Int.eq_ofNat_of_zero_le b0
  obtain ⟨N, i6, h6, e6, n0, n1, hi6⟩ := spec_Below_eq hl hi5 h5 (n := 12) (by omega) (by omega)
  obtain ⟨N, rfl⟩ := Int.eq_ofNat_of_zero_le n0
  obtain ⟨way, L, i7, h7, w1, w2, w3, ew⟩ := walk6_l0 (xs := l) hg hm hl (N := N) (by omega) N 0 (c : Int) [] i6 h6 (by omega) (by simp) hi6
  refine ⟨w, h, m, c, way, L, hg, hm, by omega, by omega, w3, ?_⟩
  have hW : Ev (fun k => spec_l06Walk.f k l i5 h5 w h m c) (way, i7, h7) := by
    unfold spec_l06Walk.f
    exact Ev.bnd0 e6 (Ev.eq ew (by simp))
  unfold spec_DrawWalk.f
  exact Ev.bind e1 (Ev.bind ev (Ev.bnd0 (spec_CountCells_eq w h) (Ev.bnd0 e5 (Ev.bind hW (Ev.ret rfl)))))
end Go.Proofs.Ytcajhmldbkfhiaa.P
namespace Go.Proofs.Ytcajhmldbkfhiaa.P
open Go.RowKit Go.Proofs.YtcajhmldbkfhiaaW.PrintWords
set_option linter.unusedVariables false
set_option linter.unusedSimpArgs false

/-- One number more. -/
def eraseStep (out : List Int) (x : Int) : List Int := if x ∈ out then out.take (out.idxOf x + 1) else out ++ [x]
def erase (l : List Int) : List Int := l.foldl eraseStep []

/-! The program -/
theorem impl_erase_l0 (l : List Int) (hl : l.length ≤ 1048576) : ∀ (d i : Nat) (out : List Int), l.length - i = d → i ≤ l.length → out.length ≤ i →
    Ev (fun k => impl_EraseLoops.l0 k out l l.length i) ((l.drop i).foldl eraseStep out)
  | 0, i, out, hd, hi, ho => by
    refine Ev.step (fun _ => impl_EraseLoops.l0.eq_2 ..) ?_
    refine Ev.ff (by omega) (Ev.ret ?_)
    rw [List.drop_eq_nil_of_le (by omega)]
    rfl
  | d + 1, i, out, hd, hi, ho => by
    refine Ev.step (fun _ => impl_EraseLoops.l0.eq_2 ..) ?_
    refine Ev.tt (by omega) (Ev.tt (by omega) (Ev.tt (by omega) ?_))
    refine Ev.bind (index_ev out (rd l i) (by omega)) ?_
    rw [List.drop_eq_getElem_cons (show i < l.length by omega), List.foldl_cons, rd_get (show i < l.length by omega)]
    unfold eraseStep
    by_cases hm : l[i] ∈ out
    · rw [if_pos hm, if_pos hm]
      have hlt := List.idxOf_lt_length_of_mem hm
      rw [wsucc (by omega), wsucc (by omega)]
      refine Ev.tt (by omega) (Ev.tt (by omega) (Ev.tt (by omega) ?_))
      simp only [Int.toNat_natCast]
      exact impl_erase_l0 l hl d (i + 1) _ (by omega) (by omega) (by rw [List.length_take]; omega)
    · rw [if_neg hm, if_neg hm, wsucc (by omega)]
      refine Ev.ff (by omega) (Ev.tt (by omega) ?_)
      exact impl_erase_l0 l hl d (i + 1) _ (by omega) (by omega) (by rw [List.length_append]; simp; omega)
theorem impl_erase_ev (l : List Int) (hl : l.length ≤ 1048576) : Ev (fun k => impl_EraseLoops.f k l) (erase l) := by
  unfold impl_EraseLoops.f
  exact impl_erase_l0 l hl l.length 0 [] (by omega) (by omega) (by simp)

/-! The reference: the last place, which is the first one where no number stands twice -/
theorem erase_nodup {out : List Int} (h : out.Nodup) (x : Int) : (eraseStep out x).Nodup := by
  unfold eraseStep
  split
  · exact h.sublist (List.take_sublist _ _)
  · rename_i hx
    rw [List.nodup_append]
    refine ⟨h, by simp, fun a ha b hb => ?_⟩
    simp at hb
    subst hb
    rintro rfl
    exact hx ha
theorem nodup_idx {l : List Int} (h : l.Nodup) {i : Nat} (hi : i < l.length) : l.idxOf l[i] = i := by
  refine idxOf_is hi rfl fun j hj e => ?_
  have := List.pairwise_iff_getElem.1 h j i (by omega) hi hj
  exact this e
theorem eraseStep_len (out : List Int) (x : Int) : (eraseStep out x).length ≤ out.length + 1 := by
  unfold eraseStep
  split
  · rw [List.length_take]; omega
  · simp
theorem erase_len_from (l : List Int) : ∀ out : List Int, (l.foldl eraseStep out).length ≤ out.length + l.length := by
  induction l with
  | nil => intro out; simp
  | cons x l ih =>
    intro out
    rw [List.foldl_cons]
    have h1 := ih (eraseStep out x)
    have h2 := eraseStep_len out x
    simp only [List.length_cons]
    omega
theorem erase_len (l : List Int) : (erase l).length ≤ l.length := by
  have := erase_len_from l []
  simpa [erase] using this
end Go.Proofs.Ytcajhmldbkfhiaa.P
namespace Go.Proofs.Ytcajhmldbkfhiaa.P
open Go.RowKit Go.Proofs.YtcajhmldbkfhiaaW.PrintWords
set_option linter.unusedVariables false
set_option linter.unusedSimpArgs false

def nbFits (W H c d : Nat) : Bool := decide (nbI W H c d < 0) || (fitsB W H c (nbI W H c d) && decide (dirOf W H c (nbI W H c d) = d))
theorem nbFits_all : (List.range 5).all (fun W => (List.range 5).all fun H => (List.range 16).all fun c => (List.range 4).all fun d => nbFits W H c d) = true := by decide +kernel
theorem nb_fits {w h c d : Int} (hn : 0 ≤ nbI w h c d) : fitsB w h c (nbI w h c d) = true ∧ ((dirOf w h c (nbI w h c d) : Nat) : Int) = d := by
  obtain ⟨hd, h0, h1⟩ := nb_dir hn
  obtain ⟨hg, _⟩ := cellsOf_valid h0 h1
  have hr := cellsOf_range w h
  obtain ⟨W, H, rfl, rfl, _, w5, _, h5⟩ := grid_nat hg
  obtain ⟨C, rfl⟩ := Int.eq_ofNat_of_zero_le h0
  obtain ⟨D, rfl⟩ := Int.eq_ofNat_of_zero_le (show 0 ≤ d by omega)
  have := List.all_eq_true.1 (List.all_eq_true.1 (List.all_eq_true.1 (List.all_eq_true.1 nbFits_all W (List.mem_range.2 w5)) H (List.mem_range.2 h5)) C (List.mem_range.2 (by omega))) D (List.mem_range.2 (by omega))
  unfold nbFits at this
  simp only [Bool.or_eq_true, Bool.and_eq_true, decide_eq_true_eq] at this
  rcases this with h | ⟨h, e⟩
  · omega
  · exact ⟨h, by rw [e]⟩
/-- A step leads from a to b. -/
def Lk (w h : Int) (n : Nat) (a b : Int) : Prop := ∃ d : Int, stepI w h n a d = b ∧ 0 ≤ b
theorem Lk_facts {w h : Int} {n : Nat} {a b : Int} (hl : Lk w h n a b) : fitsB w h a b = true ∧ stepI w h n a (dirOf w h a b) = b ∧ ∀ d : Nat, d < 4 → stepI w h n a d = b → d = dirOf w h a b := by
  obtain ⟨d, hd, hb⟩ := hl
  have hnb : nbI w h a d = b := by
    unfold stepI at hd
    split at hd
    · exact hd
    · omega
  obtain ⟨f1, f2⟩ := nb_fits (w := w) (h := h) (c := a) (d := d) (by omega)
  rw [hnb] at f1 f2
  refine ⟨f1, by rw [f2]; exact hd, fun d' h4 hd' => ?_⟩
  refine (fits_iff f1).2.2.2.1 d' h4 ?_
  unfold stepI at hd'
  split at hd'
  · exact hd'
  · omega
def Ch (w h : Int) (n : Nat) (l : List Int) : Prop := ∀ i : Nat, (hi : i + 1 < l.length) → Lk w h n l[i] l[i + 1]
theorem erase_Ch {w h : Int} {n : Nat} : ∀ (way : List Int) (c : Int) (out l : List Int), wk (stepI w h n) c way = some l → Ch w h n out → out.getLast? = some c → Ch w h n (l.foldl eraseStep out)
  | [], c, out, l, hk, hc, hl => by cases hk; exact hc
  | d :: ds, c, out, l, hk, hc, hl => by
    unfold wk at hk
    by_cases e1 : stepI w h n c d < 0
    · rw [if_pos e1] at hk; cases hk
    · rw [if_neg e1] at hk
      obtain ⟨l', h', rfl⟩ := Option.map_eq_some_iff.1 hk
      rw [List.foldl_cons]
      refine erase_Ch ds (stepI w h n c d) (eraseStep out (stepI w h n c d)) l' h' ?_ ?_
      · unfold eraseStep
        split
        · intro i hi
          rw [List.length_take] at hi
          rw [List.getElem_take, List.getElem_take]
          exact hc i (by omega)
        · intro i hi
          rw [List.length_append, List.length_singleton] at hi
          by_cases e : i + 1 < out.length
          · rw [List.getElem_append_left (by omega), List.getElem_append_left e]
            exact hc i e
          · have hne : out ≠ [] := by rintro rfl; simp at hl
            have h1 : i + 1 = out.length := by omega
            rw [List.getElem_append_left (by omega), List.getElem_append_right (by omega)]
            have h2 : out[i] = c := by
              rw [List.getLast?_eq_getElem?, List.getElem?_eq_getElem (by omega)] at hl
              have := Option.some.inj hl
              simpa [show out.length - 1 = i by omega] using this
            rw [h2]
            refine ⟨d, ?_, ?_⟩
            · simp
            · simp; omega
      · unfold eraseStep
        split
        · rename_i hm
          have hlt := List.idxOf_lt_length_of_mem hm
          rw [List.getLast?_eq_getElem?, List.length_take, Nat.min_eq_left (by omega), Nat.add_sub_cancel, List.getElem?_take_of_lt (by omega), List.getElem?_eq_getElem hlt, List.getElem_idxOf hlt]
        · simp
theorem erase_pos : ∀ (l out : List Int), out ≠ [] → l.foldl eraseStep out ≠ []
  | [], out, h => h
  | x :: l, out, h => by
    rw [List.foldl_cons]
    refine erase_pos l _ ?_
    unfold eraseStep
    split
    · intro e
      have hlen := congrArg List.length e
      rw [List.length_take, List.length_nil] at hlen
      have : out.length ≠ 0 := fun e2 => h (List.length_eq_zero_iff.1 e2)
      omega
    · simp
section
variable {w h : Int} {n : Nat}
/-- The directions from one cell to the next. -/
def dirs (w h : Int) (E : List Int) : Nat → Nat → List Int
  | 0, _ => []
  | e + 1, i => ((dirOf w h (rd E ((i : Int) - 1)) (rd E (i : Int)) : Nat) : Int) :: dirs w h E e (i + 1)
theorem dirs_len (E : List Int) : ∀ e i, (dirs w h E e i).length = e
  | 0, _ => rfl
  | e + 1, i => by unfold dirs; rw [List.length_cons, dirs_len E e (i + 1)]
theorem Ch_rd {E : List Int} (hc : Ch w h n E) {i : Nat} (h0 : 1 ≤ i) (h1 : i < E.length) : Lk w h n (rd E ((i : Int) - 1)) (rd E (i : Int)) := by
  obtain ⟨j, rfl⟩ : ∃ j, i = j + 1 := ⟨i - 1, by omega⟩
  rw [show ((j + 1 : Nat) : Int) - 1 = (j : Int) by omega, rd_get (by omega), rd_get h1]
  exact hc j h1
theorem impl_EWay_l1 (hg : gridOk w h = true) (hn : n < 2 ^ gapsN w h) {E : List Int} (hE : E.length ≤ 401) (hc : Ch w h n E) {i : Nat} (h0 : 1 ≤ i) (h1 : i < E.length) {out : List Int} (ho : out.length ≤ 1000) {r : List Int × Bool}
    (hk : Ev (fun k => impl_EraseWay.l0 k E (out ++ [((dirOf w h (rd E ((i : Int) - 1)) (rd E (i : Int)) : Nat) : Int)]) ((i + 1 : Nat) : Int) w h n) r) : ∀ e d : Nat, 4 - d = e → d ≤ 4 →
    Ev (fun k => impl_EraseWay.l1 k E (if d ≤ dirOf w h (rd E ((i : Int) - 1)) (rd E (i : Int)) then out else out ++ [((dirOf w h (rd E ((i : Int) - 1)) (rd E (i : Int)) : Nat) : Int)]) i d w h n) r
  | 0, d, he, hd => by
    have hD := dirOf_lt w h (rd E ((i : Int) - 1)) (rd E (i : Int))
    refine Ev.step (fun _ => impl_EraseWay.l1.eq_2 ..) (Ev.ff (by omega) ?_)
    rw [wsucc (by omega), if_neg (by omega)]
    exact hk
  | e + 1, d, he, hd => by
    obtain ⟨f1, f2, f3⟩ := Lk_facts (Ch_rd hc h0 h1)
    have ih := impl_EWay_l1 hg hn hE hc h0 h1 ho hk e (d + 1) (by omega) (by omega)
    refine Ev.step (fun _ => impl_EraseWay.l1.eq_2 ..) (Ev.tt (by omega) ?_)
    rw [wrap64_id (x := (i : Int) - 1) (by omega) (by omega)]
    refine Ev.tt (by omega) (Ev.tt (by omega) (Ev.bind (impl_Step_ev hg hn _ _) (Ev.tt (by omega) (Ev.tt (by omega) ?_))))
    rw [wsucc (by omega)]
    refine Ev.ite (fun e1 => ?_) (fun e1 => ?_)
    · obtain rfl := f3 d (by omega) e1
      rw [if_neg (by omega)] at ih
      rw [if_pos (Nat.le_refl _)]
      exact Ev.tt (by omega) ih
    · have hne : d ≠ dirOf w h (rd E ((i : Int) - 1)) (rd E (i : Int)) := fun e2 => e1 (by rw [e2]; exact f2)
      by_cases hle : d ≤ dirOf w h (rd E ((i : Int) - 1)) (rd E (i : Int))
      · rw [if_pos (by omega)] at ih
        rw [if_pos hle]
        exact ih
      · rw [if_neg (by omega)] at ih
        rw [if_neg hle]
        exact ih
theorem impl_EWay_l0 (hg : gridOk w h = true) (hn : n < 2 ^ gapsN w h) {E : List Int} (hE : E.length ≤ 401) (hc : Ch w h n E) : ∀ (e i : Nat) (out : List Int), E.length - i = e → 1 ≤ i → out.length + 1 ≤ i →
    Ev (fun k => impl_EraseWay.l0 k E out i w h n) (out ++ dirs w h E e i, true)
  | 0, i, out, he, h0, ho => by
    refine Ev.step (fun _ => impl_EraseWay.l0.eq_2 ..) (Ev.ff (by omega) (Ev.ret ?_))
    simp [dirs]
  | e + 1, i, out, he, h0, ho => by
    refine Ev.step (fun _ => impl_EraseWay.l0.eq_2 ..) (Ev.tt (by omega) ?_)
    have ih := impl_EWay_l0 hg hn hE hc e (i + 1) (out ++ [((dirOf w h (rd E ((i : Int) - 1)) (rd E (i : Int)) : Nat) : Int)]) (by omega) (by omega) (by simp; omega)
    have := impl_EWay_l1 hg hn hE hc h0 (by omega) (out := out) (by omega) ih 4 0 rfl (by omega)
    rw [if_pos (Nat.zero_le _)] at this
    refine Ev.eq this ?_
    simp [dirs]
end
end Go.Proofs.Ytcajhmldbkfhiaa.P
namespace Go.Proofs.Ytcajhmldbkfhiaa.P
open Go.RowKit Go.Proofs.YtcajhmldbkfhiaaW.PrintWords
set_option linter.unusedVariables false
set_option linter.unusedSimpArgs false

/-- The first k rows and columns, bordered by the row i and the column j. -/
def bd (A : Nat → Nat → Int) (k i j : Nat) : Nat → Nat → Int := fun r c => A (if r < k then r else i) (if c < k then c else j)
def mnB (A : Nat → Nat → Int) (k i j : Nat) : Int := dt (k + 1) (bd A k i j)
theorem mn_zero (A : Nat → Nat → Int) (i j : Nat) : mnB A 0 i j = A i j := by
  simp [mnB, dt, sumTo, bd, sgn]
theorem mn_diag (A : Nat → Nat → Int) (k : Nat) : mnB A k k k = dt (k + 1) A := by
  refine dt_congr fun r c hr hc => ?_
  unfold bd
  rw [show (if r < k then r else k) = r by split <;> omega, show (if c < k then c else k) = c by split <;> omega]
theorem mn_row (A : Nat → Nat → Int) (k i : Nat) : ∃ f : Nat → Int, ∀ j, mnB A k i j = dt k A * A i j + sumTo k (fun l => f l * A l j) := by
  refine ⟨fun l => sgn (k - l) * dt k (er l (bd A k i 0)), fun j => ?_⟩
  unfold mnB
  simp only [dt, sumTo]
  rw [Int.add_comm]
  congr 1
  · rw [Nat.sub_self, show bd A k i j k k = A i j by simp [bd], show dt k (er k (bd A k i j)) = dt k A from dt_congr fun r c hr hc => by simp [er, bd, hr, hc]]
    simp [sgn, Int.mul_comm]
  · refine sumTo_congr fun l hl => ?_
    rw [show bd A k i j l k = A l j by simp [bd, hl], show dt k (er l (bd A k i j)) = dt k (er l (bd A k i 0)) from dt_congr fun r c hr hc => by
      by_cases h : r < l <;> simp [er, bd, hc, h]]
    grind
theorem mn_col {A : Nat → Nat → Int} {k i j : Nat} (h : j < k) : mnB A k i j = 0 := by
  unfold mnB
  rw [← dt_tr]
  refine dt_eq _ (i := j) (j := k) (by omega) (by omega) (by omega) fun c => ?_
  simp [tr, bd]
theorem dt_comb {r : Nat} (A : Nat → Nat → Int) {i : Nat} (hi : i < r) (p : Int) (f : Nat → Int) : ∀ m, m ≤ i → dt r (rp A i (fun x => p * A i x + sumTo m (fun l => f l * A l x))) = p * dt r A
  | 0, _ => by
    have h := dt_lin A hi p 0 (A i) (A i)
    rw [rp_self] at h
    rw [show (fun x => p * A i x + sumTo 0 (fun l => f l * A l x)) = fun x => p * A i x + 0 * A i x by funext x; simp [sumTo], h]
    omega
  | m + 1, hm => by
    have h := dt_lin A hi 1 (f m) (fun x => p * A i x + sumTo m (fun l => f l * A l x)) (A m)
    rw [dt_comb A hi p f m (by omega), dt_eq (rp A i (A m)) (i := i) (j := m) (by omega) hi (by omega) (fun c => by rw [rp_same, rp_ne _ (by omega)])] at h
    rw [show (fun x => p * A i x + sumTo (m + 1) (fun l => f l * A l x)) = fun x => 1 * (p * A i x + sumTo m (fun l => f l * A l x)) + f m * A m x by
      funext x; simp only [sumTo]; omega, h]
    omega
theorem syl (A : Nat → Nat → Int) (k i j : Nat) (hp : dt k A ≠ 0) : dt k A * mnB A (k + 1) i j = mnB A k k k * mnB A k i j - mnB A k i k * mnB A k k j := by
  obtain ⟨f, hf⟩ := mn_row A k k
  obtain ⟨g, hg⟩ := mn_row A k i
  have hM : ∀ l, l ≤ k → ∀ x, bd A (k + 1) i j l x = A l (if x < k + 1 then x else j) := fun l hl x => by unfold bd; rw [if_pos (show l < k + 1 by omega)]
  have hL : ∀ x, bd A (k + 1) i j (k + 1) x = A i (if x < k + 1 then x else j) := fun x => by unfold bd; rw [if_neg (show ¬ k + 1 < k + 1 by omega)]
  generalize hMM : bd A (k + 1) i j = M at *
  have e1 := dt_comb (r := k + 2) M (i := k) (by omega) (dt k A) f k (Nat.le_refl k)
  have e1' : (fun x => dt k A * M k x + sumTo k (fun l => f l * M l x)) = fun x => mnB A k k (if x < k + 1 then x else j) := by
    funext x
    rw [hf, hM k (Nat.le_refl k)]
    congr 1
    exact sumTo_congr fun l hl => by rw [hM l (by omega)]
  rw [e1'] at e1
  generalize hN : rp M k (fun x => mnB A k k (if x < k + 1 then x else j)) = N at *
  have e2 := dt_comb (r := k + 2) N (i := k + 1) (by omega) (dt k A) g k (by omega)
  have hNl : ∀ l, l ≠ k → N l = M l := fun l hl => by rw [← hN, rp_ne _ hl]
  have hNk : ∀ x, N k x = mnB A k k (if x < k + 1 then x else j) := fun x => by rw [← hN, rp_same]
  have e2' : (fun x => dt k A * N (k + 1) x + sumTo k (fun l => g l * N l x)) = fun x => mnB A k i (if x < k + 1 then x else j) := by
    funext x
    rw [hg, hNl (k + 1) (by omega), hL]
    congr 1
    exact sumTo_congr fun l hl => by rw [hNl l (by omega), hM l (by omega)]
  rw [e2'] at e2
  generalize hR : rp N (k + 1) (fun x => mnB A k i (if x < k + 1 then x else j)) = R at *
  have hRl : ∀ l, l < k → ∀ x, R l x = A l (if x < k + 1 then x else j) := fun l hl x => by rw [← hR, rp_ne _ (by omega), hNl l (by omega), hM l (by omega)]
  have hRk : ∀ x, R k x = mnB A k k (if x < k + 1 then x else j) := fun x => by rw [← hR, rp_ne _ (by omega), hNk]
  have hRi : ∀ x, R (k + 1) x = mnB A k i (if x < k + 1 then x else j) := fun x => by rw [← hR, rp_same]
  have e3 : dt (k + 2) R = dt k A * (mnB A k k k * mnB A k i j - mnB A k i k * mnB A k k j) := by
    rw [dt_lastvec]
    have z : sumTo (k + 2) (fun c => sgn (k + 1 - c) * R (k + 1) c * dt (k + 1) (ec c R)) = sumTo k (fun c => sgn (k + 1 - c) * R (k + 1) c * dt (k + 1) (ec c R)) + sgn (k + 1 - k) * R (k + 1) k * dt (k + 1) (ec k R) + sgn (k + 1 - (k + 1)) * R (k + 1) (k + 1) * dt (k + 1) (ec (k + 1) R) := rfl
    rw [z, sumTo_zero (fun c hc => by rw [hRi, if_pos (by omega), mn_col hc]; simp)]
    have u1 : dt (k + 1) (ec k R) = mnB A k k j * dt k A := by
      rw [dt_unit (ec k R) (p := k) (q := k) (Nat.le_refl k) (Nat.le_refl k) (fun c hc hne => by
        rw [show ec k R k c = R k c from if_pos (by omega), hRk, if_pos (by omega), mn_col (by omega)])]
      rw [show ec k R k k = R k (k + 1) from if_neg (by omega), hRk, if_neg (by omega), sgn_par (show (k + k) % 2 = 0 % 2 by omega)]
      rw [show dt k (er k (ec k (ec k R))) = dt k A from dt_congr fun r c hr hc => by
        rw [show er k (ec k (ec k R)) r c = R r c by simp [er, ec, hr, hc], hRl r hr, if_pos (by omega)]]
      simp [sgn]
    have u2 : dt (k + 1) (ec (k + 1) R) = mnB A k k k * dt k A := by
      rw [dt_unit (ec (k + 1) R) (p := k) (q := k) (Nat.le_refl k) (Nat.le_refl k) (fun c hc hne => by
        rw [show ec (k + 1) R k c = R k c from if_pos (by omega), hRk, if_pos (by omega), mn_col (by omega)])]
      rw [show ec (k + 1) R k k = R k k from if_pos (by omega), hRk, if_pos (by omega), sgn_par (show (k + k) % 2 = 0 % 2 by omega)]
      rw [show dt k (er k (ec k (ec (k + 1) R))) = dt k A from dt_congr fun r c hr hc => by
        rw [show er k (ec k (ec (k + 1) R)) r c = R r c by simp [er, ec, hr, hc, show c < k + 1 by omega], hRl r hr, if_pos (by omega)]]
      simp [sgn]
    rw [u1, u2, hRi, hRi, if_pos (by omega), if_neg (by omega), show k + 1 - k = 1 by omega, Nat.sub_self, show sgn 1 = -1 from rfl, show sgn 0 = 1 from rfl]
    grind
  rw [e3, e1] at e2
  have e4 : dt k A * (mnB A k k k * mnB A k i j - mnB A k i k * mnB A k k j) = dt k A * (dt k A * mnB A (k + 1) i j) := by
    rw [e2]; unfold mnB; rw [hMM]
  exact (Int.eq_of_mul_eq_mul_left hp e4).symm
/-- A sum from k on. -/
def sumFrom (k n : Nat) (f : Nat → Int) : Int := sumTo n fun j => if k ≤ j then f j else 0
/-- Off the diagonal no entry is positive, and no row sums to less than 0. -/
structure Heavy (n : Nat) (A : Nat → Nat → Int) : Prop where
  off : ∀ i j, i < n → j < n → i ≠ j → A i j ≤ 0
  row : ∀ i, i < n → 0 ≤ sumTo n (A i)
structure HeavyK (n : Nat) (A : Nat → Nat → Int) (k : Nat) : Prop where
  off : ∀ i j, k ≤ i → k ≤ j → i < n → j < n → i ≠ j → mnB A k i j ≤ 0
  row : ∀ i, k ≤ i → i < n → 0 ≤ sumFrom k n (mnB A k i)
  pos : 0 < dt k A
theorem sumTo_ge {n i : Nat} {f : Nat → Int} (hi : i < n) (h : ∀ j, j < n → j ≠ i → f j ≤ 0) : sumTo n f ≤ f i := by
  induction n with
  | zero => omega
  | succ n ih =>
    simp only [sumTo]
    by_cases e : i = n
    · subst e
      have : ∀ m, m ≤ i → sumTo m f ≤ 0 := by
        intro m
        induction m with
        | zero => intro _; exact Int.le_refl _
        | succ m ihm => intro hm; simp only [sumTo]; have := ihm (by omega); have := h m (by omega) (by omega); omega
      have := this i (Nat.le_refl i)
      omega
    · have := ih (by omega) (fun j hj hne => h j (by omega) hne)
      have := h n (by omega) (fun e' => e e'.symm)
      omega
theorem sumTo_ge2 {n i j : Nat} {f : Nat → Int} (hi : i < n) (hj : j < n) (hij : i ≠ j) (h : ∀ j, j < n → j ≠ i → f j ≤ 0) : sumTo n f ≤ f i + f j := by
  have h1 := sumTo_one (f := fun k => if k = j then 0 else f k) (g := f) hj (fun k hk hne => by simp [hne])
  have h2 := sumTo_ge (f := fun k => if k = j then 0 else f k) hi (fun k hk hne => by
    show (if k = j then 0 else f k) ≤ 0
    by_cases e : k = j
    · rw [if_pos e]; omega
    · rw [if_neg e]; exact h k hk hne)
  rw [if_pos rfl] at h1
  rw [if_neg hij] at h2
  omega
theorem HeavyK.diag {n k : Nat} {A : Nat → Nat → Int} (H : HeavyK n A k) {i : Nat} (h1 : k ≤ i) (h2 : i < n) : 0 ≤ mnB A k i i := by
  have := H.row i h1 h2
  unfold sumFrom at this
  have h3 := sumTo_ge (f := fun j => if k ≤ j then mnB A k i j else 0) h2 (fun j hj hne => by
    show (if k ≤ j then mnB A k i j else 0) ≤ 0
    split
    · rename_i hkj; exact H.off i j h1 hkj h2 hj hne.symm
    · omega)
  simp only [h1, if_true] at h3
  omega
theorem HeavyK.abs {n k : Nat} {A : Nat → Nat → Int} (H : HeavyK n A k) {i j : Nat} (h1 : k ≤ i) (h2 : i < n) (h3 : k ≤ j) (h4 : j < n) (hij : i ≠ j) : -mnB A k i i ≤ mnB A k i j := by
  have := H.row i h1 h2
  unfold sumFrom at this
  have h5 := sumTo_ge2 (f := fun j => if k ≤ j then mnB A k i j else 0) h2 h4 hij (fun j hj hne => by
    show (if k ≤ j then mnB A k i j else 0) ≤ 0
    split
    · rename_i hkj; exact H.off i j h1 hkj h2 hj hne.symm
    · omega)
  simp only [h1, h3, if_true] at h5
  omega
theorem HeavyK.start {n : Nat} {A : Nat → Nat → Int} (H : Heavy n A) : HeavyK n A 0 where
  off := fun i j _ _ hi hj hij => by rw [mn_zero]; exact H.off i j hi hj hij
  row := fun i _ hi => by
    unfold sumFrom
    simp only [mn_zero, Nat.zero_le, if_true]
    exact H.row i hi
  pos := by simp [dt]
theorem HeavyK.next {n k : Nat} {A : Nat → Nat → Int} (H : HeavyK n A k) (hk : k < n) (hp : mnB A k k k ≠ 0) : HeavyK n A (k + 1) := by
  have hd := H.diag (Nat.le_refl k) hk
  have hpos := H.pos
  have S := fun i j => syl A k i j (by omega)
  refine { off := fun i j hi hj hin hjn hij => ?_, row := fun i hi hin => ?_, pos := by rw [← mn_diag]; omega }
  · have h1 := H.off i j (by omega) (by omega) hin hjn hij
    have h2 := H.off i k (by omega) (by omega) hin hk (by omega)
    have h3 := H.off k j (by omega) (by omega) hk hjn (by omega)
    have e := S i j
    have a1 : mnB A k k k * mnB A k i j ≤ 0 := Int.mul_nonpos_of_nonneg_of_nonpos hd h1
    have a2 : 0 ≤ mnB A k i k * mnB A k k j := Int.mul_nonneg_of_nonpos_of_nonpos h2 h3
    rcases Int.lt_or_le 0 (mnB A (k + 1) i j) with hc | hc
    · have := Int.mul_pos hpos hc
      omega
    · exact hc
  · have e : dt k A * sumFrom (k + 1) n (mnB A (k + 1) i) = mnB A k k k * sumFrom k n (mnB A k i) - mnB A k i k * sumFrom k n (mnB A k k) := by
      unfold sumFrom
      rw [← sumTo_mul, ← sumTo_mul, ← sumTo_mul, Int.sub_eq_add_neg, ← sumTo_neg, ← sumTo_add]
      refine sumTo_congr fun j hj => ?_
      by_cases h1 : k + 1 ≤ j
      · rw [if_pos h1, if_pos (by omega), if_pos (by omega), S i j]; omega
      · rw [if_neg h1]
        by_cases h2 : k = j
        · subst h2
          rw [if_pos (Nat.le_refl _), if_pos (Nat.le_refl _), Int.mul_comm (mnB A k i k)]; omega
        · rw [if_neg (by omega), if_neg (by omega)]; omega
    have h1 := H.row i (by omega) hin
    have h2 := H.row k (Nat.le_refl k) hk
    have h3 := H.off i k (by omega) (by omega) hin hk (by omega)
    have a1 := Int.mul_nonneg hd h1
    have a2 : mnB A k i k * sumFrom k n (mnB A k k) ≤ 0 := Int.mul_nonpos_of_nonpos_of_nonneg h3 h2
    rcases Int.lt_or_le (sumFrom (k + 1) n (mnB A (k + 1) i)) 0 with hc | hc
    · have := Int.mul_neg_of_pos_of_neg hpos hc
      omega
    · exact hc
/-- An empty pivot: the determinant is 0. -/
theorem HeavyK.zero {n k : Nat} {A : Nat → Nat → Int} (H : HeavyK n A k) (hk : k < n) (hp : mnB A k k k = 0) : dt n A = 0 := by
  have hpos := H.pos
  have hz : ∀ j, j < n → mnB A k k j = 0 := by
    intro j hj
    by_cases h1 : j < k
    · exact mn_col h1
    · by_cases h2 : k = j
      · rw [← h2]; exact hp
      · have := H.off k j (Nat.le_refl k) (by omega) hk hj h2
        have := H.abs (Nat.le_refl k) hk (show k ≤ j by omega) hj h2
        omega
  obtain ⟨f, hf⟩ := mn_row A k k
  have h1 := dt_comb A hk (dt k A) f k (Nat.le_refl k)
  rw [dt_zero _ hk (fun c hc => by rw [rp_same, ← hf, hz c hc])] at h1
  rcases Int.mul_eq_zero.1 h1.symm with h | h
  · omega
  · exact h
/-- The diagonal bounds. -/
theorem HeavyK.step_le {n k : Nat} {A : Nat → Nat → Int} (H : HeavyK n A k) (hk : k < n) {i : Nat} (hi : k < i) (hin : i < n) : dt k A * mnB A (k + 1) i i ≤ dt (k + 1) A * mnB A k i i := by
  rw [syl A k i i (by have := H.pos; omega), ← mn_diag]
  have := Int.mul_nonneg_of_nonpos_of_nonpos (H.off i k (by omega) (by omega) hin hk (by omega)) (H.off k i (by omega) (by omega) hk hin (by omega))
  omega
/-- The product of the first k numbers of the diagonal. -/
def dprod (A : Nat → Nat → Int) : Nat → Int
  | 0 => 1
  | k + 1 => dprod A k * A k k
theorem Heavy.diag {n : Nat} {A : Nat → Nat → Int} (H : Heavy n A) {i : Nat} (hi : i < n) : 0 ≤ A i i := by
  have := H.row i hi
  have := sumTo_ge (f := A i) hi (fun j hj hne => H.off i j hi hj (Ne.symm hne))
  omega
/-- What is kept from step to step. -/
structure Stage (n : Nat) (A : Nat → Nat → Int) (k : Nat) : Prop extends HeavyK n A k where
  ple : dt k A ≤ dprod A k
  dle : ∀ i, k ≤ i → i < n → mnB A k i i ≤ dt k A * A i i
theorem Stage.start {n : Nat} {A : Nat → Nat → Int} (H : Heavy n A) : Stage n A 0 :=
  { HeavyK.start H with ple := by simp [dt, dprod], dle := fun i _ _ => by rw [mn_zero]; simp [dt] }
theorem Stage.next {n k : Nat} {A : Nat → Nat → Int} (H : Heavy n A) (K : Stage n A k) (hk : k < n) (hp : mnB A k k k ≠ 0) : Stage n A (k + 1) := by
  have N := K.toHeavyK.next hk hp
  have hpos := K.pos
  refine { N with ple := ?_, dle := fun i hi hin => ?_ }
  · have h1 := K.dle k (Nat.le_refl k) hk
    rw [mn_diag] at h1
    have h2 := Int.mul_le_mul_of_nonneg_right K.ple (H.diag hk)
    exact Int.le_trans h1 h2
  · have h1 := K.toHeavyK.step_le hk (show k < i by omega) hin
    have h2 := K.dle i (by omega) hin
    have h3 := Int.mul_le_mul_of_nonneg_left h2 (Int.le_of_lt N.pos)
    have h4 : dt k A * mnB A (k + 1) i i ≤ dt k A * (dt (k + 1) A * A i i) := by
      refine Int.le_trans h1 (Int.le_trans h3 (Int.le_of_eq ?_))
      rw [← Int.mul_assoc, ← Int.mul_assoc, Int.mul_comm (dt (k + 1) A)]
    exact Int.le_of_mul_le_mul_left h4 hpos
end Go.Proofs.Ytcajhmldbkfhiaa.P
namespace Go.Proofs.Ytcajhmldbkfhiaa.P
open Go.RowKit Go.Proofs.YtcajhmldbkfhiaaW.PrintWords
set_option linter.unusedVariables false
set_option linter.unusedSimpArgs false

section
variable {e : Nat → Nat × Nat} {V E : Nat}
/-- Below k = E - d all is decided, from k on nothing. -/
structure Dec (E d c b : Nat) : Prop where
  cl : c < 2 ^ E
  bl : b < 2 ^ E
  dis : ∀ i, c.testBit i = true → b.testBit i = false
  done : ∀ i, i < E - d → c.testBit i = false → b.testBit i = true
  todo : ∀ i, E - d ≤ i → c.testBit i = false ∧ b.testBit i = false
theorem Dec.start : Dec E E 0 0 := ⟨Nat.two_pow_pos E, Nat.two_pow_pos E, fun i h => by simp at h, fun i h => by omega, fun i _ => by simp⟩
theorem Dec.on {d c b : Nat} (h : Dec E (d + 1) c b) (hd : d + 1 ≤ E) : Dec E d (setB c (E - (d + 1)) true) b where
  cl := setB_lt true h.cl (by omega)
  bl := h.bl
  dis := fun i hi => by
    rw [testBit_setB] at hi
    split at hi
    · rename_i e1; rw [e1]; exact (h.todo _ (Nat.le_refl _)).2
    · exact h.dis i hi
  done := fun i hi hc => by
    rw [testBit_setB] at hc
    split at hc
    · cases hc
    · exact h.done i (by omega) hc
  todo := fun i hi => by
    rw [testBit_setB, if_neg (by omega)]
    exact h.todo i (by omega)
theorem Dec.off {d c b : Nat} (h : Dec E (d + 1) c b) (hd : d + 1 ≤ E) : Dec E d c (setB b (E - (d + 1)) true) where
  cl := h.cl
  bl := setB_lt true h.bl (by omega)
  dis := fun i hi => by
    rw [testBit_setB]
    split
    · rename_i e1; rw [e1, (h.todo _ (Nat.le_refl _)).1] at hi; cases hi
    · exact h.dis i hi
  done := fun i hi hc => by
    rw [testBit_setB]
    split
    · rfl
    · exact h.done i (by omega) hc
  todo := fun i hi => by
    rw [testBit_setB, if_neg (by omega)]
    exact h.todo i (by omega)
theorem Dec.und {d c b : Nat} (h : Dec E (d + 1) c b) : und c b (E - (d + 1)) = true := by
  unfold P.und
  rw [(h.todo _ (Nat.le_refl _)).1, (h.todo _ (Nat.le_refl _)).2]
  rfl
theorem Dec.split {d c b : Nat} (h : Dec E (d + 1) c b) (hd : d + 1 ≤ E) : trees e V E c b = trees e V E (setB c (E - (d + 1)) true) b + trees e V E c (setB b (E - (d + 1)) true) := trees_split (by omega) h.und
end
end Go.Proofs.Ytcajhmldbkfhiaa.P
namespace Go.Proofs.Ytcajhmldbkfhiaa.P
open Go.RowKit Go.Proofs.YtcajhmldbkfhiaaW.PrintWords
set_option linter.unusedVariables false
set_option linter.unusedSimpArgs false

section
variable {w h : Int}
theorem perfN_iff {n : Nat} : perfN w h n = true ↔ partsN w h n = 1 ∧ pop (gapsN w h) n + 1 = cellsN w h := perf_iff
theorem perf_forest {n : Nat} (hp : perfN w h n = true) : pop (gapsN w h) n + partsN w h n = cellsN w h := by rw [perfN_iff] at hp; omega
theorem perf_conn {n : Nat} (hg : gridOk w h = true) (hn : n < 2 ^ gapsN w h) (hp : perfN w h n = true) {x y : Nat} (hx : x < cellsN w h) (hy : y < cellsN w h) : Cn (ends w h) n x y := by
  have := cells_pos hg
  have hc := (parts_one hn (by omega)).1 (perfN_iff.1 hp).1
  exact (hc x hx).symm.trans (hc y hy)
/-- How many gaps of a are not of b. -/
def apart (w h : Int) (a b : Nat) : Nat := pop (gapsN w h) (andNot a b)
end
end Go.Proofs.Ytcajhmldbkfhiaa.P
namespace Go.Proofs.Ytcajhmldbkfhiaa.P
open Go.RowKit Go.Proofs.YtcajhmldbkfhiaaW.PrintWords
set_option linter.unusedVariables false
set_option linter.unusedSimpArgs false

theorem fold_nodup : ∀ (l out : List Int), out.Nodup → (l.foldl eraseStep out).Nodup
  | [], out, h => h
  | x :: l, out, h => by rw [List.foldl_cons]; exact fold_nodup l _ (erase_nodup h x)
theorem step_head {out : List Int} (x : Int) (h : out ≠ []) : (eraseStep out x).head? = out.head? := by
  unfold eraseStep
  cases out with
  | nil => exact absurd rfl h
  | cons a t =>
    split
    · simp
    · simp
theorem step_ne {out : List Int} (x : Int) (h : out ≠ []) : eraseStep out x ≠ [] := by
  intro e
  have := step_head x h
  rw [e] at this
  cases out with
  | nil => exact h rfl
  | cons a t => simp at this
theorem fold_head : ∀ (l out : List Int), out ≠ [] → (l.foldl eraseStep out).head? = out.head?
  | [], out, h => rfl
  | x :: l, out, h => by rw [List.foldl_cons, fold_head l _ (step_ne x h), step_head x h]
theorem step_last (out : List Int) (x : Int) : (eraseStep out x).getLast? = some x := by
  unfold eraseStep
  split
  · rename_i hm
    have hlt := List.idxOf_lt_length_of_mem hm
    rw [List.getLast?_eq_getElem?, List.length_take, Nat.min_eq_left (by omega), Nat.add_sub_cancel, List.getElem?_take_of_lt (by omega), List.getElem?_eq_getElem hlt, List.getElem_idxOf hlt]
  · simp
theorem fold_last : ∀ (l out : List Int) (c : Int), out.getLast? = some c → (l.foldl eraseStep out).getLast? = some (lastO c l)
  | [], out, c, h => by simpa [lastO] using h
  | x :: l, out, c, h => by rw [List.foldl_cons, fold_last l _ x (step_last out x), lastO_cons]
theorem fold_self : ∀ (l out : List Int), (out ++ l).Nodup → l.foldl eraseStep out = out ++ l
  | [], out, h => by simp
  | x :: l, out, h => by
    have hx : x ∉ out := by
      rw [List.nodup_append] at h
      exact fun q => h.2.2 x q x (by simp) rfl
    rw [List.foldl_cons]
    have e1 : eraseStep out x = out ++ [x] := by unfold eraseStep; rw [if_neg hx]
    rw [e1, fold_self l (out ++ [x]) (by simpa using h)]
    simp
theorem rd_last {l : List Int} {x : Int} (h : l.getLast? = some x) : 0 < l.length ∧ rd l ((l.length : Int) - 1) = x := by
  rw [List.getLast?_eq_getElem?] at h
  obtain ⟨h1, h2⟩ := List.getElem?_eq_some_iff.1 h
  refine ⟨by omega, ?_⟩
  rw [show ((l.length : Int) - 1) = ((l.length - 1 : Nat) : Int) by omega, rd_get h1, h2]
theorem step_in2 {w h c d : Int} {n : Nat} (h0 : 0 ≤ stepI w h n c d) : stepI w h n c d < cellsOf w h := by
  unfold stepI at *
  rcases step_facts w h c d with ⟨f1, f2⟩ | ⟨f1, f2, _⟩
  · rw [f1] at h0 ⊢
    split at h0 <;> omega
  · split
    · exact f2
    · omega
section
variable {w h : Int} {n : Nat} {E : List Int} (hg : gridOk w h = true) (hn : n < 2 ^ gapsN w h) (hc : Ch w h n E)
include hc in
theorem walk_dirs : ∀ (e i : Nat), 1 ≤ i → e + i = E.length → wk (stepI w h n) (rd E ((i : Int) - 1)) (dirs w h E e i) = some (E.drop i)
  | 0, i, h1, he => by
    unfold dirs
    rw [List.drop_eq_nil_of_le (by omega)]
    rfl
  | e + 1, i, h1, he => by
    have hl := Ch_rd hc h1 (by omega)
    obtain ⟨f1, f2, _⟩ := Lk_facts hl
    obtain ⟨d, hd, hb⟩ := hl
    have ih := walk_dirs e (i + 1) (by omega) (by omega)
    rw [show (((i + 1 : Nat) : Int) - 1) = (i : Int) by omega] at ih
    unfold dirs wk
    rw [f2, if_neg (by omega), ih, Option.map_some, List.drop_eq_getElem_cons (by omega : i < E.length), rd_get (by omega)]
/-- The cell in a place. -/
def qc (E : List Int) (t : Nat) : Nat := (rd E (t : Int)).toNat
variable (hr : ∀ t : Nat, t < E.length → 0 ≤ rd E (t : Int) ∧ rd E (t : Int) < cellsOf w h)
include hr in
theorem qc_facts {t : Nat} (ht : t < E.length) : rd E (t : Int) = (qc E t : Int) ∧ qc E t < cellsN w h := by
  have := hr t ht
  have := cellsN_cast w h
  unfold qc
  omega
include hc hr hn in
theorem qc_edge {t : Nat} (ht : t + 1 < E.length) : st w h n (qc E t) (dirOf w h (rd E (t : Int)) (rd E ((t + 1 : Nat) : Int))) = (qc E (t + 1) : Int) ∧ ∃ k, n.testBit k = true ∧ (ends w h k = (qc E t, qc E (t + 1)) ∨ ends w h k = (qc E (t + 1), qc E t)) := by
  obtain ⟨a1, a2⟩ := qc_facts hr (show t < E.length by omega)
  obtain ⟨b1, b2⟩ := qc_facts hr ht
  have hl := Ch_rd hc (show 1 ≤ t + 1 by omega) ht
  rw [show (((t + 1 : Nat) : Int) - 1) = (t : Int) by omega] at hl
  obtain ⟨f1, f2, _⟩ := Lk_facts hl
  have hs : st w h n (qc E t) (dirOf w h (rd E (t : Int)) (rd E ((t + 1 : Nat) : Int))) = (qc E (t + 1) : Int) := by
    unfold st
    rw [← a1, ← b1]
    exact f2
  exact ⟨hs, (net_grid hn).edge_of a2 (dirOf_lt ..) hs⟩
include hc hr hn in
/-- From a place to the end without the edge at a cell that is left behind. -/
theorem qc_conn {g x : Nat} (hgx : (ends w h g).1 = x ∨ (ends w h g).2 = x) : ∀ (e j : Nat), e + j + 1 = E.length → (∀ t, j ≤ t → t < E.length → qc E t ≠ x) → Cn (ends w h) (setB n g false) (qc E j) (qc E (E.length - 1))
  | 0, j, he, hx => by rw [show E.length - 1 = j by omega]; exact .refl _
  | e + 1, j, he, hx => by
    obtain ⟨_, k, hk, hk2⟩ := qc_edge hn hc hr (show j + 1 < E.length by omega)
    have ih := qc_conn hgx e (j + 1) (by omega) (fun t h1 h2 => hx t (by omega) h2)
    have hj := hx j (by omega) (by omega)
    have hj1 := hx (j + 1) (by omega) (by omega)
    have hkg : k ≠ g := by
      rintro rfl
      rcases hk2 with q | q <;> rw [q] at hgx <;> simp only at hgx <;> omega
    have hk' : (setB n g false).testBit k = true := by rw [setB_ne _ hkg]; exact hk
    rcases hk2 with q | q
    · have := Cn.edge (e := ends w h) hk'
      rw [q] at this
      exact this.trans ih
    · have := Cn.edge' (e := ends w h) hk'
      rw [q] at this
      exact this.trans ih
theorem nodup_inj {l : List Int} (h : l.Nodup) {i j : Nat} (hi : i < l.length) (hj : j < l.length) (e : l[i] = l[j]) : i = j := by
  have h1 := nodup_idx h hi
  have h2 := nodup_idx h hj
  rw [e] at h1
  omega
include hg hc hr hn in
theorem way_tree (hp : perfN w h n = true) (hnd : E.Nodup) (hE : 0 < E.length) : ∀ (e i : Nat), 1 ≤ i → e + i = E.length → dirs w h E e i = ints (wayD w h n (qc E (E.length - 1)) e (qc E (i - 1))) ∧ distN w h n (qc E (E.length - 1)) (qc E (i - 1)) = e
  | 0, i, h1, he => by
    obtain ⟨z1, z2⟩ := qc_facts hr (show E.length - 1 < E.length by omega)
    refine ⟨rfl, ?_⟩
    rw [show i - 1 = E.length - 1 by omega]
    exact (distN_dist hn z2).src0
  | e + 1, i, h1, he => by
    obtain ⟨j, rfl⟩ : ∃ j, i = j + 1 := ⟨i - 1, by omega⟩
    obtain ⟨z1, z2⟩ := qc_facts hr (show E.length - 1 < E.length by omega)
    obtain ⟨a1, a2⟩ := qc_facts hr (show j < E.length by omega)
    obtain ⟨b1, b2⟩ := qc_facts hr (show j + 1 < E.length by omega)
    obtain ⟨hs, g, hgt, hge⟩ := qc_edge hn hc hr (show j + 1 < E.length by omega)
    have ih := way_tree hp hnd hE e (j + 1 + 1) (by omega) (by omega)
    have hne : ∀ t, j + 1 ≤ t → t < E.length → qc E t ≠ qc E j := by
      intro t h1 h2 q
      obtain ⟨t1, _⟩ := qc_facts hr h2
      have := nodup_inj hnd h2 (show j < E.length by omega) (by rw [← rd_get h2, ← rd_get (show j < E.length by omega), t1, a1, q])
      omega
    have hend : (ends w h g).1 = qc E j ∨ (ends w h g).2 = qc E j := by rcases hge with q | q <;> rw [q] <;> simp
    have hcn := qc_conn hn hc hr hend e (j + 1) (by omega) hne
    have I := distN_dist hn z2
    have hT := tree_step (net_grid hn) I (gr_grid w h) hn (perf_forest hp) hgt hge hcn
    have h0 : 0 < distN w h n (qc E (E.length - 1)) (qc E j) := by
      have h1 := (distN_cn hn z2 (qc E j)).2 (perf_conn hg hn hp z2 a2)
      have h2 : distN w h n (qc E (E.length - 1)) (qc E j) ≠ 0 := by
        intro q
        have := I.zero _ q
        exact hne (E.length - 1) (by omega) (by omega) this.symm
      omega
    have hd := hT.2 h0
    simp only [Nat.add_sub_cancel] at ih ⊢
    obtain ⟨f1, f2, f3, _⟩ := near_facts hn z2 a2 h0
    have hnc := hT.1 (nearCell w h n (qc E (E.length - 1)) (qc E j)) (nearDir w h n (qc E (E.length - 1)) (qc E j)) (nearDir_lt ..) a2 f1 (by omega)
    have hl := Ch_rd hc (show 1 ≤ j + 1 by omega) (show j + 1 < E.length by omega)
    rw [show (((j + 1 : Nat) : Int) - 1) = (j : Int) by omega] at hl
    obtain ⟨_, _, f⟩ := Lk_facts hl
    have hdir := f (nearDir w h n (qc E (E.length - 1)) (qc E j)) (nearDir_lt ..) (by
      rw [a1, b1, ← hnc]
      exact f1)
    refine ⟨?_, by omega⟩
    unfold dirs wayD
    rw [hnc, ih.1, show (((j + 1 : Nat) : Int) - 1) = (j : Int) by omega, ← hdir]
    rfl
end
end Go.Proofs.Ytcajhmldbkfhiaa.P
namespace Go.Proofs.Ytcajhmldbkfhiaa.P
open Go.RowKit Go.Proofs.YtcajhmldbkfhiaaW.PrintWords Go.Proofs.Ytcajhmldbkfhiaa.Sup
set_option linter.unusedVariables false
set_option linter.unusedSimpArgs false

theorem simpleE (l : List Int) (hl : l.length ≤ 1048576) : impl_IsSimple.f l = some (decide l.Nodup) := by
  unfold impl_IsSimple.f impl_ordered.f
  rw [if_pos (by omega), Option.bind_some]
  congr 1
  by_cases h : l.Nodup
  · rw [decide_eq_true h, (ordF_nodup l).2 h]
    exact beq_iff_eq.2 rfl
  · rw [decide_eq_false h]
    refine beq_eq_false_iff_ne.2 fun hc => h ((ordF_nodup l).1 (by omega))
theorem same_l0 (l : List Int) (hl : l.length ≤ 1000000) : ∀ d i : Nat, i + d = l.length → Ev (fun k => laws_sameInts.l0 k l l i) true
  | 0, i, hd => Ev.step (fun _ => laws_sameInts.l0.eq_2 ..) (Ev.ff (by omega) (Ev.ret rfl))
  | d + 1, i, hd => by
    have ih := same_l0 l hl d (i + 1) (by omega)
    refine Ev.step (fun _ => laws_sameInts.l0.eq_2 ..) (Ev.tt (by omega) (Ev.tt (by omega) (Ev.tt (by omega) (Ev.tt rfl ?_))))
    rw [wsucc (by omega)]
    exact ih
theorem same_ev (l : List Int) (hl : l.length ≤ 1000000) : Ev (fun k => laws_sameInts.f k l l) true := by
  unfold laws_sameInts.f
  exact Ev.tt rfl (same_l0 l hl l.length 0 (by omega))
section
variable {w h : Int} {n : Nat} (hg : gridOk w h = true) (hn : n < 2 ^ gapsN w h)
theorem cellsN'_val {c : Int} {way L : List Int} (hc : isCellI w h c = true) (hw : way.length ≤ 400) (hk : wk (stepI w h n) c way = some L) : cellsN' w h n c way = c :: L := by
  unfold cellsN'
  rw [if_pos ⟨hc, hw⟩, hk]
theorem erase_cons (c : Int) (L : List Int) : erase (c :: L) = L.foldl eraseStep [c] := by simp [erase, eraseStep]
include hg hn in
theorem EraseWay_val {c : Int} {way L : List Int} (hc : isCellI w h c = true) (hw : way.length ≤ 400) (hk : wk (stepI w h n) c way = some L) : Ev (fun k => impl_EraseWay.f k w h n c way) (dirs w h (erase (c :: L)) ((erase (c :: L)).length - 1) 1, true) := by
  have hl := wk_len hk
  have hel := erase_len (c :: L)
  have hch : Ch w h n (erase (c :: L)) := by rw [erase_cons]; exact erase_Ch way c [c] L hk (fun i hi => absurd hi (by simp)) (by simp)
  have hp : 0 < (erase (c :: L)).length := by rw [erase_cons]; exact List.length_pos_iff.2 (erase_pos L [c] (by simp))
  simp only [List.length_cons] at hel
  unfold impl_EraseWay.f
  refine Ev.bind (impl_CellsOn_ev hg hn c way) ?_
  rw [cellsN'_val hc hw hk]
  refine Ev.ff (by simp) (Ev.bind (impl_erase_ev _ (by simp; omega)) ?_)
  have := impl_EWay_l0 hg hn (E := erase (c :: L)) (by omega) hch _ 1 [] rfl (by omega) (by simp)
  rwa [List.nil_append] at this
include hg hn in
theorem WalkWay_val {c : Int} {way L : List Int} (hc : isCellI w h c = true) (hw : way.length ≤ 400) (hk : wk (stepI w h n) c way = some L) : Ev (fun k => impl_WalkWay.f k w h n c way) (rd (c :: L) (((c :: L).length : Int) - 1), true) := by
  have hl := wk_len hk
  unfold impl_WalkWay.f
  refine Ev.bind (impl_CellsOn_ev hg hn c way) ?_
  rw [cellsN'_val hc hw hk, wrap64_id (by simp only [List.length_cons]; omega) (by simp only [List.length_cons]; omega)]
  exact Ev.ff (by simp) (Ev.tt (by simp only [List.length_cons]; omega) (Ev.tt (by omega) (Ev.ret rfl)))
theorem qc_reach {E : List Int} (hn : n < 2 ^ gapsN w h) (hc : Ch w h n E) (hr : ∀ t : Nat, t < E.length → 0 ≤ rd E (t : Int) ∧ rd E (t : Int) < cellsOf w h) : ∀ (e j : Nat), e + j + 1 = E.length → Cn (ends w h) n (qc E j) (qc E (E.length - 1))
  | 0, j, he => by rw [show E.length - 1 = j by omega]; exact .refl _
  | e + 1, j, he => by
    obtain ⟨_, k, hk, hk2⟩ := qc_edge hn hc hr (show j + 1 < E.length by omega)
    have ih := qc_reach hn hc hr e (j + 1) (by omega)
    rcases hk2 with q | q
    · have := Cn.edge (e := ends w h) hk
      rw [q] at this
      exact this.trans ih
    · have := Cn.edge' (e := ends w h) hk
      rw [q] at this
      exact this.trans ih
end
theorem FnErased_pure (l : List Int) (hy : l.length ≤ 140737488351232) (hz : ∀ x ∈ l, 0 ≤ x ∧ x ≤ 255) : ∃ k, laws_FnErased.f k l = some true := by
  refine Ev.rounds ?_
  unfold laws_FnErased.f
  refine Ev.bnd0 rfl (Ev.ite (fun _ => Ev.ret rfl) (fun hb => ?_))
  have hl : l.length ≤ 1048576 := by simp only [decide_eq_true_eq] at hb; omega
  obtain ⟨w, h, n, c, way, L, hg, hn, hc, hw, hk, ed⟩ := spec_DrawWalk_ev hl
  have hci := isCellI_nat hc
  have hll := wk_len hk
  have hel := erase_len ((c : Int) :: L)
  have hch : Ch w h n (erase ((c : Int) :: L)) := by rw [erase_cons]; exact erase_Ch way c [(c : Int)] L hk (fun i hi => absurd hi (by simp)) (by simp)
  have hnd : (erase ((c : Int) :: L)).Nodup := by rw [erase_cons]; exact fold_nodup L [(c : Int)] (by simp)
  have hhead : (erase ((c : Int) :: L)).head? = some (c : Int) := by rw [erase_cons, fold_head L [(c : Int)] (by simp)]; rfl
  have hlast : (erase ((c : Int) :: L)).getLast? = some (lastO c L) := by rw [erase_cons]; exact fold_last L [(c : Int)] c rfl
  have hlastl : ((c : Int) :: L).getLast? = some (lastO c L) := List.getLast?_eq_some_getLast (by simp)
  have hself : erase (erase ((c : Int) :: L)) = erase ((c : Int) :: L) := by
    have := fold_self (erase ((c : Int) :: L)) [] (by simpa using hnd)
    rw [List.nil_append] at this
    exact this
  have hEW := EraseWay_val hg hn hci hw hk
  simp only [List.length_cons] at hel
  obtain ⟨E, hE⟩ : ∃ E, erase ((c : Int) :: L) = E := ⟨_, rfl⟩
  have hEe := impl_erase_ev ((c : Int) :: L) (by simp; omega)
  have hEc : Ev (fun k => impl_CountErased.f k ((c : Int) :: L)) (wrap64 ((((c : Int) :: L).length : Int) - ((erase ((c : Int) :: L)).length : Int))) := by
    unfold impl_CountErased.f
    exact Ev.bind hEe (Ev.ret rfl)
  rw [hE] at hch hnd hhead hlast hself hEW hel hEe hEc
  obtain ⟨hp, hlE⟩ := rd_last hlast
  obtain ⟨hpl, hlL⟩ := rd_last hlastl
  have h0 : rd E 0 = (c : Int) := by
    cases E with
    | nil => simp at hp
    | cons a t => simp at hhead; subst hhead; rfl
  have hr : ∀ t : Nat, t < E.length → 0 ≤ rd E (t : Int) ∧ rd E (t : Int) < cellsOf w h := by
    intro t ht
    cases t with
    | zero =>
      have hVc := cellsN_cast w h
      rw [show ((0 : Nat) : Int) = 0 from rfl, h0]
      omega
    | succ t =>
      obtain ⟨d, hd, hb2⟩ := Ch_rd hch (show 1 ≤ t + 1 by omega) ht
      refine ⟨hb2, ?_⟩
      rw [← hd] at hb2 ⊢
      exact step_in2 hb2
  have hq0 : qc E 0 = c := by unfold qc; rw [show ((0 : Nat) : Int) = 0 from rfl, h0]; omega
  obtain ⟨z1, z2⟩ := qc_facts hr (show E.length - 1 < E.length by omega)
  have hzl : lastO c L = (qc E (E.length - 1) : Int) := by
    rw [← z1, ← hlE]
    congr 1
    omega
  have hreach := qc_reach hn hch hr (E.length - 1) 0 (by omega)
  rw [hq0] at hreach
  have hD := (distN_cn hn z2 c).2 (hreach.symm)
  obtain ⟨m, hm⟩ := Int.eq_ofNat_of_zero_le hD
  have hWB := spec_WayBetween_ev hg hn z2 hc hm
  have hwd := walk_dirs hch (E.length - 1) 1 (by omega) (by omega)
  rw [show (((1 : Nat) : Int) - 1) = 0 from rfl, h0] at hwd
  have hEd : (c : Int) :: E.drop 1 = E := by
    cases E with
    | nil => simp at hp
    | cons a t => simp at hhead; subst hhead; rfl
  have hWW := WalkWay_val hg hn hci (by rw [dirs_len]; omega) hwd
  rw [hEd, hlE] at hWW
  have hdl : (dirs w h E (E.length - 1) 1).length = E.length - 1 := dirs_len ..
  have hEs : Ev (fun k => impl_EraseLoops.f k E) E := by
    have := impl_erase_ev E (by omega)
    rwa [hself] at this
  have hfin : Ev (fun k => (impl_EraseLoops.f k E).bind fun t136 => ((laws_sameInts.f k t136 E).bind fun t139 => (some t139))) true := Ev.bind hEs (Ev.bind (same_ev E (by omega)) (Ev.ret rfl))
  refine Ev.bind ed (Ev.bind (spec_CellsOn_ev hg hn (c : Int) way) ?_)
  simp only []
  rw [cellsN'_val hci hw hk]
  refine Ev.bind hEe (Ev.bind hEW (Ev.ff (by omega) (Ev.tt rfl (Ev.bnd0 (simpleE E (by omega)) (Ev.tt (by simpa using hnd) (Ev.tt (by omega) (Ev.tt (by omega) (Ev.tt (by rw [h0]; rfl) ?_))))))))
  rw [wrap64_id (x := (E.length : Int) - 1) (by omega) (by omega), wrap64_id (x := (((c : Int) :: L).length : Int) - 1) (by omega) (by simp; omega)]
  refine Ev.tt (by omega) (Ev.tt (by omega) (Ev.tt (by omega) (Ev.tt (by omega) (Ev.tt (by rw [hlE, hlL]) (Ev.bind hEc (Ev.tt rfl ?_))))))
  rw [hdl, show ((((E.length - 1 : Nat)) : Int) != (E.length : Int) - 1) = false from bne_eq_false_iff_eq.mpr (by omega)]
  refine Ev.step (fun _ => laws_FnErased.j0.eq_2 ..) (Ev.ff (by decide) (Ev.bind hWW ?_))
  rw [wrap64_id (x := (((c : Int) :: L).length : Int) - 1) (by omega) (by simp; omega), hlL]
  refine Ev.tt (by omega) (Ev.tt (by omega) ?_)
  rw [hzl]
  refine Ev.bind hWB (Ev.tt rfl (Ev.tt rfl (Ev.bind (spec_IsPerfect_ev hg hn) (Ev.ite (fun hpf => ?_) (fun _ => hfin)))))
  obtain ⟨t1, t2⟩ := way_tree hg hn hch hr hpf hnd hp (E.length - 1) 1 (Nat.le_refl _) (by omega)
  rw [show 1 - 1 = 0 from rfl, hq0] at t1 t2
  have hmE : m = E.length - 1 := by omega
  rw [t1, hmE]
  exact Ev.bind (same_ev _ (by rw [ints_length, wayD_len]; omega)) (Ev.tt rfl hfin)
end Go.Proofs.Ytcajhmldbkfhiaa.P
namespace Go.Proofs.Ytcajhmldbkfhiaa.fnErased
open Go.ChangeShapes Go.WideShapes Go.ChangeAt Go.RowKit Go.Proofs.YtcajhmldbkfhiaaW.PrintWords Go.Proofs.Ytcajhmldbkfhiaa.Sup
open Go.ChangeMaps (open_string shut_string)
set_option linter.unusedVariables false
theorem own : ownKnob Try.prog.godebug = none := by kernel_rfl
theorem laidOut : laidOutB Try.prog = true := by kernel_rfl
set_option maxRecDepth 100000 in
theorem lifted (os : Os) (started : os.Started) (H : Type) (enc : TypeId × Value → H) :
    ReturnsInHanded {} Try.checked os 8 .any (Rows.fnErasedSpec.pre6 enc Try.prog Try.f8 Rows.fnErasedRow.domain false) (Rows.fnErasedSpec.post enc Try.prog Try.f8 false true false false) := by
  refine returnsInHanded_of_change_sized (C := Try.checked) own started (by kernel_rfl) Try.func8
    (ChangeSpec.witness6 (enc := enc) (C := Try.checked) false ⟨#[], #[.slice none 0 0], []⟩ 8 (by kernel_rfl) (by kernel_rfl) (by kernel_rfl) (by kernel_rfl)) ?_
  intro W base args ds gs before hval0 hW hcnd hsz0 _
  have hsz : (DataW.weightsEach Try.prog (Try.f8.params.toList ++ Rows.fnErasedSpec.plain.varTypes Try.prog) (ds ++ gs)).all (· ≤ reachBytes) = true := hsz0
  have hval : ∀ (j : Nat) t v, Try.f8.params[j]? = some t → args[j]? = some v → Value.okWide Try.prog W .any base t v := hval0
  have hW' := hW
  obtain ⟨p, q, hA0, hV, rfl, hfz, hnd⟩ := hW
  have hA : DataW.TrodAll enc Try.prog W 0 (fun _ => true) true Try.f8.params.toList args.toList ds p := hA0
  rw [Try.params8] at hA hval hsz
  obtain ⟨v0, vs0, d0, ds0, p0, q0, hargs, rfl, rfl, h0, r0⟩ := trodAll_cons hA
  obtain ⟨rfl, rfl, rfl⟩ := trodAll_nil r0
  obtain rfl : args = #[v0] := by cases args; simp_all
  obtain ⟨rfl, rfl⟩ := trodVars_none hV
  obtain ⟨a0, len0, cap0, rfl⟩ := okWide_slice Try.underlying39 (hval 0 39 v0 rfl rfl)
  have k0 := h0
  have lt0 : ∀ x ∈ p0, x.block < W.heap.size := by obtain ⟨m, hm⟩ := k0; exact DataW.trod_lt m _ _ _ hm
  obtain ⟨z0, w0⟩ : ∃ zs, IsRow .u8 W a0 len0 cap0 zs := by
    obtain ⟨fuel, hf⟩ := h0
    rcases open_ints Try.underlying39 Try.underlying5 (by kernel_rfl) hf with ⟨hcs, _⟩ | ⟨x, l, c, zs, hcs, _, hl, hm, hz, _, hcell, hwz⟩
    · simp [Value.cells] at hcs
      obtain ⟨rfl, rfl, rfl⟩ := hcs
      exact ⟨[], .inl ⟨rfl, rfl, rfl, rfl⟩⟩
    · simp [Value.cells] at hcs
      obtain ⟨rfl, rfl, rfl⟩ := hcs
      exact ⟨zs, .inr ⟨_, rfl, hl, hm, by simpa using hz, hcell, hwz⟩⟩
  have y0 : len0 * 1 ≤ 140737488351232 := sized_ints hsz (j := 0) (t := 39) rfl rfl Try.underlying39 Try.underlying5 (by kernel_rfl) (by kernel_rfl) h0
  obtain ⟨l0, rfl, hr0, hm0, hw0, hc0⟩ := ReadsInt.ofRowC w0
  clear hA0 hval0 hsz0 hsz
  obtain ⟨k, hf⟩ := P.FnErased_pure l0 (by omega) (fun x hx => u8_of_wf (hw0 x hx))
  refine (P.laws_FnErased.calls k _ _ l0 true W (Kd.C_of_reads (d := (0 : Int)) (h1 := fun _ => rfl) hr0) hc0 hf).mono fun e W' ⟨he, bel0⟩ => ?_
  have bel : Below W.heap.size W W' := bel0
  subst he
  exact ⟨_, rfl, _, _, _, [], _, [], hW', trodAll_mk1 (shut_bool Try.underlying4 _), (trodAll_cons_mk (Below.trod laidOut (by kernel_rfl) (of_decide_eq_true (by kernel_rfl)) k0 bel lt0) trodAll_mk0), rfl, bel.frame _, fun h => by cases h⟩
theorem over : Rows.fnErasedRow.holds Try.pinned (OpenSpec.ofChange Rows.fnErasedSpec) :=
  OpenClaim.holds_of_wide 8 Try.f8 rfl rfl rfl rfl rfl rfl rfl ⟨rfl, rfl, rfl, rfl, rfl⟩ rfl rfl rfl rfl rfl (by kernel_rfl) Try.func8 (by kernel_rfl)
    (of_decide_eq_true (by kernel_rfl)) (by unfold Func.isWrapper; first | (rw [if_pos (by decide +kernel)]; kernel_rfl) | (rw [if_neg (by decide +kernel)]; exact ⟨rfl, rfl⟩))
    (fun os started H enc _ => lifted os started H enc)
theorem proved : Rows.FnErasedSaid := over
end Go.Proofs.Ytcajhmldbkfhiaa.fnErased
namespace Go.Proofs.Ytcajhmldbkfhiaa
/-- The row, under a short name, for the claim. -/
theorem fnErased_holds : Rows.FnErasedSaid := fnErased.proved
#print axioms fnErased_holds
end Go.Proofs.Ytcajhmldbkfhiaa
