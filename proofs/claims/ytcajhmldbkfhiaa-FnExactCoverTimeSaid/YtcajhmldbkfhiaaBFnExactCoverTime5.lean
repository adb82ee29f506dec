/- The statement FnExactCoverTime of the seat, out of its plain form (FnExactCoverTime_pure) and the walk of its Go function. Part 5 of 5: each Go function's walk, then the plain lemmas, then the row. No condition: it holds for every input. -/
import Derived.Test.YtcajhmldbkfhiaaBFnExactCoverTime4
import Derived.Test.YtcajhmldbkfhiaaRows
import Derived.Below
import Derived.ChangeOld
import Derived.Deep.Matrix
import Derived.Lib.SmallJoins
import Derived.OpenShut
import Derived.ProofKit
import Derived.ShutString
import Derived.SizedLaws
import Derived.WalkKit
namespace Go.Proofs.Ytcajhmldbkfhiaa.Sup
open Go.ChangeShapes Go.WideShapes Go.ChangeAt Go.RowKit Go.Joins Go.Proofs.YtcajhmldbkfhiaaW.PrintWords
set_option linter.unusedVariables false
set_option linter.unusedSimpArgs false

/-- The range of an int. -/
def InR (a : Int) : Prop := -9223372036854775808 ≤ a ∧ a ≤ 9223372036854775807
theorem inR_of_wf {a : Int} (h : (Lit.int .i64 a).wf = true) : InR a := by
  simp only [Lit.wf, IntKind.min, IntKind.max, IntKind.signed, IntKind.bits, Bool.and_eq_true, decide_eq_true_eq, if_true] at h
  unfold InR
  omega
section
variable {H : Type} {enc : TypeId × Value → H} {P : Program} {w : World} {base : Nat} {spare : Nat → Bool} {held : Bool}

theorem open2 {r : Reach} {b0 : Nat} {t : TypeId} {f0 f1 : Field} {v : Value} {d : DataW H} {p : List MemPlace} (hs : P.underlying t = some (.struct #[f0, f1])) (h0 : P.underlying f0.type = some (.int .i64)) (h1 : P.underlying f1.type = some (.int .i64))
    (o0 : f0.offset = 0) (o1 : f1.offset = 1) (c0 : P.cellsOf f0.type = 1) (c1 : P.cellsOf f1.type = 1) (hC : P.cellsOf t = 2)
    (hv : Value.okWide P w r b0 t v) (h : DataW.Trod enc P w base spare held t v d p) :
    ∃ a b : Int, v = .agg #[.int .i64 a, .int .i64 b] ∧ InR a ∧ InR b := by
  obtain ⟨cs, rfl, hsz⟩ := okWide_struct hs hv
  obtain ⟨x0, x1, rfl⟩ := array2 (hsz.trans hC)
  obtain ⟨fuel, hf⟩ := h
  obtain ⟨y0, y1, n, hx, _, g0, g1⟩ := trod_struct2 hs hf
  simp only [Value.cells, o0, o1, c0, c1, List.drop_zero, List.take_succ_cons, List.take_zero, List.drop_succ_cons] at g0 g1
  obtain ⟨a, e0, _, w0⟩ := DataW.trod_int h0 g0
  obtain ⟨b, e1, _, w1⟩ := DataW.trod_int h1 g1
  simp at e0 e1
  subst e0 e1
  exact ⟨a, b, rfl, inR_of_wf w0, inR_of_wf w1⟩

end

def IsRow (k : IntKind) (w : World) (a : Option Addr) (len cap : Nat) (zs : List Int) : Prop :=
  (a = none ∧ len = 0 ∧ cap = 0 ∧ zs = []) ∨
  ∃ x, a = some x ∧ len ≤ cap ∧ cap ≤ maxLen ∧ zs.length = cap ∧ (∀ i, i < zs.length → w.cell? (x.add i) = some (.int k (zs.getD i 0))) ∧ ∀ n ∈ zs, (Lit.int k n).wf = true

end Go.Proofs.Ytcajhmldbkfhiaa.Sup
namespace Go.Proofs.Ytcajhmldbkfhiaa.P
open Go.RowKit Go.Proofs.YtcajhmldbkfhiaaW.PrintWords
set_option linter.unusedVariables false
set_option linter.unusedSimpArgs false

theorem l01In_eq (a b c : Int) : spec_l01In.f a b c = some (decide (b ≤ a ∧ a ≤ c)) := by
  unfold spec_l01In.f
  by_cases h : a ≥ b
  · rw [if_pos h]; congr 1; simp; omega
  · rw [if_neg h]; congr 1; simp; omega

end Go.Proofs.Ytcajhmldbkfhiaa.P
namespace Go.Proofs.Ytcajhmldbkfhiaa.P
open Go.RowKit Go.Proofs.YtcajhmldbkfhiaaW.PrintWords Go.Proofs.Ytcajhmldbkfhiaa.Sup
set_option linter.unusedVariables false
set_option linter.unusedSimpArgs false

theorem spec_GridOk_eq (w h : Int) : spec_GridOk.f w h = some (gridOk w h) := by
  unfold spec_GridOk.f
  simp only [l01In_eq, Option.bind_some]
  unfold gridOk
  by_cases h1 : 1 ≤ w ∧ w ≤ 4
  · simp only [h1, and_self, decide_true, if_true, true_and]
  · have : ¬ (1 ≤ w ∧ w ≤ 4 ∧ 1 ≤ h ∧ h ≤ 4) := by omega
    rw [decide_eq_false h1, decide_eq_false this]; simp
theorem impl_GridOk_eq (w h : Int) : impl_GridOk.f w h = some (gridOk w h) := by
  unfold impl_GridOk.f gridOk
  repeat' split
  all_goals congr 1
  all_goals first | (rw [decide_eq_decide]; omega) | (symm; rw [decide_eq_false_iff_not]; omega)

theorem impl_CountCells_eq (w h : Int) : impl_CountCells.f w h = some (cellsOf w h) := by
  unfold impl_CountCells.f
  rw [impl_GridOk_eq, Option.bind_some]
  have := cellsOf_range w h
  unfold cellsOf at *
  by_cases hg : gridOk w h = true
  · rw [if_pos hg] at *
    rw [if_pos hg, wrap64_id (by omega) (by omega)]
  · rw [if_neg hg, if_neg hg]
theorem spec_CountCells_eq (w h : Int) : spec_CountCells.f w h = some (cellsOf w h) := by
  unfold spec_CountCells.f
  rw [spec_GridOk_eq, Option.bind_some]
  have := cellsOf_range w h
  unfold cellsOf at *
  by_cases hg : gridOk w h = true
  · rw [if_pos hg] at *
    rw [if_pos hg, wrap64_id (by omega) (by omega)]
  · rw [if_neg hg, if_neg hg]
theorem impl_CountGaps_eq (w h : Int) : impl_CountGaps.f w h = some (gapsOf w h) := by
  unfold impl_CountGaps.f
  rw [impl_GridOk_eq, Option.bind_some]
  unfold gapsOf
  by_cases hg : gridOk w h = true
  · rw [if_pos hg, if_pos hg]
    obtain ⟨h1 | h1 | h1 | h1, h2 | h2 | h2 | h2⟩ := grid_cases hg <;> subst h1 <;> subst h2 <;> simp [wrap64, eastOf]
  · rw [if_neg hg, if_neg hg]
theorem spec_l02East_eq {w h : Int} (hg : gridOk w h = true) : spec_l02East.f w h = some (eastOf w h) := by
  unfold spec_l02East.f eastOf
  obtain ⟨h1 | h1 | h1 | h1, h2 | h2 | h2 | h2⟩ := grid_cases hg <;> subst h1 <;> subst h2 <;> simp [wrap64, eastOf]
theorem spec_CountGaps_eq (w h : Int) : spec_CountGaps.f w h = some (gapsOf w h) := by
  unfold spec_CountGaps.f
  rw [spec_GridOk_eq, Option.bind_some]
  unfold gapsOf
  by_cases hg : gridOk w h = true
  · rw [if_pos hg, if_pos hg, spec_l02East_eq hg, Option.bind_some]
    obtain ⟨h1 | h1 | h1 | h1, h2 | h2 | h2 | h2⟩ := grid_cases hg <;> subst h1 <;> subst h2 <;> simp [wrap64, eastOf]
  · rw [if_neg hg, if_neg hg]

/-- 2 to the power of a small number. -/
theorem shl_one {n : Int} (h0 : 0 ≤ n) (h1 : n ≤ 24) : shl .i64 1 n = 2 ^ n.toNat := by
  obtain ⟨m, rfl⟩ := Int.eq_ofNat_of_zero_le h0
  have : m ≤ 24 := by omega
  clear h0 h1
  revert m
  decide +kernel
end Go.Proofs.Ytcajhmldbkfhiaa.P
namespace Go.Proofs.Ytcajhmldbkfhiaa.P
open Go.RowKit Go.Proofs.YtcajhmldbkfhiaaW.PrintWords
set_option linter.unusedVariables false
set_option linter.unusedSimpArgs false

theorem impl_isCell_eq (w h c : Int) : impl_isCell.f w h c = some (isCellI w h c) := by
  unfold impl_isCell.f isCellI
  rw [impl_CountCells_eq]
  by_cases hc : c ≥ 0
  · rw [if_pos hc, Option.bind_some]; congr 1; rw [decide_eq_decide]; omega
  · rw [if_neg hc]; congr 1; symm; rw [decide_eq_false_iff_not]; omega
theorem impl_Neighbor_ev (w h c d : Int) : Ev (fun k => impl_Neighbor.f k w h c d) (nbI w h c d) := by
  unfold impl_Neighbor.f nbI
  refine Ev.bnd0 (impl_isCell_eq w h c) ?_
  unfold isCellI
  by_cases hc : 0 ≤ c ∧ c < cellsOf w h
  · rw [if_pos hc]
    obtain ⟨hg, hcw⟩ := cellsOf_valid hc.1 hc.2
    have hcr := cellsOf_range w h
    have hgr := gridOk_iff.1 hg
    refine Ev.tt (by simpa using hc) (Ev.ff (by omega) ?_)
    have hx0 : 0 ≤ c % w := Int.emod_nonneg _ (by omega)
    have hx1 : c % w < w := Int.emod_lt_of_pos _ (by omega)
    have hy0 : 0 ≤ c / w := Int.ediv_nonneg hc.1 (by omega)
    have hy1 : c / w ≤ c := Int.ediv_le_self _ hc.1
    rw [Int.tmod_eq_emod_of_nonneg hc.1, Int.tdiv_eq_ediv_of_nonneg hc.1, wrap64_id (x := c / w) (by omega) (by omega)]
    generalize c % w = x at *
    generalize c / w = y at *
    have j2 : ∀ b : Bool, (d ≠ 0 ∨ ¬ 0 < y) → (d ≠ 1 ∨ ¬ x < w - 1) → (b = true ↔ d = 2 ∧ y < h - 1) → Ev (fun k => impl_Neighbor.j2 k c d x b w h) (if d = 2 ∧ y < h - 1 then c + w else if d = 3 ∧ 0 < x then c - 1 else -1) := by
      intro b _ _ hb
      refine Ev.step (fun _ => impl_Neighbor.j2.eq_2 ..) ?_
      refine Ev.ite (fun e => ?_) (fun e => ?_)
      · rw [if_pos (hb.1 e), wrap64_id (by omega) (by omega)]; exact Ev.ret rfl
      · rw [if_neg (fun h => e (hb.2 h))]
        refine Ev.ite (fun e3 => Ev.ite (fun e4 => ?_) (fun e4 => ?_)) (fun e3 => ?_)
        · rw [if_pos ⟨e3, e4⟩, wrap64_id (by omega) (by omega)]; exact Ev.ret rfl
        · rw [if_neg (fun h => e4 h.2)]; exact Ev.ret rfl
        · rw [if_neg (fun h => e3 h.1)]; exact Ev.ret rfl
    have j1 : ∀ b : Bool, (d ≠ 0 ∨ ¬ 0 < y) → (b = true ↔ d = 1 ∧ x < w - 1) → Ev (fun k => impl_Neighbor.j1 k c d x y b w h) (if d = 1 ∧ x < w - 1 then c + 1 else if d = 2 ∧ y < h - 1 then c + w else if d = 3 ∧ 0 < x then c - 1 else -1) := by
      intro b h0 hb
      refine Ev.step (fun _ => impl_Neighbor.j1.eq_2 ..) ?_
      refine Ev.ite (fun e => ?_) (fun e => ?_)
      · rw [if_pos (hb.1 e), wrap64_id (by omega) (by omega)]; exact Ev.ret rfl
      · have hn : ¬ (d = 1 ∧ x < w - 1) := fun h => e (hb.2 h)
        rw [if_neg hn]
        refine Ev.ite (fun e2 => ?_) (fun e2 => ?_)
        · refine j2 _ h0 (by omega) ?_
          rw [wrap64_id (by omega) (by omega)]
          simp [e2]
        · exact j2 _ h0 (by omega) (by simp [e2])
    have j0 : ∀ b : Bool, (b = true ↔ d = 0 ∧ 0 < y) → Ev (fun k => impl_Neighbor.j0 k c d x y b w h) (if d = 0 ∧ 0 < y then c - w else if d = 1 ∧ x < w - 1 then c + 1 else if d = 2 ∧ y < h - 1 then c + w else if d = 3 ∧ 0 < x then c - 1 else -1) := by
      intro b hb
      refine Ev.step (fun _ => impl_Neighbor.j0.eq_2 ..) ?_
      refine Ev.ite (fun e => ?_) (fun e => ?_)
      · rw [if_pos (hb.1 e), wrap64_id (by omega) (by omega)]; exact Ev.ret rfl
      · have hn : ¬ (d = 0 ∧ 0 < y) := fun h => e (hb.2 h)
        rw [if_neg hn]
        refine Ev.ite (fun e2 => ?_) (fun e2 => ?_)
        · refine j1 _ (by omega) ?_
          rw [wrap64_id (by omega) (by omega)]
          simp [e2]
        · exact j1 _ (by omega) (by simp [e2])
    refine Ev.ite (fun e => ?_) (fun e => ?_)
    · exact j0 _ (by simp [e])
    · exact j0 _ (by simp [e])
  · rw [if_neg hc]
    exact Ev.ff (by simpa using hc) (Ev.ret rfl)
theorem spec_Neighbor_ev (w h c d : Int) : Ev (fun k => spec_Neighbor.f k w h c d) (nbI w h c d) := by
  unfold spec_Neighbor.f nbI
  refine Ev.bnd0 (spec_CountCells_eq w h) ?_
  have hcr := cellsOf_range w h
  rw [wrap64_id (by omega) (by omega)]
  refine Ev.bnd0 (l01In_eq ..) ?_
  by_cases hc : 0 ≤ c ∧ c < cellsOf w h
  · rw [if_pos hc]
    obtain ⟨hg, hcw⟩ := cellsOf_valid hc.1 hc.2
    have hgr := gridOk_iff.1 hg
    refine Ev.tt (by simp; omega) (Ev.ff (by omega) ?_)
    have hx0 : 0 ≤ c % w := Int.emod_nonneg _ (by omega)
    have hx1 : c % w < w := Int.emod_lt_of_pos _ (by omega)
    have hy0 : 0 ≤ c / w := Int.ediv_nonneg hc.1 (by omega)
    have hy1 : c / w ≤ c := Int.ediv_le_self _ hc.1
    have hxy : c / w * w + c % w = c := by rw [Int.mul_comm]; exact Int.mul_ediv_add_emod c w
    have hy2 : c / w < h := by
      rw [hcw] at hc
      exact Int.ediv_lt_of_lt_mul (by omega) (by rw [Int.mul_comm]; exact hc.2)
    rw [Int.tmod_eq_emod_of_nonneg hc.1, Int.tdiv_eq_ediv_of_nonneg hc.1, wrap64_id (x := c / w) (by omega) (by omega)]
    generalize c % w = x at *
    generalize c / w = y at *
    have j0 : ∀ (a b r : Int), (r = if 0 ≤ a ∧ a ≤ w - 1 ∧ 0 ≤ b ∧ b ≤ h - 1 then b * w + a else -1) → Ev (fun k => spec_Neighbor.j0 k a b w h) r := by
      intro a b r hr
      subst hr
      refine Ev.step (fun _ => spec_Neighbor.j0.eq_2 ..) ?_
      refine Ev.bnd0 (l01In_eq ..) ?_
      rw [wrap64_id (x := w - 1) (by omega) (by omega), wrap64_id (x := h - 1) (by omega) (by omega)]
      by_cases h1 : 0 ≤ a ∧ a ≤ w - 1
      · refine Ev.tt (by simpa using h1) (Ev.bnd0 (l01In_eq ..) ?_)
        by_cases h2 : 0 ≤ b ∧ b ≤ h - 1
        · refine Ev.tt (by simpa using h2) (Ev.ret ?_)
          rw [if_pos (by omega)]
          have hb4 : b * w ≤ 3 * 4 := Int.mul_le_mul (by omega) (by omega) (by omega) (by omega)
          have hb0 : 0 ≤ b * w := Int.mul_nonneg (by omega) (by omega)
          rw [wrap64_id (x := b * w) (by omega) (by omega), wrap64_id (by omega) (by omega)]
        · refine Ev.ff (by simpa using h2) (Ev.ret ?_)
          rw [if_neg (by omega)]
      · refine Ev.ff (by simpa using h1) (Ev.ret ?_)
        rw [if_neg (by omega)]
    have hm1 : (y - 1) * w + x = c - w := by rw [Int.sub_mul]; omega
    have hp1 : (y + 1) * w + x = c + w := by rw [Int.add_mul]; omega
    refine Ev.ite (fun e => ?_) (fun e => Ev.ite (fun e => ?_) (fun e => Ev.ite (fun e => ?_) (fun e => Ev.ite (fun e => ?_) (fun e => Ev.ret ?_))))
    · rw [wrap64_id (by omega) (by omega)]
      refine j0 _ _ _ ?_
      subst e
      by_cases h0 : 0 < y
      · rw [if_pos ⟨rfl, h0⟩, if_pos (by omega), hm1]
      · rw [if_neg (by omega), if_neg (by omega), if_neg (by omega), if_neg (by omega), if_neg (by omega)]
    · rw [wrap64_id (by omega) (by omega)]
      refine j0 _ _ _ ?_
      subst e
      rw [if_neg (by omega)]
      by_cases h0 : x < w - 1
      · rw [if_pos ⟨rfl, h0⟩, if_pos (by omega)]; omega
      · rw [if_neg (by omega), if_neg (by omega), if_neg (by omega), if_neg (by omega)]
    · rw [wrap64_id (by omega) (by omega)]
      refine j0 _ _ _ ?_
      subst e
      rw [if_neg (by omega), if_neg (by omega)]
      by_cases h0 : y < h - 1
      · rw [if_pos ⟨rfl, h0⟩, if_pos (by omega), hp1]
      · rw [if_neg (by omega), if_neg (by omega), if_neg (by omega)]
    · rw [wrap64_id (by omega) (by omega)]
      refine j0 _ _ _ ?_
      subst e
      rw [if_neg (by omega), if_neg (by omega), if_neg (by omega)]
      by_cases h0 : 0 < x
      · rw [if_pos ⟨rfl, h0⟩, if_pos (by omega)]; omega
      · rw [if_neg (by omega), if_neg (by omega)]
    · rw [if_neg (by omega), if_neg (by omega), if_neg (by omega), if_neg (by omega)]
  · rw [if_neg hc]
    exact Ev.ff (by simp; omega) (Ev.ret rfl)
end Go.Proofs.Ytcajhmldbkfhiaa.P
namespace Go.Proofs.Ytcajhmldbkfhiaa.P
open Go.RowKit Go.Proofs.YtcajhmldbkfhiaaW.PrintWords Go.Proofs.YtcajhmldbkfhiaaW.PrintLast Go.Proofs.YtcajhmldbkfhiaaW.PrintMore
attribute [local go_sem] max2_int min2_int max_two min_two max_three min_three max_four min_four   -- for this text's walks alone
set_option linter.unusedVariables false
set_option linter.unusedSimpArgs false

/-! ### impl_isGap: function 100 -/
end Go.Proofs.Ytcajhmldbkfhiaa.P
namespace Go.Proofs.Ytcajhmldbkfhiaa.P
open Go.RowKit Go.Proofs.YtcajhmldbkfhiaaW.PrintWords
set_option linter.unusedVariables false
set_option linter.unusedSimpArgs false

theorem spec_MazeOk_eq (w h o : Int) : spec_MazeOk.f w h o = some (mazeOk w h o) := by
  have hc := gapsOf_range w h
  have hp := pow_le hc.1 hc.2
  unfold spec_MazeOk.f mazeOk gapsN
  rw [spec_GridOk_eq, Option.bind_some]
  cases hg : gridOk w h
  · simp
  · rw [if_pos rfl, spec_CountGaps_eq, Option.bind_some, if_pos hc.1, shl_one hc.1 hc.2, l01In_eq, Option.bind_some, wrap64_id (by omega) (by omega)]
    simp only [Bool.true_and]
    congr 1
    rw [decide_eq_decide]
    omega
theorem impl_MazeOk_eq (w h o : Int) : impl_MazeOk.f w h o = some (mazeOk w h o) := by
  have hc := gapsOf_range w h
  unfold impl_MazeOk.f mazeOk gapsN
  rw [impl_GridOk_eq, Option.bind_some]
  cases hg : gridOk w h
  · simp
  · rw [if_pos rfl, impl_CountGaps_eq, Option.bind_some, if_pos hc.1, shl_one hc.1 hc.2]
    simp only [Bool.true_and]
    split
    · congr 1; rw [decide_eq_decide]; omega
    · congr 1; symm; rw [decide_eq_false_iff_not]; omega
theorem impl_isOpen_eq (w h : Int) {n : Nat} (hn : n < 16777216) (g : Int) : impl_isOpen.f w h n g = some (openI n g) := by
  unfold impl_isOpen.f openI
  by_cases hg : g ≥ 0
  · rw [if_pos hg, if_pos hg]
    obtain ⟨m, rfl⟩ := Int.eq_ofNat_of_zero_le hg
    rw [bit_one (by omega)]
    simp
  · rw [if_neg hg]
    simp; omega
theorem spec_l03Bit_eq {n : Nat} (hn : n < 16777216) {g : Int} (hg : 0 ≤ g) : spec_l03Bit.f n g = some (openI n g) := by
  unfold spec_l03Bit.f openI
  rw [if_pos hg]
  obtain ⟨m, rfl⟩ := Int.eq_ofNat_of_zero_le hg
  rw [bit_one (by omega)]
  simp
/-! Sixteen small graphs: facts that are looked through -/
end Go.Proofs.Ytcajhmldbkfhiaa.P
namespace Go.Proofs.Ytcajhmldbkfhiaa.P
open Go.RowKit Go.Proofs.YtcajhmldbkfhiaaW.PrintWords Go.Proofs.Ytcajhmldbkfhiaa.Sup
set_option linter.unusedVariables false
set_option linter.unusedSimpArgs false

theorem impl_isIn_one (w h o c : Int) : impl_isIn.f w h o [c] = some (mazeOk w h o && isCellI w h c) := by
  unfold impl_isIn.f
  rw [impl_MazeOk_eq, Option.bind_some]
  cases hm : mazeOk w h o
  · simp
  · rw [if_pos rfl]
    simp [impl_isCell_eq]
theorem spec_l04Has_eq (w h o c : Int) : spec_l04Has.f w h o c = some (mazeOk w h o && isCellI w h c) := by
  have hr := cellsOf_range w h
  unfold spec_l04Has.f isCellI
  rw [spec_MazeOk_eq, Option.bind_some]
  cases hm : mazeOk w h o
  · simp
  · rw [if_pos rfl, spec_CountCells_eq, Option.bind_some, wrap64_id (by omega) (by omega), l01In_eq, Option.bind_some]
    simp only [Bool.true_and]
    congr 1
    rw [decide_eq_decide]
    omega
end Go.Proofs.Ytcajhmldbkfhiaa.P
namespace Go.Proofs.Ytcajhmldbkfhiaa.P
open Go.RowKit Go.Proofs.YtcajhmldbkfhiaaW.PrintWords
set_option linter.unusedVariables false
set_option linter.unusedSimpArgs false

theorem impl_GapAt_ev (w h c d : Int) : Ev (fun k => impl_GapAt.f k w h c d) (gapI w h c d) := by
  unfold impl_GapAt.f gapI
  refine Ev.bind (impl_Neighbor_ev w h c d) ?_
  by_cases hn : nbI w h c d < 0
  · rw [if_pos hn, if_pos hn]
    exact Ev.ret rfl
  · rw [if_neg hn, if_neg hn]
    obtain ⟨hd, h0, h1⟩ := nb_dir (by omega : 0 ≤ nbI w h c d)
    obtain ⟨hg, hcw⟩ := cellsOf_valid h0 h1
    have hcr := cellsOf_range w h
    have hgr := gridOk_iff.1 hg
    have hlt := nb_lt (w := w) (h := h) (c := c) (d := d)
    have hmn : mn c (nbI w h c d) = min c (nbI w h c d) := by unfold mn; omega
    rw [hmn]
    have hm0 : 0 ≤ min c (nbI w h c d) := by omega
    have hm1 : min c (nbI w h c d) ≤ 15 := by omega
    generalize min c (nbI w h c d) = m at *
    have ha0 : 0 ≤ m / w := Int.ediv_nonneg hm0 (by omega)
    have ha1 : m / w ≤ m := Int.ediv_le_self _ hm0
    have hb0 : 0 ≤ m % w := Int.emod_nonneg _ (by omega)
    have hb1 : m % w < w := Int.emod_lt_of_pos _ (by omega)
    have hp0 : 0 ≤ m / w * (w - 1) := Int.mul_nonneg ha0 (by omega)
    have hp1 : m / w * (w - 1) ≤ 15 * 3 := Int.mul_le_mul (by omega) (by omega) (by omega) (by omega)
    have hq0 : 0 ≤ (w - 1) * h := Int.mul_nonneg (by omega) (by omega)
    have hq1 : (w - 1) * h ≤ 3 * 4 := Int.mul_le_mul (by omega) (by omega) (by omega) (by omega)
    rw [Int.tmod_eq_emod_of_nonneg hm0, Int.tdiv_eq_ediv_of_nonneg hm0, wrap64_id (x := m / w) (by omega) (by omega), wrap64_id (x := w - 1) (by omega) (by omega), wrap64_id (x := m / w * (w - 1)) (by omega) (by omega), wrap64_id (x := m / w * (w - 1) + m % w) (by omega) (by omega)]
    refine Ev.ite (fun e => Ev.ff (by omega) ?_) (fun e => Ev.ite (fun e3 => Ev.ff (by omega) ?_) (fun e3 => ?_))
    · rw [if_pos (.inl e)]; exact Ev.ret rfl
    · rw [if_pos (.inr e3)]; exact Ev.ret rfl
    · rw [if_neg (by omega)]
      rw [wrap64_id (x := (w - 1) * h) (by omega) (by omega), wrap64_id (by omega) (by omega)]
      exact Ev.ret rfl
end Go.Proofs.Ytcajhmldbkfhiaa.P
namespace Go.Proofs.Ytcajhmldbkfhiaa.P
open Go.RowKit Go.Proofs.YtcajhmldbkfhiaaW.PrintWords Go.Proofs.YtcajhmldbkfhiaaW.PrintLast Go.Proofs.YtcajhmldbkfhiaaW.PrintMore
attribute [local go_sem] max2_int min2_int max_two min_two max_three min_three max_four min_four   -- for this text's walks alone
set_option linter.unusedVariables false
set_option linter.unusedSimpArgs false

/-! ### impl_WaysFrom: function 146 -/
end Go.Proofs.Ytcajhmldbkfhiaa.P
namespace Go.Proofs.Ytcajhmldbkfhiaa.P
open Go.RowKit Go.Proofs.YtcajhmldbkfhiaaW.PrintWords
set_option linter.unusedVariables false
set_option linter.unusedSimpArgs false

end Go.Proofs.Ytcajhmldbkfhiaa.P
namespace Go.Proofs.Ytcajhmldbkfhiaa.P
end Go.Proofs.Ytcajhmldbkfhiaa.P
namespace Go.Proofs.Ytcajhmldbkfhiaa.P
open Go.RowKit Go.Proofs.YtcajhmldbkfhiaaW.PrintWords
set_option linter.unusedVariables false
set_option linter.unusedSimpArgs false

theorem impl_Step_ev {w h : Int} {n : Nat} (hg : gridOk w h = true) (hn : n < 2 ^ gapsN w h) (c d : Int) : Ev (fun k => impl_Step.f k w h n c d) (stepI w h n c d) := by
  unfold impl_Step.f stepI
  refine Ev.bnd0 (impl_MazeOk_eq w h n) (Ev.tt (mazeOk_iff.2 ⟨hg, n, rfl, hn⟩) ?_)
  refine Ev.bind (impl_GapAt_ev w h c d) (Ev.bnd0 (impl_isOpen_eq w h (open_small hn) _) ?_)
  by_cases ho : openI n (gapI w h c d) = true
  · rw [if_pos ho]
    exact Ev.tt ho (Ev.bind (impl_Neighbor_ev w h c d) (Ev.ret rfl))
  · rw [if_neg ho]
    exact Ev.ff ho (Ev.ret rfl)
theorem spec_GapAt_ev (w h c d : Int) : Ev (fun k => spec_GapAt.f k w h c d) (gapI w h c d) := by
  unfold spec_GapAt.f gapI
  refine Ev.bind (spec_Neighbor_ev w h c d) ?_
  by_cases hn : nbI w h c d < 0
  · rw [if_pos hn, if_pos hn]
    exact Ev.ret rfl
  · rw [if_neg hn, if_neg hn]
    obtain ⟨hd, h0, h1⟩ := nb_dir (by omega : 0 ≤ nbI w h c d)
    obtain ⟨hg, hcw⟩ := cellsOf_valid h0 h1
    have hcr := cellsOf_range w h
    have hgr := gridOk_iff.1 hg
    have hlt := nb_lt (w := w) (h := h) (c := c) (d := d)
    have hmn : mn c (nbI w h c d) = min c (nbI w h c d) := by unfold mn; omega
    rw [hmn]
    have hm0 : 0 ≤ min c (nbI w h c d) := by omega
    have hm1 : min c (nbI w h c d) ≤ 15 := by omega
    generalize min c (nbI w h c d) = m at *
    have ha0 : 0 ≤ m / w := Int.ediv_nonneg hm0 (by omega)
    have ha1 : m / w ≤ m := Int.ediv_le_self _ hm0
    have hb0 : 0 ≤ m % w := Int.emod_nonneg _ (by omega)
    have hb1 : m % w < w := Int.emod_lt_of_pos _ (by omega)
    have hp0 : 0 ≤ m / w * (w - 1) := Int.mul_nonneg ha0 (by omega)
    have hp1 : m / w * (w - 1) ≤ 15 * 3 := Int.mul_le_mul (by omega) (by omega) (by omega) (by omega)
    have hq0 : 0 ≤ (w - 1) * h := Int.mul_nonneg (by omega) (by omega)
    have hq1 : (w - 1) * h ≤ 3 * 4 := Int.mul_le_mul (by omega) (by omega) (by omega) (by omega)
    rw [Int.tmod_eq_emod_of_nonneg hm0, Int.tdiv_eq_ediv_of_nonneg hm0, wrap64_id (x := m / w) (by omega) (by omega), wrap64_id (x := w - 1) (by omega) (by omega), wrap64_id (x := m / w * (w - 1)) (by omega) (by omega), wrap64_id (x := m / w * (w - 1) + m % w) (by omega) (by omega)]
    refine Ev.ite (fun e => Ev.ff (by omega) ?_) (fun e => Ev.ite (fun e3 => Ev.ff (by omega) ?_) (fun e3 => ?_))
    · rw [if_pos (.inl e)]; exact Ev.ret rfl
    · rw [if_pos (.inr e3)]; exact Ev.ret rfl
    · rw [if_neg (by omega)]
      refine Ev.bnd0 (spec_l02East_eq hg) (Ev.ret ?_)
      unfold eastOf
      rw [wrap64_id (by omega) (by omega)]
end Go.Proofs.Ytcajhmldbkfhiaa.P
namespace Go.Proofs.Ytcajhmldbkfhiaa.P
open Go.RowKit Go.Proofs.YtcajhmldbkfhiaaW.PrintWords Go.Proofs.YtcajhmldbkfhiaaW.PrintLast Go.Proofs.YtcajhmldbkfhiaaW.PrintMore
attribute [local go_sem] max2_int min2_int max_two min_two max_three min_three max_four min_four   -- for this text's walks alone
set_option linter.unusedVariables false
set_option linter.unusedSimpArgs false

/-! ### spec_WaysFrom: function 128 -/
end Go.Proofs.Ytcajhmldbkfhiaa.P
namespace Go.Proofs.Ytcajhmldbkfhiaa.P
open Go.RowKit Go.Proofs.YtcajhmldbkfhiaaW.PrintWords
set_option linter.unusedVariables false
set_option linter.unusedSimpArgs false

theorem spec_IsPassage_eq {w h : Int} {n : Nat} (hg : gridOk w h = true) (hn : n < 2 ^ gapsN w h) (g : Int) : spec_IsPassage.f w h n g = some (openI n g) := by
  have hr := gapsOf_range w h
  unfold spec_IsPassage.f
  rw [spec_MazeOk_eq, Option.bind_some, if_pos (mazeOk_iff.2 ⟨hg, n, rfl, hn⟩), spec_CountGaps_eq, Option.bind_some, wrap64_id (by omega) (by omega), l01In_eq, Option.bind_some]
  by_cases hc : 0 ≤ g ∧ g < gapsOf w h
  · rw [if_pos (by simp; omega), spec_l03Bit_eq (open_small hn) hc.1]
    rfl
  · rw [if_neg (by simp; omega)]
    congr 1
    symm
    rw [Bool.eq_false_iff]
    intro ho
    have := open_isGap hn ho
    unfold isGapI at this
    simp at this
    omega
theorem spec_Step_ev {w h : Int} {n : Nat} (hg : gridOk w h = true) (hn : n < 2 ^ gapsN w h) (c d : Int) : Ev (fun k => spec_Step.f k w h n c d) (stepI w h n c d) := by
  unfold spec_Step.f stepI
  refine Ev.bnd0 (spec_MazeOk_eq w h n) (Ev.tt (mazeOk_iff.2 ⟨hg, n, rfl, hn⟩) ?_)
  refine Ev.bind (spec_GapAt_ev w h c d) (Ev.bnd0 (spec_IsPassage_eq hg hn _) ?_)
  by_cases ho : openI n (gapI w h c d) = true
  · rw [if_pos ho]
    exact Ev.tt ho (Ev.bind (spec_Neighbor_ev w h c d) (Ev.ret rfl))
  · rw [if_neg ho]
    exact Ev.ff ho (Ev.ret rfl)
end Go.Proofs.Ytcajhmldbkfhiaa.P
namespace Go.Proofs.Ytcajhmldbkfhiaa.P
open Go.RowKit Go.Proofs.YtcajhmldbkfhiaaW.PrintWords
set_option linter.unusedVariables false
set_option linter.unusedSimpArgs false

/-- The cells that a way leads to, one a step; none where it ends. -/
def wk (s : Int → Int → Int) : Int → List Int → Option (List Int)
  | _, [] => some []
  | c, d :: ds => if s c d < 0 then none else (wk s (s c d) ds).map (s c d :: ·)
theorem wk_len {s : Int → Int → Int} : ∀ {ds : List Int} {c : Int} {l : List Int}, wk s c ds = some l → l.length = ds.length
  | [], c, l, h => by cases h; rfl
  | d :: ds, c, l, h => by
    unfold wk at h
    by_cases e : s c d < 0
    · rw [if_pos e] at h; cases h
    · rw [if_neg e] at h
      obtain ⟨l', h', rfl⟩ := Option.map_eq_some_iff.1 h
      rw [List.length_cons, List.length_cons, wk_len h']
def cellsN' (w h : Int) (n : Nat) (c : Int) (way : List Int) : List Int := match (if isCellI w h c = true ∧ way.length ≤ 400 then wk (stepI w h n) c way else none) with | none => [] | some l => c :: l
theorem cellsN'_len (w h : Int) (n : Nat) (c : Int) (way : List Int) : (cellsN' w h n c way).length ≤ 401 := by
  unfold cellsN'
  by_cases e : isCellI w h c = true ∧ way.length ≤ 400
  · rw [if_pos e]
    cases hk : wk (stepI w h n) c way with
    | none => simp
    | some l => have := wk_len hk; simp only [List.length_cons]; omega
  · rw [if_neg e]; simp
section
variable {w h : Int} {n : Nat}
theorem impl_Cells_l0 (hg : gridOk w h = true) (hn : n < 2 ^ gapsN w h) (way : List Int) (hw : way.length ≤ 400) : ∀ (e i : Nat) (c : Int) (out : List Int), way.length - i = e → i ≤ way.length → out.length ≤ i + 1 →
    Ev (fun k => impl_CellsOn.l0 k c out way way.length i w h n) (match wk (stepI w h n) c (way.drop i) with | none => [] | some l => out ++ l)
  | 0, i, c, out, he, hi, ho => by
    refine Ev.step (fun _ => impl_CellsOn.l0.eq_2 ..) (Ev.ff (by omega) (Ev.ret ?_))
    rw [List.drop_eq_nil_of_le (by omega)]
    simp [wk]
  | e + 1, i, c, out, he, hi, ho => by
    refine Ev.step (fun _ => impl_CellsOn.l0.eq_2 ..) (Ev.tt (by omega) (Ev.tt (by omega) (Ev.tt (by omega) (Ev.bind (impl_Step_ev hg hn _ _) ?_))))
    rw [rd_get (show i < way.length by omega), List.drop_eq_getElem_cons (show i < way.length by omega)]
    unfold wk
    refine Ev.ite (fun e1 => ?_) (fun e1 => ?_)
    · rw [if_pos e1]; exact Ev.ret rfl
    · rw [if_neg e1, wsucc (by omega)]
      refine Ev.tt (by omega) ?_
      refine Ev.eq (impl_Cells_l0 hg hn way hw e (i + 1) (stepI w h n c way[i]) (out ++ [stepI w h n c way[i]]) (by omega) (by omega) (by simp; omega)) ?_
      cases wk (stepI w h n) (stepI w h n c way[i]) (way.drop (i + 1)) <;> simp
theorem impl_CellsOn_ev (hg : gridOk w h = true) (hn : n < 2 ^ gapsN w h) (c : Int) (way : List Int) : Ev (fun k => impl_CellsOn.f k w h n c way) (cellsN' w h n c way) := by
  unfold impl_CellsOn.f cellsN'
  refine Ev.bnd0 (impl_isIn_one ..) ?_
  rw [mazeOk_iff.2 ⟨hg, n, rfl, hn⟩, Bool.true_and]
  by_cases hc : isCellI w h c = true
  · refine Ev.tt hc (Ev.step (fun _ => impl_CellsOn.j0.eq_2 ..) ?_)
    by_cases hw : way.length ≤ 400
    · rw [if_pos ⟨hc, hw⟩]
      refine Ev.ff (by rw [decide_eq_true_eq]; omega) ?_
      refine Ev.eq (impl_Cells_l0 hg hn way hw way.length 0 c [c] (by omega) (by omega) (by simp)) ?_
      rw [List.drop_zero]
      cases wk (stepI w h n) c way <;> simp
    · rw [if_neg (fun h => hw h.2)]
      exact Ev.tt (by rw [decide_eq_true_eq]; omega) (Ev.ret rfl)
  · rw [if_neg (fun h => hc h.1)]
    exact Ev.ff hc (Ev.step (fun _ => impl_CellsOn.j0.eq_2 ..) (Ev.tt rfl (Ev.ret rfl)))
theorem spec_Walk_l0 (hg : gridOk w h = true) (hn : n < 2 ^ gapsN w h) (way : List Int) (hw : way.length ≤ 400) : ∀ (e i : Nat) (c : Int), way.length - i = e → i ≤ way.length →
    ∃ v, Ev (fun k => spec_WalkWay.l0 k c way i w h n) (v, (wk (stepI w h n) c (way.drop i)).isSome)
  | 0, i, c, he, hi => by
    refine ⟨c, Ev.step (fun _ => spec_WalkWay.l0.eq_2 ..) (Ev.ff (by omega) (Ev.ret ?_))⟩
    rw [List.drop_eq_nil_of_le (by omega)]
    simp [wk]
  | e + 1, i, c, he, hi => by
    obtain ⟨v, ih⟩ := spec_Walk_l0 hg hn way hw e (i + 1) (stepI w h n c way[i]) (by omega) (by omega)
    rw [List.drop_eq_getElem_cons (show i < way.length by omega)]
    unfold wk
    by_cases e1 : stepI w h n c way[i] < 0
    · refine ⟨-1, Ev.step (fun _ => spec_WalkWay.l0.eq_2 ..) (Ev.tt (by omega) (Ev.tt (by omega) (Ev.bind (spec_Step_ev hg hn _ _) ?_)))⟩
      rw [rd_get (show i < way.length by omega), if_pos e1]
      exact Ev.tt e1 (Ev.ret rfl)
    · refine ⟨v, Ev.step (fun _ => spec_WalkWay.l0.eq_2 ..) (Ev.tt (by omega) (Ev.tt (by omega) (Ev.bind (spec_Step_ev hg hn _ _) ?_)))⟩
      rw [rd_get (show i < way.length by omega), if_neg e1, wsucc (by omega)]
      refine Ev.ff e1 (Ev.eq ih ?_)
      cases wk (stepI w h n) (stepI w h n c way[i]) (way.drop (i + 1)) <;> simp
theorem spec_Cells_l0 (hg : gridOk w h = true) (hn : n < 2 ^ gapsN w h) (way : List Int) (hw : way.length ≤ 400) : ∀ (e i : Nat) (c : Int) (out l : List Int), way.length - i = e → i ≤ way.length → out.length ≤ i + 1 → wk (stepI w h n) c (way.drop i) = some l →
    Ev (fun k => spec_CellsOn.l0 k c way out i w h n) (out ++ l)
  | 0, i, c, out, l, he, hi, ho, hk => by
    refine Ev.step (fun _ => spec_CellsOn.l0.eq_2 ..) (Ev.ff (by omega) (Ev.ret ?_))
    rw [List.drop_eq_nil_of_le (by omega)] at hk
    cases hk
    simp
  | e + 1, i, c, out, l, he, hi, ho, hk => by
    refine Ev.step (fun _ => spec_CellsOn.l0.eq_2 ..) (Ev.tt (by omega) (Ev.tt (by omega) (Ev.bind (spec_Step_ev hg hn _ _) (Ev.tt (by omega) ?_))))
    rw [rd_get (show i < way.length by omega), wsucc (by omega)]
    rw [List.drop_eq_getElem_cons (show i < way.length by omega)] at hk
    unfold wk at hk
    by_cases e1 : stepI w h n c way[i] < 0
    · rw [if_pos e1] at hk; cases hk
    · rw [if_neg e1] at hk
      obtain ⟨l', h', rfl⟩ := Option.map_eq_some_iff.1 hk
      refine Ev.eq (spec_Cells_l0 hg hn way hw e (i + 1) _ (out ++ [stepI w h n c way[i]]) l' (by omega) (by omega) (by simp; omega) h') (by simp)
theorem spec_CellsOn_ev (hg : gridOk w h = true) (hn : n < 2 ^ gapsN w h) (c : Int) (way : List Int) : Ev (fun k => spec_CellsOn.f k w h n c way) (cellsN' w h n c way) := by
  unfold spec_CellsOn.f
  refine Ev.bnd0 rfl ?_
  have hm : mazeOk w h n = true := mazeOk_iff.2 ⟨hg, n, rfl, hn⟩
  have hww : ∃ v, Ev (fun k => spec_WalkWay.f k w h n c way) (v, (if isCellI w h c = true ∧ way.length ≤ 400 then wk (stepI w h n) c way else none).isSome) := by
    unfold spec_WalkWay.f
    by_cases hc : isCellI w h c = true
    · by_cases hw : way.length ≤ 400
      · obtain ⟨v, hv⟩ := spec_Walk_l0 hg hn way hw way.length 0 c (by omega) (by omega)
        refine ⟨v, Ev.bnd0 (spec_l04Has_eq ..) (Ev.tt (by rw [hm, hc]; rfl) (Ev.step (fun _ => spec_WalkWay.j0.eq_2 ..) (Ev.ff (by rw [decide_eq_true_eq]; omega) ?_)))⟩
        rw [if_pos ⟨hc, hw⟩]
        rw [List.drop_zero] at hv
        exact hv
      · refine ⟨-1, Ev.bnd0 (spec_l04Has_eq ..) (Ev.tt (by rw [hm, hc]; rfl) (Ev.step (fun _ => spec_WalkWay.j0.eq_2 ..) (Ev.tt (by rw [decide_eq_true_eq]; omega) ?_)))⟩
        rw [if_neg (fun h => hw h.2)]
        exact Ev.ret rfl
    · refine ⟨-1, Ev.bnd0 (spec_l04Has_eq ..) (Ev.ff (by rw [hm, Bool.true_and]; exact hc) (Ev.step (fun _ => spec_WalkWay.j0.eq_2 ..) (Ev.tt rfl ?_)))⟩
      rw [if_neg (fun h => hc h.1)]
      exact Ev.ret rfl
  obtain ⟨v, hv⟩ := hww
  refine Ev.bind hv ?_
  unfold cellsN'
  by_cases e : isCellI w h c = true ∧ way.length ≤ 400
  · rw [if_pos e]
    cases hk : wk (stepI w h n) c way with
    | none => exact Ev.ff (by simp) (Ev.ret rfl)
    | some l =>
      refine Ev.tt (by simp) (Ev.tt (by simp) ?_)
      exact spec_Cells_l0 hg hn way e.2 way.length 0 c [c] l (by omega) (by omega) (by simp) (by rw [List.drop_zero]; exact hk)
  · rw [if_neg e]
    exact Ev.ff (by simp) (Ev.ret rfl)
end
theorem impl_CellsOn_bad {w h o : Int} (hm : mazeOk w h o = false) (c : Int) (way : List Int) : Ev (fun k => impl_CellsOn.f k w h o c way) [] := by
  unfold impl_CellsOn.f
  refine Ev.bnd0 (impl_isIn_one ..) ?_
  rw [hm, Bool.false_and]
  exact Ev.ff (by simp) (Ev.step (fun _ => impl_CellsOn.j0.eq_2 ..) (Ev.tt rfl (Ev.ret rfl)))
theorem spec_CellsOn_bad {w h o : Int} (hm : mazeOk w h o = false) (c : Int) (way : List Int) : Ev (fun k => spec_CellsOn.f k w h o c way) [] := by
  unfold spec_CellsOn.f
  refine Ev.bnd0 rfl ?_
  have hww : Ev (fun k => spec_WalkWay.f k w h o c way) (-1, false) := by
    unfold spec_WalkWay.f
    refine Ev.bnd0 (spec_l04Has_eq ..) (Ev.ff (by rw [hm]; simp) (Ev.step (fun _ => spec_WalkWay.j0.eq_2 ..) (Ev.tt rfl (Ev.ret rfl))))
  exact Ev.bind hww (Ev.ff (by simp) (Ev.ret rfl))
end Go.Proofs.Ytcajhmldbkfhiaa.P
namespace Go.Proofs.Ytcajhmldbkfhiaa.P
open Go.RowKit Go.Proofs.YtcajhmldbkfhiaaW.PrintWords
set_option linter.unusedVariables false
set_option linter.unusedSimpArgs false

def fullN (w h : Int) : Nat := 2 ^ gapsN w h - 1
theorem fullN_lt (w h : Int) : fullN w h < 2 ^ gapsN w h := by unfold fullN; have := Nat.two_pow_pos (gapsN w h); omega
theorem full_val {w h : Int} : wrap64 ((shl .i64 1 (gapsOf w h)) - 1) = ((fullN w h : Nat) : Int) := by
  have hc := gapsOf_range w h
  have hp := pow_le hc.1 hc.2
  rw [shl_one hc.1 hc.2, wrap64_id (by omega) (by omega)]
  unfold fullN gapsN
  have h1 := Nat.two_pow_pos (gapsOf w h).toNat
  have h2 := Int.natCast_pow 2 (gapsOf w h).toNat
  simp only [Int.cast_ofNat_Int] at h2
  omega
theorem impl_FullMaze_eq {w h : Int} (hg : gridOk w h = true) : impl_FullMaze.f w h = some (w, h, ((fullN w h : Nat) : Int)) := by
  unfold impl_FullMaze.f
  rw [impl_GridOk_eq, Option.bind_some, if_pos hg, impl_CountGaps_eq, Option.bind_some, if_pos (gapsOf_range w h).1, full_val]
theorem impl_FullMaze_bad {w h : Int} (hg : gridOk w h = false) : impl_FullMaze.f w h = some (0, 0, 0) := by
  unfold impl_FullMaze.f
  rw [impl_GridOk_eq, Option.bind_some, if_neg (by rw [hg]; decide)]
theorem spec_FullMaze_eq {w h : Int} (hg : gridOk w h = true) : spec_FullMaze.f w h = some (w, h, ((fullN w h : Nat) : Int)) := by
  unfold spec_FullMaze.f
  rw [spec_GridOk_eq, Option.bind_some, if_pos hg, spec_CountGaps_eq, Option.bind_some, if_pos (gapsOf_range w h).1, full_val]
theorem spec_FullMaze_bad {w h : Int} (hg : gridOk w h = false) : spec_FullMaze.f w h = some (0, 0, 0) := by
  unfold spec_FullMaze.f
  rw [spec_GridOk_eq, Option.bind_some, if_neg (by rw [hg]; decide)]
end Go.Proofs.Ytcajhmldbkfhiaa.P
namespace Go.Proofs.Ytcajhmldbkfhiaa.P
open Go.RowKit Go.Proofs.YtcajhmldbkfhiaaW.PrintWords Go.Proofs.YtcajhmldbkfhiaaW.PrintLast Go.Proofs.YtcajhmldbkfhiaaW.PrintMore
attribute [local go_sem] max2_int min2_int max_two min_two max_three min_three max_four min_four   -- for this text's walks alone
set_option linter.unusedVariables false
set_option linter.unusedSimpArgs false

/-! ### laws_markIntS: function 37 -/
/-! ### laws_heldIntS: function 38 -/
end Go.Proofs.Ytcajhmldbkfhiaa.P
namespace Go.Proofs.Ytcajhmldbkfhiaa.P
open Go.RowKit Go.Proofs.YtcajhmldbkfhiaaW.PrintWords
set_option linter.unusedVariables false
set_option linter.unusedSimpArgs false

theorem toIntS_l0 (l : List Int) (hl : l.length ≤ 35184372088832) : ∀ (d i : Nat) (m : List Int), l.length - i = d → i ≤ l.length → m.length = l.length → (∀ j, j < i → rd m j = rd l j) → Ev (fun k => laws_toIntS.l0 k l m i) l
  | 0, i, m, hd, hi, hm, he => by
    refine Ev.step (fun _ => laws_toIntS.l0.eq_2 ..) ?_
    refine Ev.ff (by omega) (Ev.ret ?_)
    refine List.ext_getElem hm fun j h1 h2 => ?_
    have := he j (by omega)
    rwa [rd_get h1, rd_get h2] at this
  | d + 1, i, m, hd, hi, hm, he => by
    refine Ev.step (fun _ => laws_toIntS.l0.eq_2 ..) ?_
    refine Ev.tt (by omega) (Ev.tt (by omega) (Ev.tt (by omega) ?_))
    rw [wsucc (by omega)]
    refine toIntS_l0 l hl d (i + 1) _ (by omega) (by omega) (by rw [List.length_set]; exact hm) fun j hj => ?_
    by_cases e : j = i
    · subst e
      rw [rd_get (by rw [List.length_set]; omega)]
      simp [rd_get (show j < l.length by omega)]
    · rw [← he j (by omega), rd_get (by rw [List.length_set]; omega), rd_get (by omega)]
      simp only [Int.toNat_natCast]
      rw [List.getElem_set_ne (by omega), rd_get (by omega)]
theorem toIntS_ev (l : List Int) (hl : l.length ≤ 35184372088832) : Ev (fun k => laws_toIntS.f k l) l := by
  unfold laws_toIntS.f
  refine Ev.tt (by omega) (Ev.tt (by omega) ?_)
  exact toIntS_l0 l hl l.length 0 _ (by omega) (by omega) (by simp) (fun j hj => by omega)

theorem eqIntS_l0 (a b : List Int) (hl : a.length = b.length) (hb : b.length ≤ 35184372088832) : ∀ (d i : Nat), a.length - i = d → i ≤ a.length → Ev (fun k => laws_eqIntS.l0 k a b i) (decide (a.drop i = b.drop i))
  | 0, i, hd, hi => by
    refine Ev.step (fun _ => laws_eqIntS.l0.eq_2 ..) ?_
    refine Ev.ff (by omega) (Ev.ret ?_)
    rw [List.drop_eq_nil_of_le (by omega), List.drop_eq_nil_of_le (by omega)]
    rfl
  | d + 1, i, hd, hi => by
    refine Ev.step (fun _ => laws_eqIntS.l0.eq_2 ..) ?_
    refine Ev.tt (by omega) (Ev.tt (by omega) (Ev.tt (by omega) ?_))
    have h1 : a.drop i = a[i]'(by omega) :: a.drop (i + 1) := List.drop_eq_getElem_cons (by omega)
    have h2 : b.drop i = b[i]'(by omega) :: b.drop (i + 1) := List.drop_eq_getElem_cons (by omega)
    rw [rd_get (show i < a.length by omega), rd_get (show i < b.length by omega), h1, h2]
    refine Ev.ite (fun e => ?_) (fun e => ?_)
    · rw [wsucc (by omega)]
      refine Ev.eq (eqIntS_l0 a b hl hb d (i + 1) (by omega) (by omega)) ?_
      rw [decide_eq_decide, List.cons.injEq, e]
      simp only [true_and]
    · refine Ev.ret ?_
      symm
      rw [decide_eq_false_iff_not, List.cons.injEq]
      exact fun h => e h.1
theorem eqIntS_ev (a b : List Int) (hb : b.length ≤ 35184372088832) : Ev (fun k => laws_eqIntS.f k a b) (decide (a = b)) := by
  unfold laws_eqIntS.f
  refine Ev.ite (fun h => ?_) (fun h => ?_)
  · have := eqIntS_l0 a b (by omega) hb a.length 0 (by omega) (by omega)
    simpa using this
  · refine Ev.ret ?_
    have : a ≠ b := by rintro rfl; exact h rfl
    simp [this]

end Go.Proofs.Ytcajhmldbkfhiaa.P
namespace Go.Proofs.Ytcajhmldbkfhiaa.P
open Go.RowKit Go.Proofs.YtcajhmldbkfhiaaW.PrintWords Go.Proofs.Ytcajhmldbkfhiaa.Sup
set_option linter.unusedVariables false
set_option linter.unusedSimpArgs false

/-- The first step at which so many different cells have been seen; -1 if none. -/
def coverF (V : Int) (L : List Int) : Nat → Nat → Int
  | 0, _ => -1
  | d + 1, i => if ((ordF (L.take (i + 1))).length : Int) = V then (i : Int) else coverF V L d (i + 1)
theorem implCover_l0 (L : List Int) (hL : L.length ≤ 1000) (w h : Int) : ∀ (d i : Nat), i + d = L.length → Ev (fun k => impl_CoverTime.l0 k L (L.length : Int) i w h) (coverF (cellsOf w h) L d i)
  | 0, i, hd => Ev.step (fun _ => impl_CoverTime.l0.eq_2 ..) (Ev.ff (by omega) (Ev.ret rfl))
  | d + 1, i, hd => by
    refine Ev.step (fun _ => impl_CoverTime.l0.eq_2 ..) (Ev.tt (by omega) ?_)
    rw [wsucc (by omega)]
    refine Ev.tt (by omega) (Ev.tt (by omega) ?_)
    rw [show (((i + 1 : Nat) : Int)).toNat = i + 1 from rfl]
    have hc : slices_Clone_int_int.f (L.take (i + 1)) = some (L.take (i + 1)) := by
      unfold slices_Clone_int_int.f; rw [if_pos (by rw [List.length_take]; omega)]
    have ho : impl_ordered.f (L.take (i + 1)) = some (ordF (L.take (i + 1))) := by
      unfold impl_ordered.f; rw [if_pos (by rw [List.length_take]; omega)]
    refine Ev.bnd0 hc (Ev.bnd0 ho (Ev.bnd0 (impl_CountCells_eq w h) ?_))
    unfold coverF
    refine Ev.ite (fun e => ?_) (fun e => ?_)
    · rw [if_pos e]; exact Ev.ret rfl
    · rw [if_neg e]; exact implCover_l0 L hL w h d (i + 1) (by omega)
theorem specCover_l0 (L : List Int) (hL : L.length ≤ 1000) (w h : Int) : ∀ (d i : Nat), i + d = L.length → Ev (fun k => spec_CoverTime.l0 k L (((ordF (L.take i)).length : Nat) : Int) i w h) (coverF (cellsOf w h) L d i)
  | 0, i, hd => Ev.step (fun _ => spec_CoverTime.l0.eq_2 ..) (Ev.ff (by omega) (Ev.ret rfl))
  | d + 1, i, hd => by
    have hle := ordF_len_le (L.take i)
    have hlt : (L.take i).length = i := by rw [List.length_take]; omega
    have hs := ordF_snoc_len (L.take i) (L[i]'(by omega))
    have hs' : L.take i ++ [L[i]'(by omega)] = L.take (i + 1) := by rw [List.take_succ_eq_append_getElem (by omega)]
    rw [hs'] at hs
    refine Ev.step (fun _ => spec_CoverTime.l0.eq_2 ..) (Ev.tt (by omega) (Ev.tt (by omega) (Ev.tt (by omega) ?_)))
    rw [show ((i : Int)).toNat = i from rfl, rd_get (show i < L.length by omega), wsucc (show i < 4611686018427387904 by omega), wsucc (show (ordF (L.take i)).length < 4611686018427387904 by omega)]
    refine Ev.bind (l07In_ev _ _ (by omega)) ?_
    have ih := specCover_l0 L hL w h d (i + 1) (by omega)
    unfold coverF
    refine Ev.ite (fun e => ?_) (fun e => ?_)
    · rw [decide_eq_true_eq] at e
      rw [if_pos e] at hs
      rw [hs] at ih ⊢
      refine Ev.bnd0 (spec_CountCells_eq w h) (Ev.ite (fun e2 => ?_) (fun e2 => ?_))
      · rw [if_pos (by simpa using e2)]; exact Ev.ret rfl
      · rw [if_neg (by simpa using e2)]; exact ih
    · rw [decide_eq_true_eq] at e
      rw [if_neg e] at hs
      rw [hs] at ih ⊢
      refine Ev.bnd0 (spec_CountCells_eq w h) (Ev.ite (fun e2 => ?_) (fun e2 => ?_))
      · rw [if_pos e2]; exact Ev.ret rfl
      · rw [if_neg e2]; exact ih
theorem FnExactCoverTime_pure (a0_0 a0_1 : Int) (w0_0 : InR a0_0) (w0_1 : InR a0_1) (a1 : Int) (h1 : InR a1) (l : List Int) (hy : l.length * 8 ≤ 140737488351232) (hz : ∀ x ∈ l, InR x) : ∃ k, laws_FnExactCoverTime.f k a0_0 a0_1 a1 l = some true := by
  refine Ev.rounds ?_
  have cells : ∃ L : List Int, L.length ≤ 1000 ∧ (∃ m : Int × Int × Int, impl_FullMaze.f a0_0 a0_1 = some m ∧ Ev (fun k => impl_CellsOn.f k m.1 m.2.1 m.2.2 a1 l) L) ∧ (∃ m : Int × Int × Int, spec_FullMaze.f a0_0 a0_1 = some m ∧ Ev (fun k => spec_CellsOn.f k m.1 m.2.1 m.2.2 a1 l) L) := by
    by_cases hg : gridOk a0_0 a0_1 = true
    · have hl := cellsN'_len a0_0 a0_1 (fullN a0_0 a0_1) a1 l
      exact ⟨_, by omega, ⟨_, impl_FullMaze_eq hg, impl_CellsOn_ev hg (fullN_lt a0_0 a0_1) a1 l⟩, ⟨_, spec_FullMaze_eq hg, spec_CellsOn_ev hg (fullN_lt a0_0 a0_1) a1 l⟩⟩
    · have hg := Bool.eq_false_iff.2 hg
      have hb : mazeOk 0 0 0 = false := by decide
      exact ⟨[], by simp, ⟨_, impl_FullMaze_bad hg, impl_CellsOn_bad hb a1 l⟩, ⟨_, spec_FullMaze_bad hg, spec_CellsOn_bad hb a1 l⟩⟩
  have key : ∃ r : Int, Ev (fun k => impl_CoverTime.f k a0_0 a0_1 a1 l) r ∧ Ev (fun k => spec_CoverTime.f k a0_0 a0_1 a1 l) r := by
    obtain ⟨L, hL, ⟨m1, e1, f1⟩, ⟨m2, e2, f2⟩⟩ := cells
    refine ⟨coverF (cellsOf a0_0 a0_1) L L.length 0, ?_, ?_⟩
    · unfold impl_CoverTime.f
      exact Ev.bnd0 e1 (Ev.bind f1 (implCover_l0 L hL _ _ L.length 0 (by omega)))
    · unfold spec_CoverTime.f
      exact Ev.bnd0 e2 (Ev.bind f2 (specCover_l0 L hL _ _ L.length 0 (by omega)))
  obtain ⟨r, hi, hs⟩ := key
  unfold laws_FnExactCoverTime.f
  refine Ev.ite (fun _ => Ev.ret rfl) (fun h => ?_)
  have ht := toIntS_ev l (by omega)
  refine Ev.bnd0 rfl (Ev.bind ht (Ev.bind hs (Ev.bind ht (Ev.bnd0 rfl (Ev.bind hi (Ev.tt rfl ?_))))))
  exact Ev.bind ht (Ev.bind (eqIntS_ev _ _ (by omega)) (Ev.tt (by simp) (Ev.ret rfl)))
end Go.Proofs.Ytcajhmldbkfhiaa.P
namespace Go.Proofs.Ytcajhmldbkfhiaa.fnExactCoverTime
open Go.ChangeShapes Go.WideShapes Go.ChangeAt Go.RowKit Go.Proofs.YtcajhmldbkfhiaaW.PrintWords Go.Proofs.Ytcajhmldbkfhiaa.Sup
open Go.ChangeMaps (open_string shut_string)
set_option linter.unusedVariables false
theorem own : ownKnob Try.prog.godebug = none := by kernel_rfl
theorem laidOut : laidOutB Try.prog = true := by kernel_rfl
set_option maxRecDepth 100000 in
theorem lifted (os : Os) (started : os.Started) (H : Type) (enc : TypeId × Value → H) :
    ReturnsInHanded {} Try.checked os 6 .any (Rows.fnExactCoverTimeSpec.pre6 enc Try.prog Try.f6 Rows.fnExactCoverTimeRow.domain false) (Rows.fnExactCoverTimeSpec.post enc Try.prog Try.f6 false true false false) := by
  refine returnsInHanded_of_change_sized (C := Try.checked) own started (by kernel_rfl) Try.func6
    (ChangeSpec.witness6 (enc := enc) (C := Try.checked) false ⟨#[], #[.agg #[.int .i64 0, .int .i64 0], .int .i64 0, .slice none 0 0], []⟩ 8 (by kernel_rfl) (by kernel_rfl) (by kernel_rfl) (by kernel_rfl)) ?_
  intro W base args ds gs before hval0 hW hcnd hsz0 _
  have hsz : (DataW.weightsEach Try.prog (Try.f6.params.toList ++ Rows.fnExactCoverTimeSpec.plain.varTypes Try.prog) (ds ++ gs)).all (· ≤ reachBytes) = true := hsz0
  have hval : ∀ (j : Nat) t v, Try.f6.params[j]? = some t → args[j]? = some v → Value.okWide Try.prog W .any base t v := hval0
  have hW' := hW
  obtain ⟨p, q, hA0, hV, rfl, hfz, hnd⟩ := hW
  have hA : DataW.TrodAll enc Try.prog W 0 (fun _ => true) true Try.f6.params.toList args.toList ds p := hA0
  rw [Try.params6] at hA hval hsz
  obtain ⟨v0, vs0, d0, ds0, p0, q0, hargs, rfl, rfl, h0, r0⟩ := trodAll_cons hA
  obtain ⟨v1, vs1, d1, ds1, p1, q1, rfl, rfl, rfl, h1, r1⟩ := trodAll_cons r0
  obtain ⟨v2, vs2, d2, ds2, p2, q2, rfl, rfl, rfl, h2, r2⟩ := trodAll_cons r1
  obtain ⟨rfl, rfl, rfl⟩ := trodAll_nil r2
  obtain rfl : args = #[v0, v1, v2] := by cases args; simp_all
  obtain ⟨rfl, rfl⟩ := trodVars_none hV
  have k0 := h0
  have lt0 : ∀ x ∈ p0, x.block < W.heap.size := by obtain ⟨m, hm⟩ := k0; exact DataW.trod_lt m _ _ _ hm
  obtain ⟨a0_0, a0_1, rfl, w0_0, w0_1⟩ := open2 Try.underlying27 (by kernel_rfl) (by kernel_rfl) rfl rfl (by kernel_rfl) (by kernel_rfl) (by kernel_rfl) (hval 0 27 v0 rfl rfl) h0
  have k1 := h1
  have lt1 : ∀ x ∈ p1, x.block < W.heap.size := by obtain ⟨m, hm⟩ := k1; exact DataW.trod_lt m _ _ _ hm
  obtain ⟨a1, rfl, rfl, rfl, w1⟩ := open_int Try.underlying3 (hval 1 3 v1 rfl rfl) h1
  obtain ⟨a2, len2, cap2, rfl⟩ := okWide_slice Try.underlying22 (hval 2 22 v2 rfl rfl)
  have k2 := h2
  have lt2 : ∀ x ∈ p2, x.block < W.heap.size := by obtain ⟨m, hm⟩ := k2; exact DataW.trod_lt m _ _ _ hm
  obtain ⟨z2, w2⟩ : ∃ zs, IsRow .i64 W a2 len2 cap2 zs := by
    obtain ⟨fuel, hf⟩ := h2
    rcases open_ints Try.underlying22 Try.underlying3 (by kernel_rfl) hf with ⟨hcs, _⟩ | ⟨x, l, c, zs, hcs, _, hl, hm, hz, _, hcell, hwz⟩
    · simp [Value.cells] at hcs
      obtain ⟨rfl, rfl, rfl⟩ := hcs
      exact ⟨[], .inl ⟨rfl, rfl, rfl, rfl⟩⟩
    · simp [Value.cells] at hcs
      obtain ⟨rfl, rfl, rfl⟩ := hcs
      exact ⟨zs, .inr ⟨_, rfl, hl, hm, by simpa using hz, hcell, hwz⟩⟩
  have y2 : len2 * 8 ≤ 140737488351232 := sized_ints hsz (j := 2) (t := 22) rfl rfl Try.underlying22 Try.underlying3 (by kernel_rfl) (by kernel_rfl) h2
  obtain ⟨l2, rfl, hr2, hm2, hw2, hc2⟩ := ReadsInt.ofRowC w2
  clear hA0 hval0 hsz0 hsz
  obtain ⟨k, hf⟩ := P.FnExactCoverTime_pure a0_0 a0_1 w0_0 w0_1 a1 (inR_of_wf w1) l2 (by omega) (fun x hx => inR_of_wf (hw2 x hx))
  refine (P.laws_FnExactCoverTime.calls k a0_0 a0_1 a1 _ _ l2 true W (Kd.C_of_reads (d := (0 : Int)) (h1 := fun _ => rfl) hr2) hc2 hf).mono fun e W' ⟨he, bel0⟩ => ?_
  have bel : Below W.heap.size W W' := bel0
  subst he
  exact ⟨_, rfl, _, _, _, [], _, [], hW', trodAll_mk1 (shut_bool Try.underlying4 _), (trodAll_cons_mk (Below.trod laidOut (by kernel_rfl) (of_decide_eq_true (by kernel_rfl)) k0 bel lt0) (trodAll_cons_mk (Below.trod laidOut (by kernel_rfl) (of_decide_eq_true (by kernel_rfl)) k1 bel lt1) (trodAll_cons_mk (Below.trod laidOut (by kernel_rfl) (of_decide_eq_true (by kernel_rfl)) k2 bel lt2) trodAll_mk0))), rfl, bel.frame _, fun h => by cases h⟩
theorem over : Rows.fnExactCoverTimeRow.holds Try.pinned (OpenSpec.ofChange Rows.fnExactCoverTimeSpec) :=
  OpenClaim.holds_of_wide 6 Try.f6 rfl rfl rfl rfl rfl rfl rfl ⟨rfl, rfl, rfl, rfl, rfl⟩ rfl rfl rfl rfl rfl (by kernel_rfl) Try.func6 (by kernel_rfl)
    (of_decide_eq_true (by kernel_rfl)) (by unfold Func.isWrapper; first | (rw [if_pos (by decide +kernel)]; kernel_rfl) | (rw [if_neg (by decide +kernel)]; exact ⟨rfl, rfl⟩))
    (fun os started H enc _ => lifted os started H enc)
theorem proved : Rows.FnExactCoverTimeSaid := over
end Go.Proofs.Ytcajhmldbkfhiaa.fnExactCoverTime
namespace Go.Proofs.Ytcajhmldbkfhiaa
/-- The row, under a short name, for the claim. -/
theorem fnExactCoverTime_holds : Rows.FnExactCoverTimeSaid := fnExactCoverTime.proved
#print axioms fnExactCoverTime_holds
end Go.Proofs.Ytcajhmldbkfhiaa
