/- The statement FnExactGrowMaze of the seat, out of its plain form (FnExactGrowMaze_pure) and the walk of its Go function. Part 4 of 4: each Go function's walk, then the plain lemmas, then the row. No condition: it holds for every input. -/
import Derived.Test.YtbeajmcjfhbcjaaBFnExactGrowMaze3
import Derived.Test.YtbeajmcjfhbcjaaRows
import Derived.Below
import Derived.ChangeOld
import Derived.Deep.Matrix
import Derived.Lib.SmallJoins
import Derived.OpenShut
import Derived.ProofKit
import Derived.ShutString
import Derived.SizedLaws
import Derived.WalkKit
namespace Go.Proofs.Ytbeajmcjfhbcjaa.Sup
open Go.ChangeShapes Go.WideShapes Go.ChangeAt Go.RowKit Go.Joins Go.Proofs.YtbeajmcjfhbcjaaW.PrintWords
set_option linter.unusedVariables false
set_option linter.unusedSimpArgs false

def InR (a : Int) : Prop := -9223372036854775808 ≤ a ∧ a ≤ 9223372036854775807
theorem inR_of_wf {a : Int} (h : (Lit.int .i64 a).wf = true) : InR a := by
 simp only [Lit.wf, IntKind.min, IntKind.max, IntKind.signed, IntKind.bits, Bool.and_eq_true, decide_eq_true_eq, if_true] at h
 unfold InR
 omega
section
variable {H : Type} {enc : TypeId × Value → H} {P : Program} {w : World} {base : Nat} {spare : Nat → Bool} {held : Bool}

theorem open2 {r : Reach} {b0 : Nat} {t : TypeId} {f0 f1 : Field} {v : Value} {d : DataW H} {p : List MemPlace} (hs : P.underlying t = some (.struct #[f0, f1])) (h0 : P.underlying f0.type = some (.int .i64)) (h1 : P.underlying f1.type = some (.int .i64))
  (o0 : f0.offset = 0) (o1 : f1.offset = 1) (c0 : P.cellsOf f0.type = 1) (c1 : P.cellsOf f1.type = 1) (hC : P.cellsOf t = 2)
  (hv : Value.okWide P w r b0 t v) (h : DataW.Trod enc P w base spare held t v d p) :
  ∃ a b : Int, v = .agg #[.int .i64 a, .int .i64 b] ∧ InR a ∧ InR b := by
 obtain ⟨cs, rfl, hsz⟩ := okWide_struct hs hv
 obtain ⟨x0, x1, rfl⟩ := array2 (hsz.trans hC)
 obtain ⟨fuel, hf⟩ := h
 obtain ⟨y0, y1, n, hx, _, g0, g1⟩ := trod_struct2 hs hf
 simp only [Value.cells, o0, o1, c0, c1, List.drop_zero, List.take_succ_cons, List.take_zero, List.drop_succ_cons] at g0 g1
 obtain ⟨a, e0, _, w0⟩ := DataW.trod_int h0 g0
 obtain ⟨b, e1, _, w1⟩ := DataW.trod_int h1 g1
 simp at e0 e1
 subst e0 e1
 exact ⟨a, b, rfl, inR_of_wf w0, inR_of_wf w1⟩

end

def IsRow (k : IntKind) (w : World) (a : Option Addr) (len cap : Nat) (zs : List Int) : Prop :=
 (a = none ∧ len = 0 ∧ cap = 0 ∧ zs = []) ∨
 ∃ x, a = some x ∧ len ≤ cap ∧ cap ≤ maxLen ∧ zs.length = cap ∧ (∀ i, i < zs.length → w.cell? (x.add i) = some (.int k (zs.getD i 0))) ∧ ∀ n ∈ zs, (Lit.int k n).wf = true

end Go.Proofs.Ytbeajmcjfhbcjaa.Sup
namespace Go.Proofs.Ytbeajmcjfhbcjaa.P
open Go.RowKit Go.Proofs.YtbeajmcjfhbcjaaW.PrintWords
set_option linter.unusedVariables false
set_option linter.unusedSimpArgs false

theorem l01In_eq (a b c : Int) : spec_l01In.f a b c = some (decide (b ≤ a ∧ a ≤ c)) := by
 unfold spec_l01In.f
 by_cases h : a ≥ b
 ·rw [if_pos h]; congr 1; simp; omega
 ·rw [if_neg h]; congr 1; simp; omega

end Go.Proofs.Ytbeajmcjfhbcjaa.P
namespace Go.Proofs.Ytbeajmcjfhbcjaa.P
open Go.RowKit Go.Proofs.YtbeajmcjfhbcjaaW.PrintWords Go.Proofs.Ytbeajmcjfhbcjaa.Sup
set_option linter.unusedVariables false
set_option linter.unusedSimpArgs false

theorem spec_GridOk_eq (w h : Int) : spec_GridOk.f w h = some (gridOk w h) := by
 unfold spec_GridOk.f
 simp only [l01In_eq, Option.bind_some]
 unfold gridOk
 by_cases h1 : 1 ≤ w ∧ w ≤ 4
 ·simp only [h1, and_self, decide_true, if_true, true_and]
 ·have : ¬ (1 ≤ w ∧ w ≤ 4 ∧ 1 ≤ h ∧ h ≤ 4) := by omega
  rw [decide_eq_false h1, decide_eq_false this]; simp
theorem impl_GridOk_eq (w h : Int) : impl_GridOk.f w h = some (gridOk w h) := by
 unfold impl_GridOk.f gridOk
 repeat' split
 all_goals congr 1
 all_goals first | (rw [decide_eq_decide]; omega) | (symm; rw [decide_eq_false_iff_not]; omega)

theorem impl_CountCells_eq (w h : Int) : impl_CountCells.f w h = some (cellsOf w h) := by
 unfold impl_CountCells.f
 rw [impl_GridOk_eq, Option.bind_some]
 have := cellsOf_range w h
 unfold cellsOf at *
 by_cases hg : gridOk w h = true
 ·rw [if_pos hg] at *
  rw [if_pos hg, wrap64_id (by omega) (by omega)]
 ·rw [if_neg hg, if_neg hg]
theorem spec_CountCells_eq (w h : Int) : spec_CountCells.f w h = some (cellsOf w h) := by
 unfold spec_CountCells.f
 rw [spec_GridOk_eq, Option.bind_some]
 have := cellsOf_range w h
 unfold cellsOf at *
 by_cases hg : gridOk w h = true
 ·rw [if_pos hg] at *
  rw [if_pos hg, wrap64_id (by omega) (by omega)]
 ·rw [if_neg hg, if_neg hg]
theorem impl_CountGaps_eq (w h : Int) : impl_CountGaps.f w h = some (gapsOf w h) := by
 unfold impl_CountGaps.f
 rw [impl_GridOk_eq, Option.bind_some]
 unfold gapsOf
 by_cases hg : gridOk w h = true
 ·rw [if_pos hg, if_pos hg]
  obtain ⟨h1 | h1 | h1 | h1, h2 | h2 | h2 | h2⟩ := grid_cases hg <;> subst h1 <;> subst h2 <;> simp [wrap64, eastOf]
 ·rw [if_neg hg, if_neg hg]
theorem spec_l02East_eq {w h : Int} (hg : gridOk w h = true) : spec_l02East.f w h = some (eastOf w h) := by
 unfold spec_l02East.f eastOf
 obtain ⟨h1 | h1 | h1 | h1, h2 | h2 | h2 | h2⟩ := grid_cases hg <;> subst h1 <;> subst h2 <;> simp [wrap64, eastOf]
theorem spec_CountGaps_eq (w h : Int) : spec_CountGaps.f w h = some (gapsOf w h) := by
 unfold spec_CountGaps.f
 rw [spec_GridOk_eq, Option.bind_some]
 unfold gapsOf
 by_cases hg : gridOk w h = true
 ·rw [if_pos hg, if_pos hg, spec_l02East_eq hg, Option.bind_some]
  obtain ⟨h1 | h1 | h1 | h1, h2 | h2 | h2 | h2⟩ := grid_cases hg <;> subst h1 <;> subst h2 <;> simp [wrap64, eastOf]
 ·rw [if_neg hg, if_neg hg]

theorem shl_one {n : Int} (h0 : 0 ≤ n) (h1 : n ≤ 24) : shl .i64 1 n = 2 ^ n.toNat := by
 obtain ⟨m, rfl⟩ := Int.eq_ofNat_of_zero_le h0
 have : m ≤ 24 := by omega
 clear h0 h1
 revert m
 decide +kernel
end Go.Proofs.Ytbeajmcjfhbcjaa.P
namespace Go.Proofs.Ytbeajmcjfhbcjaa.P
open Go.RowKit Go.Proofs.YtbeajmcjfhbcjaaW.PrintWords Go.Proofs.YtbeajmcjfhbcjaaW.PrintLast Go.Proofs.YtbeajmcjfhbcjaaW.PrintMore
attribute [local go_sem] max2_int min2_int max_two min_two max_three min_three max_four min_four   -- for this text's walks alone
set_option linter.unusedVariables false
set_option linter.unusedSimpArgs false

end Go.Proofs.Ytbeajmcjfhbcjaa.P
namespace Go.Proofs.Ytbeajmcjfhbcjaa.P
open Go.RowKit Go.Proofs.YtbeajmcjfhbcjaaW.PrintWords
set_option linter.unusedVariables false
set_option linter.unusedSimpArgs false

theorem spec_MazeOk_eq (w h o : Int) : spec_MazeOk.f w h o = some (mazeOk w h o) := by
 have hc := gapsOf_range w h
 have hp := pow_le hc.1 hc.2
 unfold spec_MazeOk.f mazeOk gapsN
 rw [spec_GridOk_eq, Option.bind_some]
 cases hg : gridOk w h
 ·simp
 ·rw [if_pos rfl, spec_CountGaps_eq, Option.bind_some, if_pos hc.1, shl_one hc.1 hc.2, l01In_eq, Option.bind_some, wrap64_id (by omega) (by omega)]
  simp only [Bool.true_and]
  congr 1
  rw [decide_eq_decide]
  omega
theorem spec_l03Bit_eq {n : Nat} (hn : n < 16777216) {g : Int} (hg : 0 ≤ g) : spec_l03Bit.f n g = some (openI n g) := by
 unfold spec_l03Bit.f openI
 rw [if_pos hg]
 obtain ⟨m, rfl⟩ := Int.eq_ofNat_of_zero_le hg
 rw [bit_one (by omega)]
 simp
theorem impl_isGap_eq (w h g : Int) : impl_isGap.f w h g = some (isGapI w h g) := by
 unfold impl_isGap.f isGapI
 rw [impl_CountGaps_eq]
 by_cases hc : g ≥ 0
 ·rw [if_pos hc, Option.bind_some]; congr 1; rw [decide_eq_decide]; omega
 ·rw [if_neg hc]; congr 1; symm; rw [decide_eq_false_iff_not]; omega
theorem impl_with_eq (w h : Int) {n : Nat} (hn : n < 16777216) {g : Nat} (hg : g < 24) (b : Bool) : impl_with.f w h n g b = some (w, h, ((setB n g b : Nat) : Int)) := by
 have hp : 2 ^ g ≤ 2 ^ 24 := Nat.pow_le_pow_right (by decide) (by omega)
 unfold impl_with.f
 rw [if_pos (by omega), shl_pow (by omega), bits_andNot (by omega) (by omega)]
 cases b
 ·rw [if_neg (by decide)]
  rfl
 ·rw [if_pos rfl, bits_or (by have := andNot_le n (2 ^ g); omega) (by omega)]
  have e : andNot n (2 ^ g) ||| 2 ^ g = setB n g true := by
   apply Nat.eq_of_testBit_eq
   intro i
   rw [testBit_setB, Nat.testBit_or, testBit_andNot, Nat.testBit_two_pow]
   by_cases h : i = g
   ·simp [h]
   ·simp [h, show ¬ g = i from fun e => h e.symm]
  rw [e]
end Go.Proofs.Ytbeajmcjfhbcjaa.P
namespace Go.Proofs.Ytbeajmcjfhbcjaa.P
open Go.RowKit Go.Proofs.YtbeajmcjfhbcjaaW.PrintWords Go.Proofs.YtbeajmcjfhbcjaaW.PrintLast Go.Proofs.YtbeajmcjfhbcjaaW.PrintMore
attribute [local go_sem] max2_int min2_int max_two min_two max_three min_three max_four min_four   -- for this text's walks alone
set_option linter.unusedVariables false
set_option linter.unusedSimpArgs false

end Go.Proofs.Ytbeajmcjfhbcjaa.P
namespace Go.Proofs.Ytbeajmcjfhbcjaa.P
open Go.RowKit Go.Proofs.YtbeajmcjfhbcjaaW.PrintWords
set_option linter.unusedVariables false
set_option linter.unusedSimpArgs false

theorem chooser_next_nx (l : List Int) {m : Nat} (h : 0 < m) : chooser_next l (m : Int) = some (((nx l % m : Nat) : Int), l.tail) := by
 cases l with
 | nil => simp [chooser_next, nx]
 | cons v t =>
  have e : mx v 0 = ((nx (v :: t) : Nat) : Int) := by
   have : nx (v :: t) = (max v 0).toNat := rfl
   rw [this]; unfold mx; omega
  show (if (m : Int) = 0 then none else some (Int.tmod (mx v 0) m, t)) = _
  rw [if_neg (by omega), e, Int.tmod_eq_emod_of_nonneg (by omega), ← Int.natCast_emod]
  rfl
end Go.Proofs.Ytbeajmcjfhbcjaa.P
namespace Go.Proofs.Ytbeajmcjfhbcjaa.P
open Go.RowKit Go.Proofs.YtbeajmcjfhbcjaaW.PrintWords Go.Proofs.YtbeajmcjfhbcjaaW.PrintLast Go.Proofs.YtbeajmcjfhbcjaaW.PrintMore
attribute [local go_sem] max2_int min2_int max_two min_two max_three min_three max_four min_four   -- for this text's walks alone
set_option linter.unusedVariables false
set_option linter.unusedSimpArgs false

end Go.Proofs.Ytbeajmcjfhbcjaa.P
namespace Go.Proofs.Ytbeajmcjfhbcjaa.P
open Go.RowKit Go.Proofs.YtbeajmcjfhbcjaaW.PrintWords
set_option linter.unusedVariables false
set_option linter.unusedSimpArgs false

theorem spec_SetGap_ev {w h : Int} {n : Nat} (hg : gridOk w h = true) (hn : n < 2 ^ gapsN w h) {g : Nat} (hgg : g < gapsN w h) (b : Bool) : Ev (fun k => spec_SetGap.f k w h n g b) (w, h, ((setB n g b : Nat) : Int), true) := by
 have hr := gapsOf_range w h
 have hc := gapsN_cast w h
 have hp : 2 ^ g ≤ 2 ^ 24 := Nat.pow_le_pow_right (by decide) (by have := gapsN_le w h; omega)
 have hs := open_small hn
 unfold spec_SetGap.f
 refine Ev.bnd0 (spec_MazeOk_eq w h n) (Ev.tt (mazeOk_iff.2 ⟨hg, n, rfl, hn⟩) ?_)
 refine Ev.bnd0 (spec_CountGaps_eq w h) ?_
 rw [wrap64_id (by omega) (by omega)]
 refine Ev.bnd0 (l01In_eq ..) ?_
 rw [decide_eq_true (by omega)]
 refine Ev.step (fun _ => spec_SetGap.j0.eq_2 ..) ?_
 refine Ev.ff (by decide) (Ev.bnd0 (spec_l03Bit_eq hs (by omega)) ?_)
 have ho : openI n (g : Int) = n.testBit g := by simp [openI]
 rw [ho]
 refine Ev.ite (fun e => Ev.tt (by omega) (Ev.ret ?_)) (fun e => Ev.ret ?_)
 ·rw [shl_pow (by omega), bits_xor (by omega) (by omega), xor_setB (by simpa using e)]
 ·have : n.testBit g = b := by simpa using e
  rw [← this, setB_self]
end Go.Proofs.Ytbeajmcjfhbcjaa.P
namespace Go.Proofs.Ytbeajmcjfhbcjaa.P
open Go.RowKit Go.Proofs.YtbeajmcjfhbcjaaW.PrintWords Go.Proofs.YtbeajmcjfhbcjaaW.PrintLast Go.Proofs.YtbeajmcjfhbcjaaW.PrintMore
attribute [local go_sem] max2_int min2_int max_two min_two max_three min_three max_four min_four   -- for this text's walks alone
set_option linter.unusedVariables false
set_option linter.unusedSimpArgs false

end Go.Proofs.Ytbeajmcjfhbcjaa.P
namespace Go.Proofs.Ytbeajmcjfhbcjaa.P
open Go.RowKit Go.Proofs.YtbeajmcjfhbcjaaW.PrintWords
set_option linter.unusedVariables false
set_option linter.unusedSimpArgs false

theorem spec_choice (l : List Int) (k : Nat) : spec_l17Choice.f l (k : Int) = some ((nx (l.drop k) : Nat) : Int) := by
 unfold spec_l17Choice.f
 by_cases h : l.length ≤ k
 ·rw [if_pos (by omega), List.drop_eq_nil_of_le h]
  rfl
 ·rw [if_neg (by omega), if_pos (by omega), if_pos (by omega), rd_get (show k < l.length by omega), List.drop_eq_getElem_cons (show k < l.length by omega)]
  have : nx (l[k] :: l.drop (k + 1)) = (max l[k] 0).toNat := rfl
  rw [this]
  unfold mx
  congr 1
  omega
theorem impl_EndsOf_eq (w h g : Int) : impl_EndsOf.f w h g = some (endsI w h g) := by
 unfold impl_EndsOf.f endsI
 rw [impl_isGap_eq, Option.bind_some]
 unfold isGapI
 by_cases hc : 0 ≤ g ∧ g < gapsOf w h
 ·rw [if_pos hc, if_pos (by simpa using hc)]
  obtain ⟨hg, hgw⟩ := gapsOf_valid hc.1 hc.2
  have hgr := gridOk_iff.1 hg
  have hrr := gapsOf_range w h
  have hq0 : 0 ≤ (w - 1) * h := Int.mul_nonneg (by omega) (by omega)
  have hq1 : (w - 1) * h ≤ 3 * 4 := Int.mul_le_mul (by omega) (by omega) (by omega) (by omega)
  have hw1 : w - 1 = 0 → (w - 1) * h = 0 := fun e => by rw [e, Int.zero_mul]
  rw [wrap64_id (x := w - 1) (by omega) (by omega), wrap64_id (x := (w - 1) * h) (by omega) (by omega)]
  by_cases hlt : g < (w - 1) * h
  ·rw [if_pos hlt, if_neg (by omega)]
   have hne : w - 1 ≠ 0 := fun e => by have := hw1 e; omega
   have ha0 : 0 ≤ g / (w - 1) := Int.ediv_nonneg hc.1 (by omega)
   have ha1 : g / (w - 1) ≤ g := Int.ediv_le_self _ hc.1
   have hb0 : 0 ≤ g % (w - 1) := Int.emod_nonneg _ (by omega)
   have hb1 : g % (w - 1) < w - 1 := Int.emod_lt_of_pos _ (by omega)
   have hp0 : 0 ≤ g / (w - 1) * w := Int.mul_nonneg ha0 (by omega)
   have hp1 : g / (w - 1) * w ≤ 23 * 4 := Int.mul_le_mul (by omega) (by omega) (by omega) (by omega)
   rw [if_neg hne, Int.tmod_eq_emod_of_nonneg hc.1, Int.tdiv_eq_ediv_of_nonneg hc.1, wrap64_id (x := g / (w - 1)) (by omega) (by omega), wrap64_id (x := g / (w - 1) * w) (by omega) (by omega), wrap64_id (x := g / (w - 1) * w + g % (w - 1)) (by omega) (by omega), wrap64_id (by omega) (by omega)]
  ·rw [if_neg hlt, if_pos (by omega)]
   rw [wrap64_id (x := g - (w - 1) * h) (by omega) (by omega), wrap64_id (by omega) (by omega)]
 ·rw [if_neg hc, if_neg (by simpa using hc)]
theorem spec_EndsOf_eq (w h g : Int) : spec_EndsOf.f w h g = some (endsI w h g) := by
 unfold spec_EndsOf.f endsI
 have hr0 := gapsOf_range w h
 rw [spec_CountGaps_eq, Option.bind_some, wrap64_id (x := gapsOf w h - 1) (by omega) (by omega), l01In_eq, Option.bind_some]
 by_cases hc : 0 ≤ g ∧ g < gapsOf w h
 ·rw [if_pos hc, if_pos (by simp; omega)]
  obtain ⟨hg, hgw⟩ := gapsOf_valid hc.1 hc.2
  have hgr := gridOk_iff.1 hg
  have hrr := gapsOf_range w h
  have hq0 : 0 ≤ (w - 1) * h := Int.mul_nonneg (by omega) (by omega)
  have hq1 : (w - 1) * h ≤ 3 * 4 := Int.mul_le_mul (by omega) (by omega) (by omega) (by omega)
  have hw1 : w - 1 = 0 → (w - 1) * h = 0 := fun e => by rw [e, Int.zero_mul]
  rw [spec_l02East_eq hg]
  unfold eastOf
  simp only [Option.bind_some]
  rw [wrap64_id (x := w - 1) (by omega) (by omega)]
  by_cases hlt : g < (w - 1) * h
  ·rw [if_pos hlt, if_pos hlt]
   have hne : w - 1 ≠ 0 := fun e => by have := hw1 e; omega
   have ha0 : 0 ≤ g / (w - 1) := Int.ediv_nonneg hc.1 (by omega)
   have ha1 : g / (w - 1) ≤ g := Int.ediv_le_self _ hc.1
   have hb0 : 0 ≤ g % (w - 1) := Int.emod_nonneg _ (by omega)
   have hb1 : g % (w - 1) < w - 1 := Int.emod_lt_of_pos _ (by omega)
   have hp0 : 0 ≤ g / (w - 1) * w := Int.mul_nonneg ha0 (by omega)
   have hp1 : g / (w - 1) * w ≤ 23 * 4 := Int.mul_le_mul (by omega) (by omega) (by omega) (by omega)
   rw [if_neg hne, Int.tmod_eq_emod_of_nonneg hc.1, Int.tdiv_eq_ediv_of_nonneg hc.1, wrap64_id (x := g / (w - 1)) (by omega) (by omega), wrap64_id (x := g / (w - 1) * w) (by omega) (by omega), wrap64_id (x := g / (w - 1) * w + g % (w - 1)) (by omega) (by omega), wrap64_id (by omega) (by omega)]
  ·rw [if_neg hlt, if_neg hlt]
   rw [wrap64_id (x := g - (w - 1) * h) (by omega) (by omega), wrap64_id (by omega) (by omega)]
 ·rw [if_neg hc, if_neg (by simp; omega)]
def frI (w h : Int) (S i : Nat) : List Int := ((List.range i).filter fun g => S.testBit (ends w h g).1 != S.testBit (ends w h g).2).map fun (g : Nat) => (g : Int)
theorem frI_succ (w h : Int) (S i : Nat) : frI w h S (i + 1) = if (S.testBit (ends w h i).1 != S.testBit (ends w h i).2) = true then frI w h S i ++ [(i : Int)] else frI w h S i := by
 unfold frI
 rw [List.range_succ, List.filter_append, List.map_append]
 by_cases e : (S.testBit (ends w h i).1 != S.testBit (ends w h i).2) = true
 ·rw [if_pos e, List.filter_cons_of_pos (p := fun g => S.testBit (ends w h g).1 != S.testBit (ends w h g).2) (a := i) (l := []) e]
  rfl
 ·rw [if_neg e, List.filter_cons_of_neg (p := fun g => S.testBit (ends w h g).1 != S.testBit (ends w h g).2) (a := i) (l := []) e]
  simp
theorem frI_all (w h : Int) (S : Nat) : frI w h S (gapsN w h) = (frN w h S).map fun (g : Nat) => (g : Int) := rfl
theorem frI_len (w h : Int) (S i : Nat) : (frI w h S i).length ≤ i := by
 unfold frI
 rw [List.length_map]
 exact Nat.le_trans (List.length_filter_le _ _) (by rw [List.length_range]; exact Nat.le_refl _)
theorem frN_rd {w h : Int} {S : Nat} (h0 : 0 < (frN w h S).length) (l : List Int) : rd ((frN w h S).map fun (g : Nat) => (g : Int)) ((nx l % (frN w h S).length : Nat) : Int) = ((growG w h S l : Nat) : Int) := by
 have := Nat.mod_lt (nx l) h0
 rw [rd_get (by rw [List.length_map]; exact this), List.getElem_map]
 unfold growG
 rw [List.getD_eq_getElem?_getD, List.getElem?_eq_getElem this]
 rfl
theorem growN_step {w h : Int} {r S o f : Nat} (hg : gridOk w h = true) (G : Grw w h r S o) (hf : pop (cellsN w h) S + (f + 1) = cellsN w h) (l : List Int) :
  0 < (frN w h S).length ∧ growG w h S l < gapsN w h ∧ Grw w h r (growS w h S (growG w h S l)) (setB o (growG w h S l) true) ∧ pop (cellsN w h) (growS w h S (growG w h S l)) = pop (cellsN w h) S + 1 := by
 have h0 := G.front hg (by omega)
 have hm := growG_mem h0 l
 obtain ⟨hgl, hne⟩ := mem_frN.1 hm
 have G2 := G.step hm
 have ho : o.testBit (growG w h S l) = false := by
  rw [Bool.eq_false_iff]
  intro e
  have := G.inn _ e
  rw [this.1, this.2] at hne
  exact hne rfl
 refine ⟨h0, hgl, G2, ?_⟩
 have a := G2.cnt
 have b := G.cnt
 rw [pop_setB hgl ho] at a
 omega
def PS (p : Int → Bool) (S : Nat) : Prop := ∀ c : Nat, p (c : Int) = S.testBit c
theorem PS.add {p : Int → Bool} {S : Nat} (h : PS p S) (a : Nat) : PS (pAdd p (a : Int)) (setB S a true) := by
 intro c
 rw [testBit_setB]
 unfold pAdd
 by_cases e : c = a
 ·rw [if_pos e, if_pos (by omega)]
 ·rw [if_neg e, if_neg (by omega), h c]
theorem PS.cnt {p : Int → Bool} {S s V : Nat} (h : PS p S) (hs : s = pop V S) {a : Nat} (ha : a < V) : sAdd p s (a : Int) = pop V (setB S a true) := by
 unfold sAdd
 rw [h a]
 cases e : S.testBit a with
 | true => rw [if_pos rfl, setB_on e, hs]
 | false => rw [if_neg (by decide), pop_setB ha e, hs]
theorem ends_ok {w h : Int} {g : Nat} (hg : g < gapsN w h) : gm_ok (endsI w h g).1 (endsI w h g).2 := by
 obtain ⟨e, h1, h2⟩ := ends_facts hg
 have := cellsN_le w h
 rw [e]
 exact ⟨by dsimp only; omega, by dsimp only; omega, by dsimp only; omega, by dsimp only; omega⟩
theorem gm_in_eq {w h : Int} {p : Int → Bool} {S : Nat} (hp : PS p S) : ∀ d i, i + d = gapsN w h → gm_in w h p d i (frI w h S i) = some (frI w h S (gapsN w h))
 | 0, i, hi => by
  obtain rfl : i = gapsN w h := by omega
  rfl
 | d + 1, i, hi => by
  have hil : i < gapsN w h := by omega
  obtain ⟨e, _, _⟩ := ends_facts hil
  rw [gm_in, impl_EndsOf_eq, Option.bind_some, if_pos (ends_ok hil), e]
  dsimp only
  rw [hp, hp, ← frI_succ]
  exact gm_in_eq hp d (i + 1) (by omega)
theorem gm_ev {w h : Int} {r : Nat} (hg : gridOk w h = true) : ∀ (f S o : Nat) (l : List Int) (p : Int → Bool) (s : Nat), Grw w h r S o → PS p S → s = pop (cellsN w h) S → pop (cellsN w h) S + f = cellsN w h →
  Ev (fun k => gm_f w h (cellsN w h) (gapsN w h) k w h o p s l) (w, h, ((growN w h f S o l : Nat) : Int))
 | 0, S, o, l, p, s, G, hp, hs, hf => Ev.step (fun _ => gm_f.eq_2 ..) (Ev.ff (by omega) (Ev.ret rfl))
 | f + 1, S, o, l, p, s, G, hp, hs, hf => by
  obtain ⟨h0, hgl, G2, hpop⟩ := growN_step hg G hf l
  have h24 := gapsN_le w h
  have hlt := Nat.mod_lt (nx l) h0
  have ho24 : o < 16777216 := Nat.lt_of_lt_of_le G.lt (Nat.pow_le_pow_right (show 0 < 2 by decide) h24)
  obtain ⟨e, e1, e2⟩ := ends_facts hgl
  have hok := ends_ok hgl
  refine Ev.step (fun _ => gm_f.eq_2 ..) (Ev.tt (by omega) (Ev.bnd0 (gm_in_eq hp (gapsN w h) 0 (by omega)) ?_))
  rw [frI_all, List.length_map]
  refine Ev.bnd0 (chooser_next_nx l h0) (Ev.tt ⟨by dsimp only; omega, by dsimp only; omega⟩ ?_)
  dsimp only
  rw [frN_rd h0]
  rw [e] at hok
  refine Ev.bnd0 (a := (((ends w h (growG w h S l)).1 : Int), ((ends w h (growG w h S l)).2 : Int))) (by rw [impl_EndsOf_eq, e]) (Ev.tt hok (Ev.bnd0 (impl_with_eq w h ho24 (by omega) true) ?_))
  have hp1 := hp.add (ends w h (growG w h S l)).1
  exact gm_ev hg f _ _ l.tail _ _ G2 (hp1.add _) (hp1.cnt (hp.cnt hs (by omega)) e2) (by omega)
theorem PS.start : PS (pAdd (fun _ => false) 0) 1 := by
 intro c
 unfold pAdd
 have : (1 : Nat).testBit c = decide (0 = c) := Nat.testBit_two_pow (n := 0)
 rw [this]
 by_cases e : c = 0
 ·subst e; rfl
 ·rw [if_neg (by omega), decide_eq_false (by omega)]
theorem impl_GrowMaze_ev {w h : Int} (hg : gridOk w h = true) (l : List Int) : Ev (fun k => impl_GrowMaze.f k w h l) (w, h, ((growN w h (cellsN w h - 1) 1 0 l : Nat) : Int)) := by
 have hV := cells_pos hg
 have h16 := cellsN_le w h
 have h24 := gapsN_le w h
 have hc := cellsN_cast w h
 have hgc := gapsN_cast w h
 have G0 := Grw.start (w := w) (h := h) (r := 0) (by omega)
 have h0 := G0.cnt
 rw [pop_nil] at h0
 unfold impl_GrowMaze.f
 refine Ev.bnd0 (impl_GridOk_eq w h) (Ev.tt hg (Ev.bnd0 (impl_CountCells_eq w h) (Ev.bnd0 (impl_CountGaps_eq w h) (Ev.tt (by omega) ?_))))
 exact gm_ev hg (cellsN w h - 1) 1 0 l _ 1 G0 PS.start h0.symm (by rw [show (2 : Nat) ^ 0 = 1 from rfl] at h0; omega)
theorem impl_GrowMaze_bad {w h : Int} (hg : gridOk w h = false) (l : List Int) : Ev (fun k => impl_GrowMaze.f k w h l) (0, 0, 0) := by
 unfold impl_GrowMaze.f
 exact Ev.bnd0 (impl_GridOk_eq w h) (Ev.ff (by rw [hg]; decide) (Ev.ret rfl))
structure BS (V : Nat) (bs : List Bool) (S : Nat) : Prop where
 len : bs.length = V
 at_ : ∀ c : Nat, c < V → rdOf false bs (c : Int) = S.testBit c
theorem BS.set {V : Nat} {bs : List Bool} {S : Nat} (h : BS V bs S) {a : Nat} (ha : a < V) : BS V (bs.set (a : Int).toNat true) (setB S a true) := by
 refine ⟨by rw [List.length_set]; exact h.len, fun c hc => ?_⟩
 rw [testBit_setB]
 have hl := h.len
 have := h.at_ c hc
 unfold rdOf at *
 rw [Int.toNat_natCast, List.getD_eq_getElem?_getD] at this
 rw [Int.toNat_natCast, Int.toNat_natCast, List.getD_eq_getElem?_getD, List.getElem?_set]
 by_cases e : c = a
 ·subst e
  simp only [if_true]
  rw [if_pos (by omega)]
  rfl
 ·rw [if_neg (Ne.symm e), if_neg e]
  exact this
theorem sg_l1 {w h : Int} {l : List Int} {bs : List Bool} {S o : Nat} {j : Int} {R : Int × Int × Int} (hB : BS (cellsN w h) bs S) (hg : gridOk w h = true)
  (Hk : Ev (fun k => spec_GrowMaze.l1 k l bs j (frI w h S (gapsN w h)) (gapsN w h : Nat) w h w h o) R) : ∀ d i, i + d = gapsN w h → Ev (fun k => spec_GrowMaze.l1 k l bs j (frI w h S i) (i : Nat) w h w h o) R
 | 0, i, hi => by
  obtain rfl : i = gapsN w h := by omega
  exact Hk
 | d + 1, i, hi => by
  have hil : i < gapsN w h := by omega
  have h24 := gapsN_le w h
  have hgc := gapsN_cast w h
  have hl := hB.len
  obtain ⟨e, e1, e2⟩ := ends_facts hil
  have ih := sg_l1 (o := o) hB hg Hk d (i + 1) (by omega)
  have hlen := frI_len w h S i
  rw [frI_succ] at ih
  refine Ev.step (fun _ => spec_GrowMaze.l1.eq_2 ..) (Ev.bnd0 (spec_CountGaps_eq w h) (Ev.tt (by omega) (Ev.bnd0 (a := (((ends w h i).1 : Int), ((ends w h i).2 : Int))) (by rw [spec_EndsOf_eq, e]) ?_)))
  dsimp only
  refine Ev.tt (by omega) (Ev.tt (by omega) (Ev.tt (by omega) (Ev.tt (by omega) ?_)))
  rw [hB.at_ _ (by omega), hB.at_ _ e2, wsucc (i := i) (by omega)]
  refine Ev.ite (fun q => ?_) (fun q => ?_)
  ·rw [if_pos q] at ih
   exact Ev.tt (by omega) ih
  ·rw [if_neg q] at ih
   exact ih
theorem sg_l0 {w h : Int} {r : Nat} {l : List Int} (hg : gridOk w h = true) : ∀ (f S o j : Nat) (bs : List Bool), Grw w h r S o → BS (cellsN w h) bs S → j + 1 = pop (cellsN w h) S → pop (cellsN w h) S + f = cellsN w h →
  Ev (fun k => spec_GrowMaze.l0 k l bs ((j + 1 : Nat) : Int) w h w h o) (w, h, ((growN w h f S o (l.drop j) : Nat) : Int))
 | 0, S, o, j, bs, G, hB, hj, hf => Ev.step (fun _ => spec_GrowMaze.l0.eq_2 ..) (Ev.ff (by have := hB.len; omega) (Ev.ret rfl))
 | f + 1, S, o, j, bs, G, hB, hj, hf => by
  obtain ⟨h0, hgl, G2, hpop⟩ := growN_step hg G hf (l.drop j)
  have h24 := gapsN_le w h
  have h16 := cellsN_le w h
  have hgc := gapsN_cast w h
  have hlt := Nat.mod_lt (nx (l.drop j)) h0
  have hl := hB.len
  obtain ⟨e, e1, e2⟩ := ends_facts hgl
  refine Ev.step (fun _ => spec_GrowMaze.l0.eq_2 ..) (Ev.tt (by omega) ?_)
  refine sg_l1 (S := S) (o := o) hB hg ?_ (gapsN w h) 0 (by omega)
  refine Ev.step (fun _ => spec_GrowMaze.l1.eq_2 ..) (Ev.bnd0 (spec_CountGaps_eq w h) (Ev.ff (by omega) ?_))
  rw [frI_all, List.length_map, show wrap64 (((j + 1 : Nat) : Int) - 1) = (j : Int) by unfold wrap64; omega, wsucc (i := j + 1) (by omega)]
  refine Ev.bnd0 (spec_choice l j) (Ev.ff (by omega) ?_)
  rw [show Int.tmod ((nx (l.drop j) : Nat) : Int) ((frN w h S).length : Int) = ((nx (l.drop j) % (frN w h S).length : Nat) : Int) by rw [Int.tmod_eq_emod_of_nonneg (by omega), ← Int.natCast_emod], frN_rd h0]
  refine Ev.tt (by omega) (Ev.tt (by omega) (Ev.bnd0 (a := (((ends w h (growG w h S (l.drop j))).1 : Int), ((ends w h (growG w h S (l.drop j))).2 : Int))) (by rw [spec_EndsOf_eq, e]) ?_))
  dsimp only
  refine Ev.tt (by omega) (Ev.tt (by omega) (Ev.tt (by omega) (Ev.tt (by omega) (Ev.bind (spec_SetGap_ev hg G.lt hgl true) ?_))))
  have ih := sg_l0 (l := l) hg f _ _ (j + 1) _ G2 ((hB.set (show (ends w h (growG w h S (l.drop j))).1 < cellsN w h by omega)).set e2) (by omega) (by omega)
  rw [show growN w h (f + 1) S o (l.drop j) = growN w h f (growS w h S (growG w h S (l.drop j))) (setB o (growG w h S (l.drop j)) true) (l.drop j).tail from rfl, List.tail_drop]
  exact ih
theorem spec_GrowMaze_ev {w h : Int} (hg : gridOk w h = true) (l : List Int) : Ev (fun k => spec_GrowMaze.f k w h l) (w, h, ((growN w h (cellsN w h - 1) 1 0 l : Nat) : Int)) := by
 have hV := cells_pos hg
 have h16 := cellsN_le w h
 have hc := cellsN_cast w h
 have G0 := Grw.start (w := w) (h := h) (r := 0) (by omega)
 have h0 := G0.cnt
 rw [pop_nil, show (2 : Nat) ^ 0 = 1 from rfl] at h0
 have e : (cellsOf w h).toNat = cellsN w h := rfl
 unfold spec_GrowMaze.f
 refine Ev.bnd0 (spec_GridOk_eq w h) (Ev.tt hg (Ev.bnd0 (spec_CountCells_eq w h) (Ev.tt (by omega) (Ev.tt (by omega) (Ev.bnd0 rfl (Ev.tt (by rw [List.length_replicate]; omega) ?_))))))
 rw [e]
 refine sg_l0 (l := l) hg (cellsN w h - 1) 1 0 0 _ G0 ?_ h0.symm (by omega)
 have hz : BS (cellsN w h) (List.replicate (cellsN w h) false) 0 := ⟨List.length_replicate .., fun c hc => by
  unfold rdOf
  rw [Int.toNat_natCast, List.getD_eq_getElem?_getD, List.getElem?_replicate, if_pos hc, Nat.zero_testBit]
  rfl⟩
 have := hz.set (a := 0) (by omega)
 rw [show setB 0 0 true = 1 from rfl] at this
 exact this
theorem spec_GrowMaze_bad {w h : Int} (hg : gridOk w h = false) (l : List Int) : Ev (fun k => spec_GrowMaze.f k w h l) (0, 0, 0) := by
 unfold spec_GrowMaze.f
 exact Ev.bnd0 (spec_GridOk_eq w h) (Ev.ff (by rw [hg]; decide) (Ev.ret rfl))
theorem toIntS_l0 (l : List Int) (hl : l.length ≤ 35184372088832) : ∀ (d i : Nat) (m : List Int), l.length - i = d → i ≤ l.length → m.length = l.length → (∀ j, j < i → rd m j = rd l j) → Ev (fun k => laws_toIntS.l0 k l m i) l
 | 0, i, m, hd, hi, hm, he => by
  refine Ev.step (fun _ => laws_toIntS.l0.eq_2 ..) ?_
  refine Ev.ff (by omega) (Ev.ret ?_)
  refine List.ext_getElem hm fun j h1 h2 => ?_
  have := he j (by omega)
  rwa [rd_get h1, rd_get h2] at this
 | d + 1, i, m, hd, hi, hm, he => by
  refine Ev.step (fun _ => laws_toIntS.l0.eq_2 ..) ?_
  refine Ev.tt (by omega) (Ev.tt (by omega) (Ev.tt (by omega) ?_))
  rw [wsucc (by omega)]
  refine toIntS_l0 l hl d (i + 1) _ (by omega) (by omega) (by rw [List.length_set]; exact hm) fun j hj => ?_
  by_cases e : j = i
  ·subst e
   rw [rd_get (by rw [List.length_set]; omega)]
   simp [rd_get (show j < l.length by omega)]
  ·rw [← he j (by omega), rd_get (by rw [List.length_set]; omega), rd_get (by omega)]
   simp only [Int.toNat_natCast]
   rw [List.getElem_set_ne (by omega), rd_get (by omega)]
theorem toIntS_ev (l : List Int) (hl : l.length ≤ 35184372088832) : Ev (fun k => laws_toIntS.f k l) l := by
 unfold laws_toIntS.f
 refine Ev.tt (by omega) (Ev.tt (by omega) ?_)
 exact toIntS_l0 l hl l.length 0 _ (by omega) (by omega) (by simp) (fun j hj => by omega)

theorem eqIntS_l0 (a b : List Int) (hl : a.length = b.length) (hb : b.length ≤ 35184372088832) : ∀ (d i : Nat), a.length - i = d → i ≤ a.length → Ev (fun k => laws_eqIntS.l0 k a b i) (decide (a.drop i = b.drop i))
 | 0, i, hd, hi => by
  refine Ev.step (fun _ => laws_eqIntS.l0.eq_2 ..) ?_
  refine Ev.ff (by omega) (Ev.ret ?_)
  rw [List.drop_eq_nil_of_le (by omega), List.drop_eq_nil_of_le (by omega)]
  rfl
 | d + 1, i, hd, hi => by
  refine Ev.step (fun _ => laws_eqIntS.l0.eq_2 ..) ?_
  refine Ev.tt (by omega) (Ev.tt (by omega) (Ev.tt (by omega) ?_))
  have h1 : a.drop i = a[i]'(by omega) :: a.drop (i + 1) := List.drop_eq_getElem_cons (by omega)
  have h2 : b.drop i = b[i]'(by omega) :: b.drop (i + 1) := List.drop_eq_getElem_cons (by omega)
  rw [rd_get (show i < a.length by omega), rd_get (show i < b.length by omega), h1, h2]
  refine Ev.ite (fun e => ?_) (fun e => ?_)
  ·rw [wsucc (by omega)]
   refine Ev.eq (eqIntS_l0 a b hl hb d (i + 1) (by omega) (by omega)) ?_
   rw [decide_eq_decide, List.cons.injEq, e]
   simp only [true_and]
  ·refine Ev.ret ?_
   symm
   rw [decide_eq_false_iff_not, List.cons.injEq]
   exact fun h => e h.1
theorem eqIntS_ev (a b : List Int) (hb : b.length ≤ 35184372088832) : Ev (fun k => laws_eqIntS.f k a b) (decide (a = b)) := by
 unfold laws_eqIntS.f
 refine Ev.ite (fun h => ?_) (fun h => ?_)
 ·have := eqIntS_l0 a b (by omega) hb a.length 0 (by omega) (by omega)
  simpa using this
 ·refine Ev.ret ?_
  have : a ≠ b := by rintro rfl; exact h rfl
  simp [this]

end Go.Proofs.Ytbeajmcjfhbcjaa.P
namespace Go.Proofs.Ytbeajmcjfhbcjaa.P
open Go.RowKit Go.Proofs.YtbeajmcjfhbcjaaW.PrintWords Go.Proofs.Ytbeajmcjfhbcjaa.Sup
set_option linter.unusedVariables false
set_option linter.unusedSimpArgs false

theorem FnExactGrowMaze_pure (a0_0 a0_1 : Int) (w0_0 : InR a0_0) (w0_1 : InR a0_1) (l : List Int) (hy : l.length * 8 ≤ 140737488351232) (hz : ∀ x ∈ l, InR x) : ∃ k, laws_FnExactGrowMaze.f k a0_0 a0_1 l = some true := by
 refine Ev.rounds ?_
 have key : ∃ r : Int × Int × Int, Ev (fun k => impl_GrowMaze.f k a0_0 a0_1 l) r ∧ Ev (fun k => spec_GrowMaze.f k a0_0 a0_1 l) r := by
  by_cases hg : gridOk a0_0 a0_1 = true
  ·exact ⟨_, impl_GrowMaze_ev hg l, spec_GrowMaze_ev hg l⟩
  ·exact ⟨_, impl_GrowMaze_bad (Bool.eq_false_iff.2 hg) l, spec_GrowMaze_bad (Bool.eq_false_iff.2 hg) l⟩
 obtain ⟨⟨r1, r2, r3⟩, hi, hs⟩ := key
 unfold laws_FnExactGrowMaze.f laws_toGrid.f laws_eqMaze.f laws_eqGrid.f
 refine Ev.ite (fun _ => Ev.ret rfl) (fun h => ?_)
 have hl : l.length ≤ 1048576 := by omega
 refine Ev.bnd0 rfl (Ev.bind (toIntS_ev l (by omega)) (Ev.bind hs (Ev.bind (toIntS_ev l (by omega)) (Ev.bnd0 rfl (Ev.bind hi ?_)))))
 simp only [if_true, Option.bind_some, decide_true, and_self]
 refine Ev.bind (toIntS_ev l (by omega)) (Ev.bind (eqIntS_ev l l (by omega)) ?_)
 exact Ev.tt (by simp) (Ev.ret rfl)
end Go.Proofs.Ytbeajmcjfhbcjaa.P
namespace Go.Proofs.Ytbeajmcjfhbcjaa.fnExactGrowMaze
open Go.ChangeShapes Go.WideShapes Go.ChangeAt Go.RowKit Go.Proofs.YtbeajmcjfhbcjaaW.PrintWords Go.Proofs.Ytbeajmcjfhbcjaa.Sup
open Go.ChangeMaps (open_string shut_string)
set_option linter.unusedVariables false
theorem own : ownKnob Try.prog.godebug = none := by kernel_rfl
theorem laidOut : laidOutB Try.prog = true := by kernel_rfl
set_option maxRecDepth 100000 in
theorem lifted (os : Os) (started : os.Started) (H : Type) (enc : TypeId × Value → H) :
    ReturnsInHanded {} Try.checked os 5 .any (Rows.fnExactGrowMazeSpec.pre6 enc Try.prog Try.f5 Rows.fnExactGrowMazeRow.domain false) (Rows.fnExactGrowMazeSpec.post enc Try.prog Try.f5 false true false false) := by
  refine returnsInHanded_of_change_sized (C := Try.checked) own started (by kernel_rfl) Try.func5
    (ChangeSpec.witness6 (enc := enc) (C := Try.checked) false ⟨#[], #[.agg #[.int .i64 0, .int .i64 0], .slice none 0 0], []⟩ 8 (by kernel_rfl) (by kernel_rfl) (by kernel_rfl) (by kernel_rfl)) ?_
  intro W base args ds gs before hval0 hW hcnd hsz0 _
  have hsz : (DataW.weightsEach Try.prog (Try.f5.params.toList ++ Rows.fnExactGrowMazeSpec.plain.varTypes Try.prog) (ds ++ gs)).all (· ≤ reachBytes) = true := hsz0
  have hval : ∀ (j : Nat) t v, Try.f5.params[j]? = some t → args[j]? = some v → Value.okWide Try.prog W .any base t v := hval0
  have hW' := hW
  obtain ⟨p, q, hA0, hV, rfl, hfz, hnd⟩ := hW
  have hA : DataW.TrodAll enc Try.prog W 0 (fun _ => true) true Try.f5.params.toList args.toList ds p := hA0
  rw [Try.params5] at hA hval hsz
  obtain ⟨v0, vs0, d0, ds0, p0, q0, hargs, rfl, rfl, h0, r0⟩ := trodAll_cons hA
  obtain ⟨v1, vs1, d1, ds1, p1, q1, rfl, rfl, rfl, h1, r1⟩ := trodAll_cons r0
  obtain ⟨rfl, rfl, rfl⟩ := trodAll_nil r1
  obtain rfl : args = #[v0, v1] := by cases args; simp_all
  obtain ⟨rfl, rfl⟩ := trodVars_none hV
  have k0 := h0
  have lt0 : ∀ x ∈ p0, x.block < W.heap.size := by obtain ⟨m, hm⟩ := k0; exact DataW.trod_lt m _ _ _ hm
  obtain ⟨a0_0, a0_1, rfl, w0_0, w0_1⟩ := open2 Try.underlying31 (by kernel_rfl) (by kernel_rfl) rfl rfl (by kernel_rfl) (by kernel_rfl) (by kernel_rfl) (hval 0 31 v0 rfl rfl) h0
  obtain ⟨a1, len1, cap1, rfl⟩ := okWide_slice Try.underlying39 (hval 1 39 v1 rfl rfl)
  have k1 := h1
  have lt1 : ∀ x ∈ p1, x.block < W.heap.size := by obtain ⟨m, hm⟩ := k1; exact DataW.trod_lt m _ _ _ hm
  obtain ⟨z1, w1⟩ : ∃ zs, IsRow .i64 W a1 len1 cap1 zs := by
    obtain ⟨fuel, hf⟩ := h1
    rcases open_ints Try.underlying39 Try.underlying3 (by kernel_rfl) hf with ⟨hcs, _⟩ | ⟨x, l, c, zs, hcs, _, hl, hm, hz, _, hcell, hwz⟩
    · simp [Value.cells] at hcs
      obtain ⟨rfl, rfl, rfl⟩ := hcs
      exact ⟨[], .inl ⟨rfl, rfl, rfl, rfl⟩⟩
    · simp [Value.cells] at hcs
      obtain ⟨rfl, rfl, rfl⟩ := hcs
      exact ⟨zs, .inr ⟨_, rfl, hl, hm, by simpa using hz, hcell, hwz⟩⟩
  have y1 : len1 * 8 ≤ 140737488351232 := sized_ints hsz (j := 1) (t := 39) rfl rfl Try.underlying39 Try.underlying3 (by kernel_rfl) (by kernel_rfl) h1
  obtain ⟨l1, rfl, hr1, hm1, hw1, hc1⟩ := ReadsInt.ofRowC w1
  clear hA0 hval0 hsz0 hsz
  obtain ⟨k, hf⟩ := P.FnExactGrowMaze_pure a0_0 a0_1 w0_0 w0_1 l1 (by omega) (fun x hx => inR_of_wf (hw1 x hx))
  refine (P.laws_FnExactGrowMaze.calls k a0_0 a0_1 _ _ l1 true W (Kd.C_of_reads (d := (0 : Int)) (h1 := fun _ => rfl) hr1) hc1 hf).mono fun e W' ⟨he, bel0⟩ => ?_
  have bel : Below W.heap.size W W' := bel0
  subst he
  exact ⟨_, rfl, _, _, _, [], _, [], hW', trodAll_mk1 (shut_bool Try.underlying4 _), (trodAll_cons_mk (Below.trod laidOut (by kernel_rfl) (of_decide_eq_true (by kernel_rfl)) k0 bel lt0) (trodAll_cons_mk (Below.trod laidOut (by kernel_rfl) (of_decide_eq_true (by kernel_rfl)) k1 bel lt1) trodAll_mk0)), rfl, bel.frame _, fun h => by cases h⟩
theorem over : Rows.fnExactGrowMazeRow.holds Try.pinned (OpenSpec.ofChange Rows.fnExactGrowMazeSpec) :=
  OpenClaim.holds_of_wide 5 Try.f5 rfl rfl rfl rfl rfl rfl rfl ⟨rfl, rfl, rfl, rfl, rfl⟩ rfl rfl rfl rfl rfl (by kernel_rfl) Try.func5 (by kernel_rfl)
    (of_decide_eq_true (by kernel_rfl)) (by unfold Func.isWrapper; first | (rw [if_pos (by decide +kernel)]; kernel_rfl) | (rw [if_neg (by decide +kernel)]; exact ⟨rfl, rfl⟩))
    (fun os started H enc _ => lifted os started H enc)
theorem proved : Rows.FnExactGrowMazeSaid := over
end Go.Proofs.Ytbeajmcjfhbcjaa.fnExactGrowMaze
namespace Go.Proofs.Ytbeajmcjfhbcjaa
/-- The row, under a short name, for the claim. -/
theorem fnExactGrowMaze_holds : Rows.FnExactGrowMazeSaid := fnExactGrowMaze.proved
#print axioms fnExactGrowMaze_holds
end Go.Proofs.Ytbeajmcjfhbcjaa
