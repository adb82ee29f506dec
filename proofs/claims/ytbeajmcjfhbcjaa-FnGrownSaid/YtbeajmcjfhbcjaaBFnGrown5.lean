/- The statement FnGrown of the seat, out of its plain form (FnGrown_pure) and the walk of its Go function. Part 5 of 5: each Go function's walk, then the plain lemmas, then the row. No condition: it holds for every input. -/
import Derived.Test.YtbeajmcjfhbcjaaBFnGrown4
import Derived.Test.YtbeajmcjfhbcjaaRows
import Derived.Below
import Derived.ChangeOld
import Derived.Deep.Matrix
import Derived.Lib.SmallJoins
import Derived.OpenShut
import Derived.ProofKit
import Derived.ShutString
import Derived.SizedLaws
import Derived.WalkKit
namespace Go.Proofs.Ytbeajmcjfhbcjaa.Sup
open Go.ChangeShapes Go.WideShapes Go.ChangeAt Go.RowKit Go.Joins Go.Proofs.YtbeajmcjfhbcjaaW.PrintWords
set_option linter.unusedVariables false
set_option linter.unusedSimpArgs false

theorem u8_of_wf {a : Int} (h : (Lit.int .u8 a).wf = true) : 0 ≤ a ∧ a ≤ 255 := by
 simp only [Lit.wf, IntKind.min, IntKind.max, IntKind.signed, IntKind.bits, Bool.and_eq_true, decide_eq_true_eq] at h
 simp at h
 omega

section
variable {H : Type} {enc : TypeId × Value → H} {P : Program} {w : World} {base : Nat} {spare : Nat → Bool} {held : Bool}

end

def IsRow (k : IntKind) (w : World) (a : Option Addr) (len cap : Nat) (zs : List Int) : Prop :=
 (a = none ∧ len = 0 ∧ cap = 0 ∧ zs = []) ∨
 ∃ x, a = some x ∧ len ≤ cap ∧ cap ≤ maxLen ∧ zs.length = cap ∧ (∀ i, i < zs.length → w.cell? (x.add i) = some (.int k (zs.getD i 0))) ∧ ∀ n ∈ zs, (Lit.int k n).wf = true

end Go.Proofs.Ytbeajmcjfhbcjaa.Sup
namespace Go.Proofs.Ytbeajmcjfhbcjaa.P
open Go.RowKit Go.Proofs.YtbeajmcjfhbcjaaW.PrintWords Go.Proofs.Ytbeajmcjfhbcjaa.Sup
set_option linter.unusedVariables false
set_option linter.unusedSimpArgs false

theorem impl_GridOk_eq (w h : Int) : impl_GridOk.f w h = some (gridOk w h) := by
 unfold impl_GridOk.f gridOk
 repeat' split
 all_goals congr 1
 all_goals first | (rw [decide_eq_decide]; omega) | (symm; rw [decide_eq_false_iff_not]; omega)

theorem impl_CountCells_eq (w h : Int) : impl_CountCells.f w h = some (cellsOf w h) := by
 unfold impl_CountCells.f
 rw [impl_GridOk_eq, Option.bind_some]
 have := cellsOf_range w h
 unfold cellsOf at *
 by_cases hg : gridOk w h = true
 ·rw [if_pos hg] at *
  rw [if_pos hg, wrap64_id (by omega) (by omega)]
 ·rw [if_neg hg, if_neg hg]
theorem impl_CountGaps_eq (w h : Int) : impl_CountGaps.f w h = some (gapsOf w h) := by
 unfold impl_CountGaps.f
 rw [impl_GridOk_eq, Option.bind_some]
 unfold gapsOf
 by_cases hg : gridOk w h = true
 ·rw [if_pos hg, if_pos hg]
  obtain ⟨h1 | h1 | h1 | h1, h2 | h2 | h2 | h2⟩ := grid_cases hg <;> subst h1 <;> subst h2 <;> simp [wrap64, eastOf]
 ·rw [if_neg hg, if_neg hg]
theorem shl_one {n : Int} (h0 : 0 ≤ n) (h1 : n ≤ 24) : shl .i64 1 n = 2 ^ n.toNat := by
 obtain ⟨m, rfl⟩ := Int.eq_ofNat_of_zero_le h0
 have : m ≤ 24 := by omega
 clear h0 h1
 revert m
 decide +kernel
end Go.Proofs.Ytbeajmcjfhbcjaa.P
namespace Go.Proofs.Ytbeajmcjfhbcjaa.P
open Go.RowKit Go.Proofs.YtbeajmcjfhbcjaaW.PrintWords Go.Proofs.YtbeajmcjfhbcjaaW.PrintLast Go.Proofs.YtbeajmcjfhbcjaaW.PrintMore
attribute [local go_sem] max2_int min2_int max_two min_two max_three min_three max_four min_four   -- for this text's walks alone
set_option linter.unusedVariables false
set_option linter.unusedSimpArgs false

end Go.Proofs.Ytbeajmcjfhbcjaa.P
namespace Go.Proofs.Ytbeajmcjfhbcjaa.P
open Go.RowKit Go.Proofs.YtbeajmcjfhbcjaaW.PrintWords
set_option linter.unusedVariables false
set_option linter.unusedSimpArgs false

theorem impl_isCell_eq (w h c : Int) : impl_isCell.f w h c = some (isCellI w h c) := by
 unfold impl_isCell.f isCellI
 rw [impl_CountCells_eq]
 by_cases hc : c ≥ 0
 ·rw [if_pos hc, Option.bind_some]; congr 1; rw [decide_eq_decide]; omega
 ·rw [if_neg hc]; congr 1; symm; rw [decide_eq_false_iff_not]; omega
theorem impl_Neighbor_ev (w h c d : Int) : Ev (fun k => impl_Neighbor.f k w h c d) (nbI w h c d) := by
 unfold impl_Neighbor.f nbI
 refine Ev.bnd0 (impl_isCell_eq w h c) ?_
 unfold isCellI
 by_cases hc : 0 ≤ c ∧ c < cellsOf w h
 ·rw [if_pos hc]
  obtain ⟨hg, hcw⟩ := cellsOf_valid hc.1 hc.2
  have hcr := cellsOf_range w h
  have hgr := gridOk_iff.1 hg
  refine Ev.tt (by simpa using hc) (Ev.ff (by omega) ?_)
  have hx0 : 0 ≤ c % w := Int.emod_nonneg _ (by omega)
  have hx1 : c % w < w := Int.emod_lt_of_pos _ (by omega)
  have hy0 : 0 ≤ c / w := Int.ediv_nonneg hc.1 (by omega)
  have hy1 : c / w ≤ c := Int.ediv_le_self _ hc.1
  rw [Int.tmod_eq_emod_of_nonneg hc.1, Int.tdiv_eq_ediv_of_nonneg hc.1, wrap64_id (x := c / w) (by omega) (by omega)]
  generalize c % w = x at *
  generalize c / w = y at *
  have j2 : ∀ b : Bool, (d ≠ 0 ∨ ¬ 0 < y) → (d ≠ 1 ∨ ¬ x < w - 1) → (b = true ↔ d = 2 ∧ y < h - 1) → Ev (fun k => impl_Neighbor.j2 k c d x b w h) (if d = 2 ∧ y < h - 1 then c + w else if d = 3 ∧ 0 < x then c - 1 else -1) := by
   intro b _ _ hb
   refine Ev.step (fun _ => impl_Neighbor.j2.eq_2 ..) ?_
   refine Ev.ite (fun e => ?_) (fun e => ?_)
   ·rw [if_pos (hb.1 e), wrap64_id (by omega) (by omega)]; exact Ev.ret rfl
   ·rw [if_neg (fun h => e (hb.2 h))]
    refine Ev.ite (fun e3 => Ev.ite (fun e4 => ?_) (fun e4 => ?_)) (fun e3 => ?_)
    ·rw [if_pos ⟨e3, e4⟩, wrap64_id (by omega) (by omega)]; exact Ev.ret rfl
    ·rw [if_neg (fun h => e4 h.2)]; exact Ev.ret rfl
    ·rw [if_neg (fun h => e3 h.1)]; exact Ev.ret rfl
  have j1 : ∀ b : Bool, (d ≠ 0 ∨ ¬ 0 < y) → (b = true ↔ d = 1 ∧ x < w - 1) → Ev (fun k => impl_Neighbor.j1 k c d x y b w h) (if d = 1 ∧ x < w - 1 then c + 1 else if d = 2 ∧ y < h - 1 then c + w else if d = 3 ∧ 0 < x then c - 1 else -1) := by
   intro b h0 hb
   refine Ev.step (fun _ => impl_Neighbor.j1.eq_2 ..) ?_
   refine Ev.ite (fun e => ?_) (fun e => ?_)
   ·rw [if_pos (hb.1 e), wrap64_id (by omega) (by omega)]; exact Ev.ret rfl
   ·have hn : ¬ (d = 1 ∧ x < w - 1) := fun h => e (hb.2 h)
    rw [if_neg hn]
    refine Ev.ite (fun e2 => ?_) (fun e2 => ?_)
    ·refine j2 _ h0 (by omega) ?_
     rw [wrap64_id (by omega) (by omega)]
     simp [e2]
    ·exact j2 _ h0 (by omega) (by simp [e2])
  have j0 : ∀ b : Bool, (b = true ↔ d = 0 ∧ 0 < y) → Ev (fun k => impl_Neighbor.j0 k c d x y b w h) (if d = 0 ∧ 0 < y then c - w else if d = 1 ∧ x < w - 1 then c + 1 else if d = 2 ∧ y < h - 1 then c + w else if d = 3 ∧ 0 < x then c - 1 else -1) := by
   intro b hb
   refine Ev.step (fun _ => impl_Neighbor.j0.eq_2 ..) ?_
   refine Ev.ite (fun e => ?_) (fun e => ?_)
   ·rw [if_pos (hb.1 e), wrap64_id (by omega) (by omega)]; exact Ev.ret rfl
   ·have hn : ¬ (d = 0 ∧ 0 < y) := fun h => e (hb.2 h)
    rw [if_neg hn]
    refine Ev.ite (fun e2 => ?_) (fun e2 => ?_)
    ·refine j1 _ (by omega) ?_
     rw [wrap64_id (by omega) (by omega)]
     simp [e2]
    ·exact j1 _ (by omega) (by simp [e2])
  refine Ev.ite (fun e => ?_) (fun e => ?_)
  ·exact j0 _ (by simp [e])
  ·exact j0 _ (by simp [e])
 ·rw [if_neg hc]
  exact Ev.ff (by simpa using hc) (Ev.ret rfl)
end Go.Proofs.Ytbeajmcjfhbcjaa.P
namespace Go.Proofs.Ytbeajmcjfhbcjaa.P
open Go.RowKit Go.Proofs.YtbeajmcjfhbcjaaW.PrintWords Go.Proofs.YtbeajmcjfhbcjaaW.PrintLast Go.Proofs.YtbeajmcjfhbcjaaW.PrintMore
attribute [local go_sem] max2_int min2_int max_two min_two max_three min_three max_four min_four   -- for this text's walks alone
set_option linter.unusedVariables false
set_option linter.unusedSimpArgs false

end Go.Proofs.Ytbeajmcjfhbcjaa.P
namespace Go.Proofs.Ytbeajmcjfhbcjaa.P
open Go.RowKit Go.Proofs.YtbeajmcjfhbcjaaW.PrintWords
set_option linter.unusedVariables false
set_option linter.unusedSimpArgs false

theorem impl_MazeOk_eq (w h o : Int) : impl_MazeOk.f w h o = some (mazeOk w h o) := by
 have hc := gapsOf_range w h
 unfold impl_MazeOk.f mazeOk gapsN
 rw [impl_GridOk_eq, Option.bind_some]
 cases hg : gridOk w h
 ·simp
 ·rw [if_pos rfl, impl_CountGaps_eq, Option.bind_some, if_pos hc.1, shl_one hc.1 hc.2]
  simp only [Bool.true_and]
  split
  ·congr 1; rw [decide_eq_decide]; omega
  ·congr 1; symm; rw [decide_eq_false_iff_not]; omega
theorem impl_isOpen_eq (w h : Int) {n : Nat} (hn : n < 16777216) (g : Int) : impl_isOpen.f w h n g = some (openI n g) := by
 unfold impl_isOpen.f openI
 by_cases hg : g ≥ 0
 ·rw [if_pos hg, if_pos hg]
  obtain ⟨m, rfl⟩ := Int.eq_ofNat_of_zero_le hg
  rw [bit_one (by omega)]
  simp
 ·rw [if_neg hg]
  simp; omega
theorem impl_isGap_eq (w h g : Int) : impl_isGap.f w h g = some (isGapI w h g) := by
 unfold impl_isGap.f isGapI
 rw [impl_CountGaps_eq]
 by_cases hc : g ≥ 0
 ·rw [if_pos hc, Option.bind_some]; congr 1; rw [decide_eq_decide]; omega
 ·rw [if_neg hc]; congr 1; symm; rw [decide_eq_false_iff_not]; omega
theorem impl_GapAt_ev (w h c d : Int) : Ev (fun k => impl_GapAt.f k w h c d) (gapI w h c d) := by
 unfold impl_GapAt.f gapI
 refine Ev.bind (impl_Neighbor_ev w h c d) ?_
 by_cases hn : nbI w h c d < 0
 ·rw [if_pos hn, if_pos hn]
  exact Ev.ret rfl
 ·rw [if_neg hn, if_neg hn]
  obtain ⟨hd, h0, h1⟩ := nb_dir (by omega : 0 ≤ nbI w h c d)
  obtain ⟨hg, hcw⟩ := cellsOf_valid h0 h1
  have hcr := cellsOf_range w h
  have hgr := gridOk_iff.1 hg
  have hlt := nb_lt (w := w) (h := h) (c := c) (d := d)
  have hmn : mn c (nbI w h c d) = min c (nbI w h c d) := by unfold mn; omega
  rw [hmn]
  have hm0 : 0 ≤ min c (nbI w h c d) := by omega
  have hm1 : min c (nbI w h c d) ≤ 15 := by omega
  generalize min c (nbI w h c d) = m at *
  have ha0 : 0 ≤ m / w := Int.ediv_nonneg hm0 (by omega)
  have ha1 : m / w ≤ m := Int.ediv_le_self _ hm0
  have hb0 : 0 ≤ m % w := Int.emod_nonneg _ (by omega)
  have hb1 : m % w < w := Int.emod_lt_of_pos _ (by omega)
  have hp0 : 0 ≤ m / w * (w - 1) := Int.mul_nonneg ha0 (by omega)
  have hp1 : m / w * (w - 1) ≤ 15 * 3 := Int.mul_le_mul (by omega) (by omega) (by omega) (by omega)
  have hq0 : 0 ≤ (w - 1) * h := Int.mul_nonneg (by omega) (by omega)
  have hq1 : (w - 1) * h ≤ 3 * 4 := Int.mul_le_mul (by omega) (by omega) (by omega) (by omega)
  rw [Int.tmod_eq_emod_of_nonneg hm0, Int.tdiv_eq_ediv_of_nonneg hm0, wrap64_id (x := m / w) (by omega) (by omega), wrap64_id (x := w - 1) (by omega) (by omega), wrap64_id (x := m / w * (w - 1)) (by omega) (by omega), wrap64_id (x := m / w * (w - 1) + m % w) (by omega) (by omega)]
  refine Ev.ite (fun e => Ev.ff (by omega) ?_) (fun e => Ev.ite (fun e3 => Ev.ff (by omega) ?_) (fun e3 => ?_))
  ·rw [if_pos (.inl e)]; exact Ev.ret rfl
  ·rw [if_pos (.inr e3)]; exact Ev.ret rfl
  ·rw [if_neg (by omega)]
   rw [wrap64_id (x := (w - 1) * h) (by omega) (by omega), wrap64_id (by omega) (by omega)]
   exact Ev.ret rfl
theorem impl_with_eq (w h : Int) {n : Nat} (hn : n < 16777216) {g : Nat} (hg : g < 24) (b : Bool) : impl_with.f w h n g b = some (w, h, ((setB n g b : Nat) : Int)) := by
 have hp : 2 ^ g ≤ 2 ^ 24 := Nat.pow_le_pow_right (by decide) (by omega)
 unfold impl_with.f
 rw [if_pos (by omega), shl_pow (by omega), bits_andNot (by omega) (by omega)]
 cases b
 ·rw [if_neg (by decide)]
  rfl
 ·rw [if_pos rfl, bits_or (by have := andNot_le n (2 ^ g); omega) (by omega)]
  have e : andNot n (2 ^ g) ||| 2 ^ g = setB n g true := by
   apply Nat.eq_of_testBit_eq
   intro i
   rw [testBit_setB, Nat.testBit_or, testBit_andNot, Nat.testBit_two_pow]
   by_cases h : i = g
   ·simp [h]
   ·simp [h, show ¬ g = i from fun e => h e.symm]
  rw [e]
end Go.Proofs.Ytbeajmcjfhbcjaa.P
namespace Go.Proofs.Ytbeajmcjfhbcjaa.P
open Go.RowKit Go.Proofs.YtbeajmcjfhbcjaaW.PrintWords Go.Proofs.YtbeajmcjfhbcjaaW.PrintLast Go.Proofs.YtbeajmcjfhbcjaaW.PrintMore
attribute [local go_sem] max2_int min2_int max_two min_two max_three min_three max_four min_four   -- for this text's walks alone
set_option linter.unusedVariables false
set_option linter.unusedSimpArgs false

end Go.Proofs.Ytbeajmcjfhbcjaa.P
namespace Go.Proofs.Ytbeajmcjfhbcjaa.P
open Go.RowKit Go.Proofs.YtbeajmcjfhbcjaaW.PrintWords
set_option linter.unusedVariables false
set_option linter.unusedSimpArgs false

def fullN (w h : Int) : Nat := 2 ^ gapsN w h - 1
theorem fullN_lt (w h : Int) : fullN w h < 2 ^ gapsN w h := by unfold fullN; have := Nat.two_pow_pos (gapsN w h); omega
theorem full_val {w h : Int} : wrap64 ((shl .i64 1 (gapsOf w h)) - 1) = ((fullN w h : Nat) : Int) := by
 have hc := gapsOf_range w h
 have hp := pow_le hc.1 hc.2
 rw [shl_one hc.1 hc.2, wrap64_id (by omega) (by omega)]
 unfold fullN gapsN
 have h1 := Nat.two_pow_pos (gapsOf w h).toNat
 have h2 := Int.natCast_pow 2 (gapsOf w h).toNat
 simp only [Int.cast_ofNat_Int] at h2
 omega
theorem impl_FullMaze_eq {w h : Int} (hg : gridOk w h = true) : impl_FullMaze.f w h = some (w, h, ((fullN w h : Nat) : Int)) := by
 unfold impl_FullMaze.f
 rw [impl_GridOk_eq, Option.bind_some, if_pos hg, impl_CountGaps_eq, Option.bind_some, if_pos (gapsOf_range w h).1, full_val]
theorem chooser_next_nx (l : List Int) {m : Nat} (h : 0 < m) : chooser_next l (m : Int) = some (((nx l % m : Nat) : Int), l.tail) := by
 cases l with
 | nil => simp [chooser_next, nx]
 | cons v t =>
  have e : mx v 0 = ((nx (v :: t) : Nat) : Int) := by
   have : nx (v :: t) = (max v 0).toNat := rfl
   rw [this]; unfold mx; omega
  show (if (m : Int) = 0 then none else some (Int.tmod (mx v 0) m, t)) = _
  rw [if_neg (by omega), e, Int.tmod_eq_emod_of_nonneg (by omega), ← Int.natCast_emod]
  rfl
theorem dv_loop_ev {W H : Nat} {cell : Int → Int → Int} {dir : Int} {gs : Nat → Nat} {p n : Nat} (hc : ∀ i, i < n → gapI W H (cell W i) dir = (gs i : Nat)) (hg : ∀ i, i < n → gs i < 24) {o : Nat} (ho : o < 2 ^ 24) : ∀ d i, i + d = n →
  Ev (fun k => dv_loop k cell dir p d i W H (closeL gs p i o : Nat)) ((W : Int), (H : Int), ((closeL gs p n o : Nat) : Int))
 | 0, i, hi => by
  obtain rfl : i = n := by omega
  simp only [dv_loop]
  exact Ev.ret rfl
 | d + 1, i, hi => by
  have ih := dv_loop_ev (p := p) hc hg ho d (i + 1) (by omega)
  have hlt : closeL gs p i o < 2 ^ 24 := closeL_lt ho fun j hj => hg j (by omega)
  simp only [dv_loop]
  by_cases e : i = p
  ·refine Ev.tt (by omega) (Ev.eq ?_ rfl)
   rw [show closeL gs p (i + 1) o = closeL gs p i o by rw [closeL, if_pos e]] at ih
   exact ih
  ·refine Ev.ff (by omega) (Ev.bind (impl_GapAt_ev _ _ _ _) (Ev.bnd0 (a := ((W : Int), (H : Int), ((setB (closeL gs p i o) (gs i) false : Nat) : Int))) ?_ ?_))
   ·rw [hc i (by omega)]
    exact impl_with_eq _ _ (by omega) (hg i (by omega)) false
   ·rw [show closeL gs p (i + 1) o = setB (closeL gs p i o) (gs i) false by rw [closeL, if_neg e]] at ih
    exact ih
theorem divN_cnt (W H : Nat) : ∀ (f x y rw rh : Nat) (l : List Int) (o c : Nat), 1 ≤ rw → 1 ≤ rh → c ≤ (divN W H f x y rw rh l o c).2.1 ∧ (divN W H f x y rw rh l o c).2.1 + 1 ≤ c + rw * rh
 | 0, x, y, rw, rh, l, o, c, h1, h2 => by
  have := Nat.mul_pos h1 h2
  unfold divN
  dsimp only
  omega
 | f + 1, x, y, rw, rh, l, o, c, h1, h2 => by
  unfold divN
  by_cases hl : rw = 1 ∨ rh = 1
  ·have := Nat.mul_pos h1 h2
   rw [if_pos hl]
   dsimp only
   omega
  ·rw [if_neg hl]
   by_cases hc : rw ≤ rh
   ·rw [if_pos hc]
    have hk : nx l % (rh - 1) < rh - 1 := Nat.mod_lt _ (by omega)
    simp only
    generalize nx l % (rh - 1) = k at *
    have a := divN_cnt W H f x y rw (k + 1) l.tail.tail (closeL (fun i => sG W H (y + k) (x + i)) (nx l.tail % rw) rw o) (c + 1) h1 (by omega)
    generalize divN W H f x y rw (k + 1) l.tail.tail (closeL (fun i => sG W H (y + k) (x + i)) (nx l.tail % rw) rw o) (c + 1) = r at *
    have b := divN_cnt W H f x (y + k + 1) rw (rh - k - 1) r.2.2 r.1 r.2.1 h1 (by omega)
    have : rw * rh = rw * (k + 1) + rw * (rh - k - 1) := by rw [← Nat.mul_add]; congr 1; omega
    omega
   ·rw [if_neg hc]
    have hk : nx l % (rw - 1) < rw - 1 := Nat.mod_lt _ (by omega)
    simp only
    generalize nx l % (rw - 1) = k at *
    have a := divN_cnt W H f x y (k + 1) rh l.tail.tail (closeL (fun i => eG W (y + i) (x + k)) (nx l.tail % rh) rh o) (c + 1) (by omega) h2
    generalize divN W H f x y (k + 1) rh l.tail.tail (closeL (fun i => eG W (y + i) (x + k)) (nx l.tail % rh) rh o) (c + 1) = r at *
    have b := divN_cnt W H f (x + k + 1) y (rw - k - 1) rh r.2.2 r.1 r.2.1 (by omega) h2
    have : rw * rh = (k + 1) * rh + (rw - k - 1) * rh := by rw [← Nat.add_mul]; congr 1; omega
    omega
theorem divN_lt {W H : Nat} (hW : W < 5) (hH : H < 5) : ∀ (f x y rw rh : Nat) (l : List Int) (o c : Nat), 1 ≤ rw → 1 ≤ rh → x + rw ≤ W → y + rh ≤ H → o < 2 ^ gapsN W H → (divN W H f x y rw rh l o c).1 < 2 ^ gapsN W H
 | 0, x, y, rw, rh, l, o, c, h1, h2, hx, hy, hlt => hlt
 | f + 1, x, y, rw, rh, l, o, c, h1, h2, hx, hy, hlt => by
  unfold divN
  by_cases hl : rw = 1 ∨ rh = 1
  ·rw [if_pos hl]; exact hlt
  ·rw [if_neg hl]
   by_cases hc : rw ≤ rh
   ·rw [if_pos hc]
    have hk : nx l % (rh - 1) < rh - 1 := Nat.mod_lt _ (by omega)
    simp only
    generalize nx l % (rh - 1) = k at *
    exact divN_lt hW hH f _ _ _ _ _ _ _ h1 (by omega) hx (by omega) (divN_lt hW hH f _ _ _ _ _ _ _ h1 (by omega) hx (by omega) (closeL_lt hlt fun i hi => (sG_facts hW hH (by omega) (by omega)).1))
   ·rw [if_neg hc]
    have hk : nx l % (rw - 1) < rw - 1 := Nat.mod_lt _ (by omega)
    simp only
    generalize nx l % (rw - 1) = k at *
    exact divN_lt hW hH f _ _ _ _ _ _ _ (by omega) h2 (by omega) hy (divN_lt hW hH f _ _ _ _ _ _ _ (by omega) h2 (by omega) hy (closeL_lt hlt fun i hi => (eG_facts hW hH (by omega) (by omega)).1))
theorem cnt_ok {c m a b : Nat} (h : c + m ≤ 1000) (e : m = a + b) (hb : 0 < b) : c + 1 + a ≤ 1000 := by omega
theorem cnt_ok2 {c m a b r : Nat} (h : c + m ≤ 1000) (e : m = a + b) (h2 : r + 1 ≤ c + 1 + a) : r + b ≤ 1000 := by omega
theorem w_mid {y k : Nat} (h : y + k < 5) : wrap64 (wrap64 ((y : Int) + (k : Int)) + 1) = ((y + k + 1 : Nat) : Int) := by unfold wrap64; omega
theorem w_end {m k : Nat} (h : k + 1 < m) (h2 : m < 5) : wrap64 (wrap64 ((m : Int) - (k : Int)) - 1) = ((m - k - 1 : Nat) : Int) := by unfold wrap64; omega
theorem w_pre {m : Nat} (h : 1 ≤ m) (h2 : m < 5) : wrap64 ((m : Int) - 1) = ((m - 1 : Nat) : Int) := by unfold wrap64; omega
theorem cell_row {W y k x i : Nat} (hW : W < 5) (h1 : y + k < 5) (h2 : x + i < 5) : wrap64 (wrap64 (wrap64 (wrap64 ((y : Int) + (k : Int)) * (W : Int)) + (x : Int)) + (i : Int)) = (((y + k) * W + (x + i) : Nat) : Int) := by
 have hm : (y + k) * W ≤ 4 * 4 := Nat.mul_le_mul (by omega) (by omega)
 rw [show wrap64 ((y : Int) + (k : Int)) = ((y + k : Nat) : Int) by unfold wrap64; omega, ← Int.natCast_mul]
 generalize (y + k) * W = z at *
 unfold wrap64
 omega
theorem cell_col {W y k x i : Nat} (hW : W < 5) (h1 : y + i < 5) (h2 : x + k < 5) : wrap64 (wrap64 (wrap64 (wrap64 ((y : Int) + (i : Int)) * (W : Int)) + (x : Int)) + (k : Int)) = (((y + i) * W + (x + k) : Nat) : Int) := by
 exact cell_row hW h1 h2
theorem gaps_24 {W H : Nat} (hW : W < 5) (hH : H < 5) : gapsN W H ≤ 24 := by
 have : ∀ W : Nat, W < 5 → ∀ H : Nat, H < 5 → gapsN W H ≤ 24 := by decide +kernel
 exact this W hW H hH
theorem dv_ev {W H : Nat} (hW : W < 5) (hH : H < 5) : ∀ (f x y rw rh : Nat) (l : List Int) (o c : Nat), 1 ≤ rw → 1 ≤ rh → rw + rh ≤ f + 1 → x + rw ≤ W → y + rh ≤ H → o < 2 ^ gapsN W H → c + rw * rh ≤ 1000 →
  Ev (fun k => dv_f k W H o x y rw rh l c) (((W : Int), (H : Int), (((divN W H f x y rw rh l o c).1 : Nat) : Int)), (divN W H f x y rw rh l o c).2.2, (((divN W H f x y rw rh l o c).2.1 : Nat) : Int))
 | 0, x, y, rw, rh, l, o, c, h1, h2, hf, hx, hy, hlt, hn => by omega
 | f + 1, x, y, rw, rh, l, o, c, h1, h2, hf, hx, hy, hlt, hn => by
  have h24 := gaps_24 hW hH
  have hlt24 : o < 2 ^ 24 := Nat.lt_of_lt_of_le hlt (Nat.pow_le_pow_right (by decide) h24)
  refine Ev.step (fun _ => dv_f.eq_2 ..) ?_
  unfold divN
  by_cases e1 : rw = 1
  ·rw [if_pos (.inl e1)]
   exact Ev.tt (by omega) (Ev.ret rfl)
  by_cases e2 : rh = 1
  ·rw [if_pos (.inr e2)]
   exact Ev.ff (by omega) (Ev.tt (by omega) (Ev.ret rfl))
  rw [if_neg (by omega)]
  refine Ev.ff (by omega) (Ev.ff (by omega) ?_)
  have hp1 := Nat.mul_pos h1 h2
  have ec : wrap64 ((c : Int) + 1) = ((c + 1 : Nat) : Int) := wsucc (by omega)
  by_cases hc : rw ≤ rh
  ·rw [if_pos hc]
   have hk : nx l % (rh - 1) < rh - 1 := Nat.mod_lt _ (by omega)
   refine Ev.tt (by omega) (Ev.tt (by omega) (Ev.bnd0 (a := (((nx l % (rh - 1) : Nat) : Int), l.tail)) ?_ (Ev.bnd0 (chooser_next_nx l.tail (by omega)) ?_)))
   ·rw [w_pre (m := rh) (by omega) (by omega)]
    exact chooser_next_nx l (by omega)
   dsimp only
   generalize nx l % (rh - 1) = k at *
   generalize nx l.tail % rw = p at *
   have hlp := dv_loop_ev (W := W) (H := H) (cell := fun a i => wrap64 (wrap64 (wrap64 (wrap64 ((y : Int) + (k : Int)) * a) + (x : Int)) + i)) (dir := 2) (gs := fun i => sG W H (y + k) (x + i)) (p := p) (n := rw)
    (fun i hi => by rw [cell_row hW (by omega) (by omega)]; exact (sG_facts hW hH (by omega) (by omega)).2.2.2) (fun i hi => Nat.lt_of_lt_of_le (sG_facts hW hH (by omega) (by omega)).1 h24) hlt24 rw 0 (by omega)
   rw [show closeL (fun i => sG W H (y + k) (x + i)) p 0 o = o from rfl] at hlp
   clear hlt24 h24
   have hlt1 : closeL (fun i => sG W H (y + k) (x + i)) p rw o < 2 ^ gapsN W H := closeL_lt hlt fun i hi => (sG_facts hW hH (by omega) (by omega)).1
   generalize closeL (fun i => sG W H (y + k) (x + i)) p rw o = o1 at *
   have hm : rw * rh = rw * (k + 1) + rw * (rh - k - 1) := by rw [← Nat.mul_add]; congr 1; omega
   have a1 := dv_ev hW hH f x y rw (k + 1) l.tail.tail o1 (c + 1) h1 (by omega) (by omega) hx (by omega) hlt1 (cnt_ok hn hm (Nat.mul_pos h1 (by omega)))
   have a2 := divN_cnt W H f x y rw (k + 1) l.tail.tail o1 (c + 1) h1 (by omega)
   have a3 := divN_lt hW hH f x y rw (k + 1) l.tail.tail o1 (c + 1) h1 (by omega) hx (by omega) hlt1
   generalize divN W H f x y rw (k + 1) l.tail.tail o1 (c + 1) = r at *
   have b1 := dv_ev hW hH f x (y + k + 1) rw (rh - k - 1) r.2.2 r.1 r.2.1 h1 (by omega) (by omega) hx (by omega) a3 (cnt_ok2 hn hm a2.2)
   rw [Int.toNat_natCast, ec, wsucc (i := k) (by omega), w_mid (y := y) (k := k) (by omega), w_end (m := rh) (k := k) (by omega) (by omega)]
   exact Ev.bind hlp (Ev.bind a1 b1)
  ·rw [if_neg hc]
   have hk : nx l % (rw - 1) < rw - 1 := Nat.mod_lt _ (by omega)
   refine Ev.ff (by omega) (Ev.tt (by omega) (Ev.bnd0 (a := (((nx l % (rw - 1) : Nat) : Int), l.tail)) ?_ (Ev.bnd0 (chooser_next_nx l.tail (by omega)) ?_)))
   ·rw [w_pre (m := rw) (by omega) (by omega)]
    exact chooser_next_nx l (by omega)
   dsimp only
   generalize nx l % (rw - 1) = k at *
   generalize nx l.tail % rh = p at *
   have hlp := dv_loop_ev (W := W) (H := H) (cell := fun a i => wrap64 (wrap64 (wrap64 (wrap64 ((y : Int) + i) * a) + (x : Int)) + (k : Int))) (dir := 1) (gs := fun i => eG W (y + i) (x + k)) (p := p) (n := rh)
    (fun i hi => by rw [cell_col hW (by omega) (by omega)]; exact (eG_facts hW hH (by omega) (by omega)).2.2.2) (fun i hi => Nat.lt_of_lt_of_le (eG_facts hW hH (by omega) (by omega)).1 h24) hlt24 rh 0 (by omega)
   rw [show closeL (fun i => eG W (y + i) (x + k)) p 0 o = o from rfl] at hlp
   clear hlt24 h24
   have hlt1 : closeL (fun i => eG W (y + i) (x + k)) p rh o < 2 ^ gapsN W H := closeL_lt hlt fun i hi => (eG_facts hW hH (by omega) (by omega)).1
   generalize closeL (fun i => eG W (y + i) (x + k)) p rh o = o1 at *
   have hm : rw * rh = (k + 1) * rh + (rw - k - 1) * rh := by rw [← Nat.add_mul]; congr 1; omega
   have a1 := dv_ev hW hH f x y (k + 1) rh l.tail.tail o1 (c + 1) (by omega) h2 (by omega) (by omega) hy hlt1 (cnt_ok hn hm (Nat.mul_pos (by omega) h2))
   have a2 := divN_cnt W H f x y (k + 1) rh l.tail.tail o1 (c + 1) (by omega) h2
   have a3 := divN_lt hW hH f x y (k + 1) rh l.tail.tail o1 (c + 1) (by omega) h2 (by omega) hy hlt1
   generalize divN W H f x y (k + 1) rh l.tail.tail o1 (c + 1) = r at *
   have b1 := dv_ev hW hH f (x + k + 1) y (rw - k - 1) rh r.2.2 r.1 r.2.1 (by omega) h2 (by omega) (by omega) hy a3 (cnt_ok2 hn hm a2.2)
   rw [Int.toNat_natCast, ec, wsucc (i := k) (by omega), w_mid (y := x) (k := k) (by omega), w_end (m := rw) (k := k) (by omega) (by omega)]
   exact Ev.bind hlp (Ev.bind a1 b1)
def divd (W H : Nat) (l : List Int) : Nat × Nat := ((divN W H (W + H) 0 0 W H l (2 ^ gapsN W H - 1) 0).1, (divN W H (W + H) 0 0 W H l (2 ^ gapsN W H - 1) 0).2.1)
theorem impl_divided_ev {W H : Nat} (hW : W < 5) (hH : H < 5) (hg : gridOk W H = true) (l : List Int) : Ev (fun k => impl_divided.f k W H l) ((W : Int), (H : Int), (((divd W H l).1 : Nat) : Int), (((divd W H l).2 : Nat) : Int)) := by
 have hgr := gridOk_iff.1 hg
 have hp := Nat.two_pow_pos (gapsN W H)
 have hm : W * H ≤ 4 * 4 := Nat.mul_le_mul (by omega) (by omega)
 unfold impl_divided.f
 refine Ev.bnd0 (impl_GridOk_eq _ _) (Ev.tt hg (Ev.bnd0 (impl_FullMaze_eq hg) (Ev.bind (dv_ev hW hH (W + H) 0 0 W H l (fullN W H) 0 (by omega) (by omega) (by omega) (by omega) (by omega) (fullN_lt _ _) (by omega)) (Ev.ret rfl))))
end Go.Proofs.Ytbeajmcjfhbcjaa.P
namespace Go.Proofs.Ytbeajmcjfhbcjaa.P
open Go.RowKit Go.Proofs.YtbeajmcjfhbcjaaW.PrintWords Go.Proofs.YtbeajmcjfhbcjaaW.PrintLast Go.Proofs.YtbeajmcjfhbcjaaW.PrintMore
attribute [local go_sem] max2_int min2_int max_two min_two max_three min_three max_four min_four   -- for this text's walks alone
set_option linter.unusedVariables false
set_option linter.unusedSimpArgs false

end Go.Proofs.Ytbeajmcjfhbcjaa.P
namespace Go.Proofs.Ytbeajmcjfhbcjaa.P
open Go.RowKit Go.Proofs.YtbeajmcjfhbcjaaW.PrintWords
set_option linter.unusedVariables false
set_option linter.unusedSimpArgs false

theorem impl_EndsOf_eq (w h g : Int) : impl_EndsOf.f w h g = some (endsI w h g) := by
 unfold impl_EndsOf.f endsI
 rw [impl_isGap_eq, Option.bind_some]
 unfold isGapI
 by_cases hc : 0 ≤ g ∧ g < gapsOf w h
 ·rw [if_pos hc, if_pos (by simpa using hc)]
  obtain ⟨hg, hgw⟩ := gapsOf_valid hc.1 hc.2
  have hgr := gridOk_iff.1 hg
  have hrr := gapsOf_range w h
  have hq0 : 0 ≤ (w - 1) * h := Int.mul_nonneg (by omega) (by omega)
  have hq1 : (w - 1) * h ≤ 3 * 4 := Int.mul_le_mul (by omega) (by omega) (by omega) (by omega)
  have hw1 : w - 1 = 0 → (w - 1) * h = 0 := fun e => by rw [e, Int.zero_mul]
  rw [wrap64_id (x := w - 1) (by omega) (by omega), wrap64_id (x := (w - 1) * h) (by omega) (by omega)]
  by_cases hlt : g < (w - 1) * h
  ·rw [if_pos hlt, if_neg (by omega)]
   have hne : w - 1 ≠ 0 := fun e => by have := hw1 e; omega
   have ha0 : 0 ≤ g / (w - 1) := Int.ediv_nonneg hc.1 (by omega)
   have ha1 : g / (w - 1) ≤ g := Int.ediv_le_self _ hc.1
   have hb0 : 0 ≤ g % (w - 1) := Int.emod_nonneg _ (by omega)
   have hb1 : g % (w - 1) < w - 1 := Int.emod_lt_of_pos _ (by omega)
   have hp0 : 0 ≤ g / (w - 1) * w := Int.mul_nonneg ha0 (by omega)
   have hp1 : g / (w - 1) * w ≤ 23 * 4 := Int.mul_le_mul (by omega) (by omega) (by omega) (by omega)
   rw [if_neg hne, Int.tmod_eq_emod_of_nonneg hc.1, Int.tdiv_eq_ediv_of_nonneg hc.1, wrap64_id (x := g / (w - 1)) (by omega) (by omega), wrap64_id (x := g / (w - 1) * w) (by omega) (by omega), wrap64_id (x := g / (w - 1) * w + g % (w - 1)) (by omega) (by omega), wrap64_id (by omega) (by omega)]
  ·rw [if_neg hlt, if_pos (by omega)]
   rw [wrap64_id (x := g - (w - 1) * h) (by omega) (by omega), wrap64_id (by omega) (by omega)]
 ·rw [if_neg hc, if_neg (by simpa using hc)]
end Go.Proofs.Ytbeajmcjfhbcjaa.P
namespace Go.Proofs.Ytbeajmcjfhbcjaa.P
open Go.RowKit Go.Proofs.YtbeajmcjfhbcjaaW.PrintWords Go.Proofs.YtbeajmcjfhbcjaaW.PrintLast Go.Proofs.YtbeajmcjfhbcjaaW.PrintMore
attribute [local go_sem] max2_int min2_int max_two min_two max_three min_three max_four min_four   -- for this text's walks alone
set_option linter.unusedVariables false
set_option linter.unusedSimpArgs false

end Go.Proofs.Ytbeajmcjfhbcjaa.P
namespace Go.Proofs.Ytbeajmcjfhbcjaa.P
open Go.RowKit Go.Proofs.YtbeajmcjfhbcjaaW.PrintWords
set_option linter.unusedVariables false
set_option linter.unusedSimpArgs false

def frI (w h : Int) (S i : Nat) : List Int := ((List.range i).filter fun g => S.testBit (ends w h g).1 != S.testBit (ends w h g).2).map fun (g : Nat) => (g : Int)
theorem frI_succ (w h : Int) (S i : Nat) : frI w h S (i + 1) = if (S.testBit (ends w h i).1 != S.testBit (ends w h i).2) = true then frI w h S i ++ [(i : Int)] else frI w h S i := by
 unfold frI
 rw [List.range_succ, List.filter_append, List.map_append]
 by_cases e : (S.testBit (ends w h i).1 != S.testBit (ends w h i).2) = true
 ·rw [if_pos e, List.filter_cons_of_pos (p := fun g => S.testBit (ends w h g).1 != S.testBit (ends w h g).2) (a := i) (l := []) e]
  rfl
 ·rw [if_neg e, List.filter_cons_of_neg (p := fun g => S.testBit (ends w h g).1 != S.testBit (ends w h g).2) (a := i) (l := []) e]
  simp
theorem frI_all (w h : Int) (S : Nat) : frI w h S (gapsN w h) = (frN w h S).map fun (g : Nat) => (g : Int) := rfl
theorem frN_rd {w h : Int} {S : Nat} (h0 : 0 < (frN w h S).length) (l : List Int) : rd ((frN w h S).map fun (g : Nat) => (g : Int)) ((nx l % (frN w h S).length : Nat) : Int) = ((growG w h S l : Nat) : Int) := by
 have := Nat.mod_lt (nx l) h0
 rw [rd_get (by rw [List.length_map]; exact this), List.getElem_map]
 unfold growG
 rw [List.getD_eq_getElem?_getD, List.getElem?_eq_getElem this]
 rfl
theorem growN_step {w h : Int} {r S o f : Nat} (hg : gridOk w h = true) (G : Grw w h r S o) (hf : pop (cellsN w h) S + (f + 1) = cellsN w h) (l : List Int) :
  0 < (frN w h S).length ∧ growG w h S l < gapsN w h ∧ Grw w h r (growS w h S (growG w h S l)) (setB o (growG w h S l) true) ∧ pop (cellsN w h) (growS w h S (growG w h S l)) = pop (cellsN w h) S + 1 := by
 have h0 := G.front hg (by omega)
 have hm := growG_mem h0 l
 obtain ⟨hgl, hne⟩ := mem_frN.1 hm
 have G2 := G.step hm
 have ho : o.testBit (growG w h S l) = false := by
  rw [Bool.eq_false_iff]
  intro e
  have := G.inn _ e
  rw [this.1, this.2] at hne
  exact hne rfl
 refine ⟨h0, hgl, G2, ?_⟩
 have a := G2.cnt
 have b := G.cnt
 rw [pop_setB hgl ho] at a
 omega
def PS (p : Int → Bool) (S : Nat) : Prop := ∀ c : Nat, p (c : Int) = S.testBit c
theorem PS.add {p : Int → Bool} {S : Nat} (h : PS p S) (a : Nat) : PS (pAdd p (a : Int)) (setB S a true) := by
 intro c
 rw [testBit_setB]
 unfold pAdd
 by_cases e : c = a
 ·rw [if_pos e, if_pos (by omega)]
 ·rw [if_neg e, if_neg (by omega), h c]
theorem PS.cnt {p : Int → Bool} {S s V : Nat} (h : PS p S) (hs : s = pop V S) {a : Nat} (ha : a < V) : sAdd p s (a : Int) = pop V (setB S a true) := by
 unfold sAdd
 rw [h a]
 cases e : S.testBit a with
 | true => rw [if_pos rfl, setB_on e, hs]
 | false => rw [if_neg (by decide), pop_setB ha e, hs]
theorem ends_ok {w h : Int} {g : Nat} (hg : g < gapsN w h) : gm_ok (endsI w h g).1 (endsI w h g).2 := by
 obtain ⟨e, h1, h2⟩ := ends_facts hg
 have := cellsN_le w h
 rw [e]
 exact ⟨by dsimp only; omega, by dsimp only; omega, by dsimp only; omega, by dsimp only; omega⟩
theorem gm_in_eq {w h : Int} {p : Int → Bool} {S : Nat} (hp : PS p S) : ∀ d i, i + d = gapsN w h → gm_in w h p d i (frI w h S i) = some (frI w h S (gapsN w h))
 | 0, i, hi => by
  obtain rfl : i = gapsN w h := by omega
  rfl
 | d + 1, i, hi => by
  have hil : i < gapsN w h := by omega
  obtain ⟨e, _, _⟩ := ends_facts hil
  rw [gm_in, impl_EndsOf_eq, Option.bind_some, if_pos (ends_ok hil), e]
  dsimp only
  rw [hp, hp, ← frI_succ]
  exact gm_in_eq hp d (i + 1) (by omega)
theorem gm_ev {w h : Int} {r : Nat} (hg : gridOk w h = true) : ∀ (f S o : Nat) (l : List Int) (p : Int → Bool) (s : Nat), Grw w h r S o → PS p S → s = pop (cellsN w h) S → pop (cellsN w h) S + f = cellsN w h →
  Ev (fun k => gm_f w h (cellsN w h) (gapsN w h) k w h o p s l) (w, h, ((growN w h f S o l : Nat) : Int))
 | 0, S, o, l, p, s, G, hp, hs, hf => Ev.step (fun _ => gm_f.eq_2 ..) (Ev.ff (by omega) (Ev.ret rfl))
 | f + 1, S, o, l, p, s, G, hp, hs, hf => by
  obtain ⟨h0, hgl, G2, hpop⟩ := growN_step hg G hf l
  have h24 := gapsN_le w h
  have hlt := Nat.mod_lt (nx l) h0
  have ho24 : o < 16777216 := Nat.lt_of_lt_of_le G.lt (Nat.pow_le_pow_right (show 0 < 2 by decide) h24)
  obtain ⟨e, e1, e2⟩ := ends_facts hgl
  have hok := ends_ok hgl
  refine Ev.step (fun _ => gm_f.eq_2 ..) (Ev.tt (by omega) (Ev.bnd0 (gm_in_eq hp (gapsN w h) 0 (by omega)) ?_))
  rw [frI_all, List.length_map]
  refine Ev.bnd0 (chooser_next_nx l h0) (Ev.tt ⟨by dsimp only; omega, by dsimp only; omega⟩ ?_)
  dsimp only
  rw [frN_rd h0]
  rw [e] at hok
  refine Ev.bnd0 (a := (((ends w h (growG w h S l)).1 : Int), ((ends w h (growG w h S l)).2 : Int))) (by rw [impl_EndsOf_eq, e]) (Ev.tt hok (Ev.bnd0 (impl_with_eq w h ho24 (by omega) true) ?_))
  have hp1 := hp.add (ends w h (growG w h S l)).1
  exact gm_ev hg f _ _ l.tail _ _ G2 (hp1.add _) (hp1.cnt (hp.cnt hs (by omega)) e2) (by omega)
theorem PS.start : PS (pAdd (fun _ => false) 0) 1 := by
 intro c
 unfold pAdd
 have : (1 : Nat).testBit c = decide (0 = c) := Nat.testBit_two_pow (n := 0)
 rw [this]
 by_cases e : c = 0
 ·subst e; rfl
 ·rw [if_neg (by omega), decide_eq_false (by omega)]
theorem impl_GrowMaze_ev {w h : Int} (hg : gridOk w h = true) (l : List Int) : Ev (fun k => impl_GrowMaze.f k w h l) (w, h, ((growN w h (cellsN w h - 1) 1 0 l : Nat) : Int)) := by
 have hV := cells_pos hg
 have h16 := cellsN_le w h
 have h24 := gapsN_le w h
 have hc := cellsN_cast w h
 have hgc := gapsN_cast w h
 have G0 := Grw.start (w := w) (h := h) (r := 0) (by omega)
 have h0 := G0.cnt
 rw [pop_nil] at h0
 unfold impl_GrowMaze.f
 refine Ev.bnd0 (impl_GridOk_eq w h) (Ev.tt hg (Ev.bnd0 (impl_CountCells_eq w h) (Ev.bnd0 (impl_CountGaps_eq w h) (Ev.tt (by omega) ?_))))
 exact gm_ev hg (cellsN w h - 1) 1 0 l _ 1 G0 PS.start h0.symm (by rw [show (2 : Nat) ^ 0 = 1 from rfl] at h0; omega)
structure BS (V : Nat) (bs : List Bool) (S : Nat) : Prop where
 len : bs.length = V
 at_ : ∀ c : Nat, c < V → rdOf false bs (c : Int) = S.testBit c
theorem BS.set {V : Nat} {bs : List Bool} {S : Nat} (h : BS V bs S) {a : Nat} (ha : a < V) : BS V (bs.set (a : Int).toNat true) (setB S a true) := by
 refine ⟨by rw [List.length_set]; exact h.len, fun c hc => ?_⟩
 rw [testBit_setB]
 have hl := h.len
 have := h.at_ c hc
 unfold rdOf at *
 rw [Int.toNat_natCast, List.getD_eq_getElem?_getD] at this
 rw [Int.toNat_natCast, Int.toNat_natCast, List.getD_eq_getElem?_getD, List.getElem?_set]
 by_cases e : c = a
 ·subst e
  simp only [if_true]
  rw [if_pos (by omega)]
  rfl
 ·rw [if_neg (Ne.symm e), if_neg e]
  exact this
end Go.Proofs.Ytbeajmcjfhbcjaa.P
namespace Go.Proofs.Ytbeajmcjfhbcjaa.P
open Go.RowKit Go.Proofs.YtbeajmcjfhbcjaaW.PrintWords Go.Proofs.YtbeajmcjfhbcjaaW.PrintLast Go.Proofs.YtbeajmcjfhbcjaaW.PrintMore
attribute [local go_sem] max2_int min2_int max_two min_two max_three min_three max_four min_four   -- for this text's walks alone
set_option linter.unusedVariables false
set_option linter.unusedSimpArgs false

end Go.Proofs.Ytbeajmcjfhbcjaa.P
namespace Go.Proofs.Ytbeajmcjfhbcjaa.P
open Go.RowKit Go.Proofs.YtbeajmcjfhbcjaaW.PrintWords
set_option linter.unusedVariables false
set_option linter.unusedSimpArgs false

theorem impl_CountRooms_ev {W H : Nat} (hW : W < 5) (hH : H < 5) (hg : gridOk W H = true) : Ev (fun k => impl_CountRooms.f k W H) (((divd W H []).2 : Nat) : Int) := by
 unfold impl_CountRooms.f
 exact Ev.bind (impl_divided_ev hW hH hg []) (Ev.ret rfl)
theorem impl_DivideMaze_ev {W H : Nat} (hW : W < 5) (hH : H < 5) (hg : gridOk W H = true) (l : List Int) : Ev (fun k => impl_DivideMaze.f k W H l) ((W : Int), (H : Int), (((divd W H l).1 : Nat) : Int)) := by
 unfold impl_DivideMaze.f
 exact Ev.bind (impl_divided_ev hW hH hg l) (Ev.ret rfl)
end Go.Proofs.Ytbeajmcjfhbcjaa.P
namespace Go.Proofs.Ytbeajmcjfhbcjaa.P
open Go.RowKit Go.Proofs.YtbeajmcjfhbcjaaW.PrintWords
set_option linter.unusedVariables false
set_option linter.unusedSimpArgs false

section
variable {e : Nat → Nat × Nat} {V E : Nat}
structure KInv (e : Nat → Nat × Nat) (V E : Nat) (done : Nat → Prop) (P : Nat → Int) (o : Nat) : Prop where
 lt : o < 2 ^ E
 lab : ∀ x y, x < V → y < V → (P x = P y ↔ Cn e o x y)
 fo : pop E o + parts e V E o = V
 dn : ∀ g, g < E → done g → Cn e o (e g).1 (e g).2
theorem pop_zero' (E : Nat) : pop E 0 = 0 := by
 induction E with
 | zero => rfl
 | succ m ih => simp only [pop, Nat.zero_testBit, ih]; rfl
theorem KInv.start {P : Nat → Int} (hP : ∀ x, P x = x) : KInv e V E (fun _ => False) P 0 := by
 refine ⟨Nat.two_pow_pos E, fun x y _ _ => ?_, ?_, fun _ _ h => h.elim⟩
 ·rw [hP, hP, Cn_zero]
  omega
 ·rw [parts_zero, pop_zero', Nat.zero_add]
theorem KInv.skip {done : Nat → Prop} {P : Nat → Int} {o g : Nat} (hG : Gr e V E) (K : KInv e V E done P o) (hg : g < E) (h : P (e g).1 = P (e g).2) : KInv e V E (fun j => done j ∨ j = g) P o :=
 ⟨K.lt, K.lab, K.fo, fun j hj hd => hd.elim (K.dn j hj) (fun h2 => by subst h2; exact (K.lab _ _ (hG j hg).1 (hG j hg).2).1 h)⟩
end
end Go.Proofs.Ytbeajmcjfhbcjaa.P
namespace Go.Proofs.Ytbeajmcjfhbcjaa.P
open Go.RowKit Go.Proofs.YtbeajmcjfhbcjaaW.PrintWords Go.Proofs.YtbeajmcjfhbcjaaW.PrintLast Go.Proofs.YtbeajmcjfhbcjaaW.PrintMore
attribute [local go_sem] max2_int min2_int max_two min_two max_three min_three max_four min_four   -- for this text's walks alone
set_option linter.unusedVariables false
set_option linter.unusedSimpArgs false

end Go.Proofs.Ytbeajmcjfhbcjaa.P
namespace Go.Proofs.Ytbeajmcjfhbcjaa.P
open Go Go.RowKit Go.Proofs.YtbeajmcjfhbcjaaW.PrintWords
set_option linter.unusedVariables false
set_option linter.unusedSimpArgs false

theorem bits_255 (x : Int) : 0 ≤ Go.bits .and .i64 x 255 ∧ Go.bits .and .i64 x 255 ≤ 255 := by
 have h : (BitVec.ofInt 64 x &&& BitVec.ofInt 64 255).toNat ≤ 255 := by
  rw [BitVec.toNat_and]
  exact Nat.and_le_right
 show 0 ≤ IntKind.i64.wrap ((BitVec.ofInt 64 x &&& BitVec.ofInt 64 255).toNat : Int) ∧ IntKind.i64.wrap ((BitVec.ofInt 64 x &&& BitVec.ofInt 64 255).toNat : Int) ≤ 255
 rw [wrap_small (by omega)]
 omega
section
variable {l : List Int}
theorem spec_New_l0 (hl : l.length ≤ 1048576) : ∀ (e i : Nat) (h : Int), l.length - i = e → ∃ h', Ev (fun k => spec_l01New.l0 k l h i) (l, 0, h')
 | 0, i, h, he => ⟨h, Ev.step (fun _ => spec_l01New.l0.eq_2 ..) (Ev.ff (by omega) (Ev.ret rfl))⟩
 | e + 1, i, h, he => by
  by_cases h4 : (i : Int) < 4000
  ·obtain ⟨h', ih⟩ := spec_New_l0 hl e (i + 1) (Go.bits .and .i64 (wrap64 ((wrap64 ((wrap64 (h * 131)) + (wrap64 (rd l i)))) + 7)) 1073741823) (by omega)
   refine ⟨h', Ev.step (fun _ => spec_l01New.l0.eq_2 ..) (Ev.tt (by omega) (Ev.tt h4 (Ev.tt (by omega) ?_)))⟩
   rw [wsucc (by omega)]
   exact ih
  ·exact ⟨h, Ev.step (fun _ => spec_l01New.l0.eq_2 ..) (Ev.tt (by omega) (Ev.ff h4 (Ev.ret rfl)))⟩
theorem spec_New_ev (hl : l.length ≤ 1048576) : ∃ h', Ev (fun k => spec_l01New.f k l) (l, 0, h') := spec_New_l0 hl l.length 0 _ rfl
theorem spec_Byte_eq (hl : l.length ≤ 1048576) {i : Int} (hi : 0 ≤ i) (h : Int) : ∃ b i' h', spec_l01Byte.f l i h = some (b, i', h') ∧ 0 ≤ b ∧ b ≤ 255 ∧ 0 ≤ i' := by
 unfold spec_l01Byte.f
 by_cases e : i < (l.length : Int)
 ·rw [if_pos e, if_pos hi]
  exact ⟨_, _, _, rfl, (bits_255 _).1, (bits_255 _).2, by rw [wrap64_id (by omega) (by omega)]; omega⟩
 ·rw [if_neg e]
  exact ⟨_, _, _, rfl, (bits_255 _).1, (bits_255 _).2, hi⟩
theorem spec_Below_eq (hl : l.length ≤ 1048576) {i : Int} (hi : 0 ≤ i) (h : Int) {n : Int} (h1 : 1 ≤ n) (h2 : n ≤ 256) : ∃ b i' h', spec_l01Below.f l i h n = some (b, i', h') ∧ 0 ≤ b ∧ b < n ∧ 0 ≤ i' := by
 obtain ⟨b, i', h', e, b0, b1, hi'⟩ := spec_Byte_eq hl hi h
 unfold spec_l01Below.f
 rw [if_neg (by omega), if_pos h2, e, Option.bind_some, if_neg (by omega)]
 exact ⟨_, _, _, rfl, Int.tmod_nonneg _ b0, Int.tmod_lt_of_pos _ (by omega), hi'⟩
theorem spec_Pick_eq (hl : l.length ≤ 1048576) {i : Int} (hi : 0 ≤ i) (h : Int) : ∃ (j : Nat) (i' h' : Int), spec_l01PickInt.f l i h [1, 2, 3, 3, 4] = some (rd [1, 2, 3, 3, 4] (j : Int), i', h') ∧ j < 5 ∧ 0 ≤ i' := by
 obtain ⟨b, i', h', e, b0, b1, hi'⟩ := spec_Below_eq hl hi h (n := 5) (by omega) (by omega)
 unfold spec_l01PickInt.f
 show ∃ (j : Nat) (i'' h'' : Int), (spec_l01Below.f l i h 5).bind _ = _ ∧ _
 rw [e, Option.bind_some, if_pos b0]
 refine ⟨b.toNat, i', h', ?_, by omega, hi'⟩
 rw [if_pos (show b < (([1, 2, 3, 3, 4] : List Int).length : Int) from b1), Int.toNat_of_nonneg b0]
theorem pick_ok {j : Nat} (hj : j < 5) : 1 ≤ rd [1, 2, 3, 3, 4] (j : Int) ∧ rd [1, 2, 3, 3, 4] (j : Int) ≤ 4 := by
 have : j = 0 ∨ j = 1 ∨ j = 2 ∨ j = 3 ∨ j = 4 := by omega
 rcases this with rfl | rfl | rfl | rfl | rfl <;> decide
theorem spec_Grid_eq (hl : l.length ≤ 1048576) {i : Int} (hi : 0 ≤ i) (h : Int) : ∃ w hh i' h', spec_l02Grid.f l i h = some (w, hh, i', h') ∧ gridOk w hh = true ∧ 0 ≤ i' := by
 obtain ⟨j, i1, h1, e1, hj, hi1⟩ := spec_Pick_eq hl hi h
 obtain ⟨j2, i2, h2, e2, hj2, hi2⟩ := spec_Pick_eq hl hi1 h1
 unfold spec_l02Grid.f
 rw [e1, Option.bind_some, e2, Option.bind_some]
 refine ⟨_, _, _, _, rfl, gridOk_iff.2 ?_, hi2⟩
 have := pick_ok hj
 have := pick_ok hj2
 omega
end
end Go.Proofs.Ytbeajmcjfhbcjaa.P
namespace Go.Proofs.Ytbeajmcjfhbcjaa.P
open Go.RowKit Go.Proofs.YtbeajmcjfhbcjaaW.PrintWords Go.Proofs.YtbeajmcjfhbcjaaW.PrintLast Go.Proofs.YtbeajmcjfhbcjaaW.PrintMore
attribute [local go_sem] max2_int min2_int max_two min_two max_three min_three max_four min_four   -- for this text's walks alone
set_option linter.unusedVariables false
set_option linter.unusedSimpArgs false

end Go.Proofs.Ytbeajmcjfhbcjaa.P
namespace Go.Proofs.Ytbeajmcjfhbcjaa.P
open Go.RowKit Go.Proofs.YtbeajmcjfhbcjaaW.PrintWords
set_option linter.unusedVariables false
set_option linter.unusedSimpArgs false

def waysFrom (s : Int → Int) (d : Nat) : List Int := ([0, 1, 2, 3].drop d).filter fun x => decide (0 ≤ s x)
theorem waysFrom_succ (s : Int → Int) {d : Nat} (hd : d < 4) : waysFrom s d = if 0 ≤ s d then (d : Int) :: waysFrom s (d + 1) else waysFrom s (d + 1) := by
 have : d = 0 ∨ d = 1 ∨ d = 2 ∨ d = 3 := by omega
 rcases this with rfl | rfl | rfl | rfl <;> simp [waysFrom, List.filter_cons]
def waysI (w h : Int) (n : Nat) (c : Int) : List Int := waysFrom (stepI w h n c) 0
theorem impl_Step_ev {w h : Int} {n : Nat} (hg : gridOk w h = true) (hn : n < 2 ^ gapsN w h) (c d : Int) : Ev (fun k => impl_Step.f k w h n c d) (stepI w h n c d) := by
 unfold impl_Step.f stepI
 refine Ev.bnd0 (impl_MazeOk_eq w h n) (Ev.tt (mazeOk_iff.2 ⟨hg, n, rfl, hn⟩) ?_)
 refine Ev.bind (impl_GapAt_ev w h c d) (Ev.bnd0 (impl_isOpen_eq w h (open_small hn) _) ?_)
 by_cases ho : openI n (gapI w h c d) = true
 ·rw [if_pos ho]
  exact Ev.tt ho (Ev.bind (impl_Neighbor_ev w h c d) (Ev.ret rfl))
 ·rw [if_neg ho]
  exact Ev.ff ho (Ev.ret rfl)
theorem impl_Ways_l0 (w h : Int) (o c : Int) (s : Int → Int) (hs : ∀ d, Ev (fun k => impl_Step.f k w h o c d) (s d)) : ∀ (e d : Nat) (out : List Int), 4 - d = e → d ≤ 4 → out.length ≤ d →
  Ev (fun k => impl_WaysFrom.l0 k c out d w h o) (out ++ waysFrom s d)
 | 0, d, out, he, hd, hl => by
  refine Ev.step (fun _ => impl_WaysFrom.l0.eq_2 ..) ?_
  refine Ev.ff (by omega) (Ev.ret ?_)
  obtain rfl : d = 4 := by omega
  simp [waysFrom]
 | e + 1, d, out, he, hd, hl => by
  refine Ev.step (fun _ => impl_WaysFrom.l0.eq_2 ..) ?_
  refine Ev.tt (by omega) (Ev.bind (hs d) ?_)
  rw [wsucc (by omega), waysFrom_succ s (show d < 4 by omega)]
  refine Ev.ite (fun h1 => Ev.tt (by omega) ?_) (fun h1 => ?_)
  ·rw [if_pos (by omega)]
   have := impl_Ways_l0 w h o c s hs e (d + 1) (out ++ [(d : Int)]) (by omega) (by omega) (by simp; omega)
   simpa using this
  ·rw [if_neg (by omega)]
   exact impl_Ways_l0 w h o c s hs e (d + 1) out (by omega) (by omega) (by omega)
theorem impl_Ways_ev {w h : Int} {n : Nat} (hg : gridOk w h = true) (hn : n < 2 ^ gapsN w h) (c : Int) : Ev (fun k => impl_WaysFrom.f k w h n c) (waysI w h n c) := by
 unfold impl_WaysFrom.f waysI
 have := impl_Ways_l0 w h n c _ (fun d => impl_Step_ev hg hn c d) 4 0 [] (by omega) (by omega) (by simp)
 simpa using this
end Go.Proofs.Ytbeajmcjfhbcjaa.P
namespace Go.Proofs.Ytbeajmcjfhbcjaa.P
open Go.RowKit Go.Proofs.YtbeajmcjfhbcjaaW.PrintWords Go.Proofs.YtbeajmcjfhbcjaaW.PrintLast Go.Proofs.YtbeajmcjfhbcjaaW.PrintMore
attribute [local go_sem] max2_int min2_int max_two min_two max_three min_three max_four min_four   -- for this text's walks alone
set_option linter.unusedVariables false
set_option linter.unusedSimpArgs false

end Go.Proofs.Ytbeajmcjfhbcjaa.P
namespace Go.Proofs.Ytbeajmcjfhbcjaa.P
open Go.RowKit Go.Proofs.YtbeajmcjfhbcjaaW.PrintWords
set_option linter.unusedVariables false
set_option linter.unusedSimpArgs false

def ints (q : List Nat) : List Int := q.map fun (x : Nat) => (x : Int)
theorem ints_length (q : List Nat) : (ints q).length = q.length := by simp [ints]
theorem ints_app (q : List Nat) (y : Nat) : ints (q ++ [y]) = ints q ++ [(y : Int)] := by simp [ints]
theorem rd_ints {q : List Nat} {i x : Nat} (h : q[i]? = some x) : rd (ints q) (i : Int) = x := by
 rw [rd_nat, List.getD_eq_getElem?_getD]
 simp [ints, h]
def dlist (v : Nat) (D : Nat → Int) : List Int := (List.range v).map D
theorem dlist_length (v : Nat) (D : Nat → Int) : (dlist v D).length = v := by simp [dlist]
theorem rd_dlist {v : Nat} {D : Nat → Int} {c : Nat} (h : c < v) : rd (dlist v D) (c : Int) = D c := by
 rw [rd_get (by rw [dlist_length]; exact h)]
 simp [dlist]
theorem dlist_set {v : Nat} {D : Nat → Int} {y : Nat} {a : Int} (h : y < v) : (dlist v D).set y a = dlist v (upd D y a) := by
 refine List.ext_getElem (by simp [dlist]) fun i h1 h2 => ?_
 rw [List.getElem_set]
 simp only [dlist, upd, List.getElem_map, List.getElem_range]
 by_cases e : y = i
 ·rw [if_pos e, if_pos e.symm]
 ·rw [if_neg e, if_neg (fun e' => e e'.symm)]
structure SI (v : Nat) (S : (Nat → Int) × List Nat) : Prop where
 le : ∀ c, S.1 c ≤ S.2.length
 low : ∀ c, -1 ≤ S.1 c
 lt : ∀ c ∈ S.2, c < v
theorem SI.relax {v : Nat} {s : Nat → Nat → Int} (hs : Rng s v) {S : (Nat → Int) × List Nat} (I : SI v S) {x d : Nat} (hx : x < v) (hd : d < 4) : SI v (relax s x d S) ∧ (relax s x d S).2.length ≤ S.2.length + 1 ∧ ∀ (i z : Nat), S.2[i]? = some z → (relax s x d S).2[i]? = some z := by
 unfold Go.Proofs.Ytbeajmcjfhbcjaa.P.relax
 split
 ·rename_i hc
  refine ⟨⟨fun c => ?_, fun c => ?_, fun c hcq => ?_⟩, by simp, fun i z hz => ?_⟩
  ·have := I.le c
   have := I.le x
   show upd _ _ _ c ≤ _
   unfold upd
   simp only [List.length_append, List.length_singleton]
   split <;> omega
  ·have := I.low c
   have := I.low x
   show _ ≤ upd _ _ _ c
   unfold upd
   split <;> omega
  ·rcases List.mem_append.1 hcq with h | h
   ·exact I.lt c h
   ·simp at h
    have := hs x d hx hd
    omega
  ·have hi := (List.getElem?_eq_some_iff.1 hz).1
   rw [List.getElem?_append_left hi]; exact hz
 ·exact ⟨I, by omega, fun i z hz => hz⟩
def relaxL (s : Nat → Nat → Int) (x : Nat) : List Nat → (Nat → Int) × List Nat → (Nat → Int) × List Nat
 | [], S => S
 | d :: ds, S => relaxL s x ds (relax s x d S)
theorem relaxL_filter (s : Nat → Nat → Int) (x : Nat) : ∀ l S, relaxL s x (l.filter fun d => decide (0 ≤ s x d)) S = relaxL s x l S
 | [], S => rfl
 | d :: ds, S => by
  rw [List.filter_cons]
  by_cases h : 0 ≤ s x d
  ·simp only [h, decide_true, if_true, relaxL]
   exact relaxL_filter s x ds _
  ·simp only [h, decide_false, Bool.false_eq_true, if_false, relaxL]
   rw [relaxL_filter s x ds S, show relax s x d S = S from if_neg fun hc => h hc.1]
theorem bround_eq (s : Nat → Nat → Int) (x : Nat) (S : (Nat → Int) × List Nat) : bround s x S = relaxL s x [0, 1, 2, 3] S := rfl
theorem waysI_ints (w h : Int) (n c : Nat) : waysI w h n c = ints ([0, 1, 2, 3].filter fun d => decide (0 ≤ st w h n c d)) := by
 unfold waysI waysFrom st ints
 simp only [List.drop_zero, List.filter_cons, List.filter_nil]
 by_cases a : 0 ≤ stepI w h n c 0 <;> by_cases b : 0 ≤ stepI w h n c 1 <;> by_cases c' : 0 ≤ stepI w h n c 2 <;> by_cases d : 0 ≤ stepI w h n c 3 <;> simp [a, b, c', d]
section
variable {w h : Int} {n : Nat} (hg : gridOk w h = true) (hn : n < 2 ^ gapsN w h)
include hg hn
theorem impl_dist_l1 {x i : Nat} (W : List Nat) (hW : ∀ d ∈ W, d < 4 ∧ 0 ≤ st w h n x d) (hW4 : W.length ≤ 4) (res : List Int) :
  ∀ (e j : Nat) (S : (Nat → Int) × List Nat), j + e = W.length → SI (cellsN w h) S → S.2[i]? = some x → S.2.length ≤ 100 + j →
   (∀ S', S' = relaxL (st w h n) x (W.drop j) S → SI (cellsN w h) S' → Ev (fun k => impl_distances.l0 k (dlist (cellsN w h) S'.1) (ints S'.2) ((i + 1 : Nat) : Int) w h n) res) →
   Ev (fun k => impl_distances.l1 k (dlist (cellsN w h) S.1) (ints S.2) i (ints W) ((ints W).length : Int) j w h n) res
 | 0, j, S, hj, I, hx, hl, next => by
  have hi := (List.getElem?_eq_some_iff.1 hx).1
  refine Ev.step (fun _ => impl_distances.l1.eq_2 ..) (Ev.ff (by rw [ints_length]; omega) ?_)
  rw [wsucc (by omega)]
  exact next S (by rw [List.drop_eq_nil_of_le (by omega)]; rfl) I
 | e + 1, j, S, hj, I, hx, hl, next => by
  have hcast := cellsN_cast w h
  have hi := (List.getElem?_eq_some_iff.1 hx).1
  have hxv := I.lt x (List.mem_of_getElem? hx)
  have hjW : j < W.length := by omega
  obtain ⟨hd4, hd0⟩ := hW _ (List.getElem_mem hjW)
  have hdrop : W.drop j = W[j] :: W.drop (j + 1) := List.drop_eq_getElem_cons hjW
  have hwj : rd (ints W) (j : Int) = (W[j] : Nat) := rd_ints (List.getElem?_eq_getElem hjW)
  have hrng := (net_grid hn).rng x W[j] hxv hd4
  obtain ⟨y, hy⟩ : ∃ y : Nat, st w h n x W[j] = y := ⟨(st w h n x W[j]).toNat, by omega⟩
  have hyv : y < cellsN w h := by omega
  obtain ⟨I', hl', hk'⟩ := I.relax (net_grid hn).rng hxv hd4
  have ih := impl_dist_l1 W hW hW4 res e (j + 1) (relax (st w h n) x W[j] S) (by omega) I' (hk' i x hx) (by omega) (fun S' hS' I'' => next S' (by rw [hS', hdrop]; rfl) I'')
  refine Ev.step (fun _ => impl_distances.l1.eq_2 ..) ?_
  refine Ev.tt (by rw [ints_length]; omega) (Ev.tt (by omega) (Ev.tt (by rw [ints_length]; omega) (Ev.tt (by omega) (Ev.tt (by rw [ints_length]; omega) ?_))))
  rw [hwj, rd_ints hx]
  refine Ev.bind (impl_Step_ev hg hn x (W[j] : Nat)) ?_
  rw [show stepI w h n x (W[j] : Nat) = y from hy, wsucc (by omega)]
  refine Ev.tt (by omega) (Ev.tt (by rw [dlist_length]; omega) ?_)
  rw [rd_dlist hyv, rd_dlist hxv]
  refine Ev.ite (fun h1 => ?_) (fun h1 => ?_)
  ·refine Ev.tt (by omega) (Ev.tt (by rw [dlist_length]; omega) (Ev.tt (by rw [ints_length]; omega) ?_))
   have hb1 := I.le x
   have hb2 : 0 ≤ S.1 x ∨ S.1 x < 0 := by omega
   have hrel : relax (st w h n) x W[j] S = (upd S.1 y (S.1 x + 1), S.2 ++ [y]) := by
    unfold relax
    rw [hy, Int.toNat_natCast, if_pos ⟨by omega, h1⟩]
   rw [hrel] at ih
   rw [Int.toNat_natCast, dlist_set hyv, ← ints_app]
   have := I.low x
   rw [wrap64_id (by omega) (by omega)]
   exact ih
  ·have hrel : relax (st w h n) x W[j] S = S := by
    unfold relax
    rw [hy, Int.toNat_natCast, if_neg (fun hc => h1 hc.2)]
   rw [hrel] at ih
   exact ih
theorem impl_dist_l0 {src : Nat} (hs : src < cellsN w h) : ∀ (f i : Nat) (S : (Nat → Int) × List Nat), BInv (st w h n) (cellsN w h) src S i 0 → SI (cellsN w h) S → i ≤ S.2.length → cellsN w h + 1 - i ≤ f →
  Ev (fun k => impl_distances.l0 k (dlist (cellsN w h) S.1) (ints S.2) i w h n) (dlist (cellsN w h) (bfsF (st w h n) f S i))
 | 0, i, S, B, I, hi, hf => by have := B.len; omega
 | f + 1, i, S, B, I, hi, hf => by
  have h16 := cellsN_le w h
  have hlen := B.len
  refine Ev.step (fun _ => impl_distances.l0.eq_2 ..) ?_
  simp only [bfsF]
  cases hx : S.2[i]? with
  | none =>
   rw [List.getElem?_eq_none_iff] at hx
   exact Ev.ff (by rw [ints_length]; omega) (Ev.ret rfl)
  | some x =>
   have hil := (List.getElem?_eq_some_iff.1 hx).1
   have hxv := I.lt x (List.mem_of_getElem? hx)
   refine Ev.tt (by rw [ints_length]; omega) (Ev.tt (by omega) ?_)
   rw [rd_ints hx]
   refine Ev.bind (impl_Ways_ev hg hn _) ?_
   rw [waysI_ints]
   have hW : ∀ d ∈ ([0, 1, 2, 3].filter fun d => decide (0 ≤ st w h n x d)), d < 4 ∧ 0 ≤ st w h n x d := fun d hd => by
    rw [List.mem_filter] at hd
    refine ⟨?_, of_decide_eq_true hd.2⟩
    have := hd.1
    simp at this
    omega
   refine impl_dist_l1 hg hn (i := i) (x := x) _ hW (List.length_filter_le _ _) _ _ 0 S (Nat.zero_add _) I hx (by omega) (fun S' hS' I' => ?_)
   rw [List.drop_zero, relaxL_filter, ← bround_eq] at hS'
   subst hS'
   have B' := B.round (net_grid hn).rng hx
   refine impl_dist_l0 hs f (i + 1) _ B' I' ?_ (by omega)
   have h1 : ∀ m T, T.2.length ≤ (relax (st w h n) x m T).2.length := by
    intro m T
    unfold relax
    split <;> simp
   have := Nat.le_trans (h1 0 S) (Nat.le_trans (h1 1 _) (Nat.le_trans (h1 2 _) (h1 3 _)))
   show i + 1 ≤ (bround (st w h n) x S).2.length
   unfold bround
   omega
omit hg hn in
theorem SI.start {v src : Nat} (h : src < v) : SI v (upd (fun _ => -1) src 0, [src]) where
 le := fun c => by simp only [upd]; split <;> simp
 low := fun c => by simp only [upd]; split <;> omega
 lt := fun c hc => by simp at hc; omega
theorem impl_distances_ev {src : Nat} (hs : src < cellsN w h) : Ev (fun k => impl_distances.f k w h n src) (dlist (cellsN w h) (distN w h n src)) := by
 have h16 := cellsN_le w h
 have hcast := cellsN_cast w h
 unfold impl_distances.f
 refine Ev.bnd0 (impl_CountCells_eq w h) (Ev.bnd0 (a := dlist (cellsN w h) fun _ => -1) ?_ ?_)
 ·unfold slices_Repeat_int_int.f
  rw [if_pos ⟨by simp, by omega, by omega⟩]
  congr 1
  refine List.ext_getElem (by simp [dlist]; omega) fun i h1 h2 => ?_
  simp [dlist, rd]
 ·refine Ev.tt (by omega) (Ev.tt (by rw [dlist_length]; omega) ?_)
  rw [Int.toNat_natCast, dlist_set hs]
  exact impl_dist_l0 hg hn hs _ 0 _ (BInv.start hs) (SI.start hs) (by simp) (by omega)
end
end Go.Proofs.Ytbeajmcjfhbcjaa.P
namespace Go.Proofs.Ytbeajmcjfhbcjaa.P
open Go.RowKit Go.Proofs.YtbeajmcjfhbcjaaW.PrintWords Go.Proofs.Ytbeajmcjfhbcjaa.Sup
set_option linter.unusedVariables false
set_option linter.unusedSimpArgs false

theorem impl_isIn_one (w h o c : Int) : impl_isIn.f w h o [c] = some (mazeOk w h o && isCellI w h c) := by
 unfold impl_isIn.f
 rw [impl_MazeOk_eq, Option.bind_some]
 cases hm : mazeOk w h o
 ·simp
 ·rw [if_pos rfl]
  simp [impl_isCell_eq]
end Go.Proofs.Ytbeajmcjfhbcjaa.P
namespace Go.Proofs.Ytbeajmcjfhbcjaa.P
open Go.RowKit Go.Proofs.YtbeajmcjfhbcjaaW.PrintWords Go.Proofs.YtbeajmcjfhbcjaaW.PrintLast Go.Proofs.YtbeajmcjfhbcjaaW.PrintMore
attribute [local go_sem] max2_int min2_int max_two min_two max_three min_three max_four min_four   -- for this text's walks alone
set_option linter.unusedVariables false
set_option linter.unusedSimpArgs false

end Go.Proofs.Ytbeajmcjfhbcjaa.P
namespace Go.Proofs.Ytbeajmcjfhbcjaa.P
open Go.RowKit Go.Proofs.YtbeajmcjfhbcjaaW.PrintWords
set_option linter.unusedVariables false
set_option linter.unusedSimpArgs false

def run (i d : Nat) : List Int := (List.range d).map fun t => ((i + t : Nat) : Int)
theorem run_succ (i d : Nat) : run i (d + 1) = (i : Int) :: run (i + 1) d := by
 simp only [run, List.range_succ_eq_map, List.map_cons, List.map_map, Nat.add_zero]
 congr 1
 apply List.map_congr_left
 intro t _
 simp only [Function.comp, Nat.succ_eq_add_one]
 congr 1
 omega
theorem mem_run {i d : Nat} {x : Int} : x ∈ run i d ↔ (i : Int) ≤ x ∧ x < ((i + d : Nat) : Int) := by
 simp only [run, List.mem_map, List.mem_range]
 constructor
 ·rintro ⟨t, ht, rfl⟩
  omega
 ·intro ⟨h1, h2⟩
  exact ⟨(x - i).toNat, by omega, by omega⟩
theorem upTo_l0 (n : Nat) (hn : n ≤ 1000000) : ∀ (d i : Nat) (out : List Int), n - i = d → i ≤ n → out.length ≤ i → Ev (fun k => impl_upTo.l0 k n out i) (out ++ run i d)
 | 0, i, out, hd, hi, ho => by
  refine Ev.step (fun _ => impl_upTo.l0.eq_2 ..) (Ev.ff (by omega) (Ev.ret ?_))
  simp [run]
 | d + 1, i, out, hd, hi, ho => by
  refine Ev.step (fun _ => impl_upTo.l0.eq_2 ..) (Ev.tt (by omega) (Ev.tt (by omega) ?_))
  rw [wsucc (by omega), run_succ]
  have := upTo_l0 n hn d (i + 1) (out ++ [(i : Int)]) (by omega) (by omega) (by simp; omega)
  simpa using this
theorem impl_upTo_ev (n : Nat) (hn : n ≤ 1000000) : Ev (fun k => impl_upTo.f k n) (run 0 n) := by
 unfold impl_upTo.f
 have := upTo_l0 n hn n 0 [] (by omega) (by omega) (by simp)
 simpa using this
def p1 (x : Nat) : Nat := ((x / 2) &&& 6148914691236517205) + (x &&& 6148914691236517205)
def p2 (x : Nat) : Nat := ((x / 4) &&& 3689348814741910323) + (x &&& 3689348814741910323)
def p3 (x : Nat) : Nat := (x / 16 + x) &&& 1085102592571150095
theorem and_split {a m : Nat} (b M : Nat) (ha : a < 256) (hm : m < 256) : (256 * b + a) &&& (256 * M + m) = 256 * (b &&& M) + (a &&& m) := by
 apply Nat.eq_of_testBit_eq
 intro i
 have h1 := Nat.testBit_two_pow_mul_add b (i := 8) ha i
 have h2 := Nat.testBit_two_pow_mul_add M (i := 8) hm i
 have h3 := Nat.testBit_two_pow_mul_add (b &&& M) (i := 8) (b := a &&& m) (Nat.lt_of_le_of_lt Nat.and_le_left ha) i
 simp only [show (2 : Nat) ^ 8 = 256 from rfl] at h1 h2 h3
 rw [Nat.testBit_and, h1, h2, h3]
 split <;> simp [Nat.testBit_and]
theorem p1_split (b a : Nat) (ha : a < 256) : p1 (256 * b + a) = 256 * (((b / 2) &&& 24019198012642645) + (b &&& 24019198012642645)) + p1 a := by
 have e1 : (256 * b + a) / 2 = 256 * (b / 2) + (128 * (b % 2) + a / 2) := by omega
 have e2 : ∀ c, c < 2 → ∀ a, a < 256 → (128 * c + a / 2) &&& 85 = (a / 2) &&& 6148914691236517205 := by decide +kernel
 have e3 : ∀ a, a < 256 → a &&& 85 = a &&& 6148914691236517205 := by decide +kernel
 unfold p1
 rw [e1, show (6148914691236517205 : Nat) = 256 * 24019198012642645 + 85 from rfl, and_split _ _ (by omega) (by decide), and_split _ _ ha (by decide), ← show (6148914691236517205 : Nat) = 256 * 24019198012642645 + 85 from rfl, e2 _ (Nat.mod_lt _ (by decide)) a ha, e3 a ha]
 omega
theorem p2_split (b a : Nat) (ha : a < 256) : p2 (256 * b + a) = 256 * (((b / 4) &&& 14411518807585587) + (b &&& 14411518807585587)) + p2 a := by
 have e1 : (256 * b + a) / 4 = 256 * (b / 4) + (64 * (b % 4) + a / 4) := by omega
 have e2 : ∀ c, c < 4 → ∀ a, a < 256 → (64 * c + a / 4) &&& 51 = (a / 4) &&& 3689348814741910323 := by decide +kernel
 have e3 : ∀ a, a < 256 → a &&& 51 = a &&& 3689348814741910323 := by decide +kernel
 unfold p2
 rw [e1, show (3689348814741910323 : Nat) = 256 * 14411518807585587 + 51 from rfl, and_split _ _ (by omega) (by decide), and_split _ _ ha (by decide), ← show (3689348814741910323 : Nat) = 256 * 14411518807585587 + 51 from rfl, e2 _ (Nat.mod_lt _ (by decide)) a ha, e3 a ha]
 omega
theorem p3_split (b a : Nat) (ha : a < 72) (hb : b % 16 ≤ 4) : p3 (256 * b + a) = 256 * ((b / 16 + b) &&& 4238682002231055) + p3 a := by
 have e1 : (256 * b + a) / 16 + (256 * b + a) = 256 * (b / 16 + b) + (16 * (b % 16) + a / 16 + a) := by omega
 have e2 : ∀ c, c < 5 → ∀ a, a < 72 → (16 * c + a / 16 + a) &&& 15 = (a / 16 + a) &&& 1085102592571150095 := by decide +kernel
 unfold p3
 rw [e1, show (1085102592571150095 : Nat) = 256 * 4238682002231055 + 15 from rfl, and_split _ _ (by omega) (by decide), ← show (1085102592571150095 : Nat) = 256 * 4238682002231055 + 15 from rfl, e2 _ (by omega) a ha]
theorem byte : ∀ a, a < 256 → p1 a < 256 ∧ p1 a % 4 ≤ 2 ∧ p2 (p1 a) < 72 ∧ p2 (p1 a) % 16 ≤ 4 ∧ p3 (p2 (p1 a)) = pop 8 a := by decide +kernel
theorem and_low {b M : Nat} (hb : b < 65536) : b &&& M = b &&& (M % 65536) := by
 have h := Nat.and_mod_two_pow (a := b) (b := M) (n := 16)
 simp only [show (2 : Nat) ^ 16 = 65536 from rfl] at h
 rw [Nat.mod_eq_of_lt hb, Nat.mod_eq_of_lt (Nat.lt_of_le_of_lt Nat.and_le_left hb)] at h
 exact h
theorem p1_hi {b : Nat} (hb : b < 65536) : ((b / 2) &&& 24019198012642645) + (b &&& 24019198012642645) = p1 b := by
 unfold p1
 rw [and_low (show b / 2 < 65536 by omega), and_low hb, and_low (M := 6148914691236517205) (show b / 2 < 65536 by omega), and_low (M := 6148914691236517205) hb]
theorem p2_hi {b : Nat} (hb : b < 65536) : ((b / 4) &&& 14411518807585587) + (b &&& 14411518807585587) = p2 b := by
 unfold p2
 rw [and_low (show b / 4 < 65536 by omega), and_low hb, and_low (M := 3689348814741910323) (show b / 4 < 65536 by omega), and_low (M := 3689348814741910323) hb]
theorem p3_hi {b : Nat} (hb : b < 61680) : (b / 16 + b) &&& 4238682002231055 = p3 b := by
 unfold p3
 rw [and_low (show b / 16 + b < 65536 by omega), and_low (M := 1085102592571150095) (show b / 16 + b < 65536 by omega)]
theorem p3_three {a b c : Nat} (ha : a < 256) (hb : b < 256) (hc : c < 256) : p3 (p2 (p1 (256 * (256 * c + b) + a))) = 256 * (256 * pop 8 c + pop 8 b) + pop 8 a := by
 obtain ⟨a1, _, a2, a3, a4⟩ := byte a ha
 obtain ⟨b1, _, b2, b3, b4⟩ := byte b hb
 obtain ⟨c1, _, c2, c3, c4⟩ := byte c hc
 rw [p1_split _ _ ha, p1_hi (by omega), p1_split _ _ hb, p1_hi (by omega)]
 rw [p2_split _ _ a1, p2_hi (by omega), p2_split _ _ b1, p2_hi (by omega)]
 rw [p3_split _ _ a2 (by omega), p3_hi (by omega), p3_split _ _ b2 c3, p3_hi (by omega), a4, b4, c4]
theorem pop24 (a b c : Nat) (ha : a < 256) (hb : b < 256) (hc : c < 256) : pop 24 (256 * (256 * c + b) + a) = pop 8 a + pop 8 b + pop 8 c := by
 rw [show 24 = 8 + (8 + 8) from rfl, pop_add, pop_add, show (2 : Nat) ^ 8 = 256 from rfl, show (256 * (256 * c + b) + a) / 256 = 256 * c + b by omega, show (256 * c + b) / 256 = c by omega]
 rw [← pop_mod 8 (256 * (256 * c + b) + a), ← pop_mod 8 (256 * c + b), show (2 : Nat) ^ 8 = 256 from rfl, show (256 * (256 * c + b) + a) % 256 = a by omega, show (256 * c + b) % 256 = b by omega, Nat.add_assoc]
theorem u64_small {n : Nat} (h : n < 18446744073709551616) : IntKind.u64.wrap (n : Int) = n := by
 rw [IntKind.wrap_u64]; omega
theorem u64_and {a b : Nat} (ha : a < 9223372036854775808) (hb : b < 9223372036854775808) : Go.bits .and .u64 a b = ((a &&& b : Nat) : Int) :=
 (bits_nat .u64 63 (by decide) (fun n h0 h1 => by rw [IntKind.wrap_u64]; omega) a b (by simpa using ha) (by simpa using hb)).1
def s1 (a : Int) : Int := IntKind.u64.wrap ((Go.bits .and .u64 (a / 2) 6148914691236517205) + (Go.bits .and .u64 a 6148914691236517205))
def s2 (a : Int) : Int := IntKind.u64.wrap ((Go.bits .and .u64 (a / 4) 3689348814741910323) + (Go.bits .and .u64 a 3689348814741910323))
def s3 (a : Int) : Int := Go.bits .and .u64 (IntKind.u64.wrap (a / 16 + a)) 1085102592571150095
def s4 (a : Int) : Int := IntKind.u64.wrap (a + a / 256)
def s5 (a : Int) : Int := IntKind.u64.wrap (a + a / 65536)
def s6 (a : Int) : Int := IntKind.u64.wrap (a + a / 4294967296)
theorem ones_steps (a : Int) : bits_OnesCount.f a = some (Go.bits .and .i64 (wrap64 (s6 (s5 (s4 (s3 (s2 (s1 a))))))) 127) := rfl
theorem s1_nat {a : Nat} (h : a < 16777216) : s1 (a : Int) = (p1 a : Int) := by
 unfold s1 p1
 rw [show ((a : Int) / 2) = ((a / 2 : Nat) : Int) by omega, show (6148914691236517205 : Int) = ((6148914691236517205 : Nat) : Int) from rfl, u64_and (by omega) (by decide), u64_and (by omega) (by decide)]
 have h1 : (a / 2 &&& 6148914691236517205) ≤ a / 2 := Nat.and_le_left
 have h2 : (a &&& 6148914691236517205) ≤ a := Nat.and_le_left
 rw [← Int.natCast_add, u64_small (by omega)]
theorem s2_nat {a : Nat} (h : a < 67108864) : s2 (a : Int) = (p2 a : Int) := by
 unfold s2 p2
 rw [show ((a : Int) / 4) = ((a / 4 : Nat) : Int) by omega, show (3689348814741910323 : Int) = ((3689348814741910323 : Nat) : Int) from rfl, u64_and (by omega) (by decide), u64_and (by omega) (by decide)]
 have h1 : (a / 4 &&& 3689348814741910323) ≤ a / 4 := Nat.and_le_left
 have h2 : (a &&& 3689348814741910323) ≤ a := Nat.and_le_left
 rw [← Int.natCast_add, u64_small (by omega)]
theorem s3_nat {a : Nat} (h : a < 268435456) : s3 (a : Int) = (p3 a : Int) := by
 unfold s3 p3
 rw [show ((a : Int) / 16 + a) = ((a / 16 + a : Nat) : Int) by omega, u64_small (by omega), show (1085102592571150095 : Int) = ((1085102592571150095 : Nat) : Int) from rfl, u64_and (by omega) (by decide)]
theorem ones_eq {s : Nat} (h : s < 16777216) : bits_OnesCount.f (s : Int) = some (pop 24 s : Int) := by
 rw [ones_steps]
 have h1 : p1 s < 67108864 := by
  unfold p1
  have h1 : (s / 2 &&& 6148914691236517205) ≤ s / 2 := Nat.and_le_left
  have h2 : (s &&& 6148914691236517205) ≤ s := Nat.and_le_left
  omega
 have h2 : p2 (p1 s) < 268435456 := by
  unfold p2
  have h3 : (p1 s / 4 &&& 3689348814741910323) ≤ p1 s / 4 := Nat.and_le_left
  have h4 : (p1 s &&& 3689348814741910323) ≤ p1 s := Nat.and_le_left
  omega
 rw [s1_nat h, s2_nat h1, s3_nat h2]
 obtain ⟨a, b, c, ha, hb, hc, rfl⟩ : ∃ a b c, a < 256 ∧ b < 256 ∧ c < 256 ∧ s = 256 * (256 * c + b) + a := ⟨s % 256, s / 256 % 256, s / 65536, by omega, by omega, by omega, by omega⟩
 rw [p3_three ha hb hc, pop24 _ _ _ ha hb hc]
 have qa := pop_le 8 a
 have qb := pop_le 8 b
 have qc := pop_le 8 c
 generalize pop 8 a = x at *
 generalize pop 8 b = y at *
 generalize pop 8 c = z at *
 have e4 : s4 ((256 * (256 * z + y) + x : Nat) : Int) = ((65536 * z + 256 * (y + z) + (x + y) : Nat) : Int) := by
  unfold s4
  rw [show (((256 * (256 * z + y) + x : Nat) : Int) + ((256 * (256 * z + y) + x : Nat) : Int) / 256) = ((65536 * z + 256 * (y + z) + (x + y) : Nat) : Int) by omega, u64_small (by omega)]
 have e5 : s5 ((65536 * z + 256 * (y + z) + (x + y) : Nat) : Int) = ((65536 * z + 256 * (y + z) + (x + y + z) : Nat) : Int) := by
  unfold s5
  rw [show (((65536 * z + 256 * (y + z) + (x + y) : Nat) : Int) + ((65536 * z + 256 * (y + z) + (x + y) : Nat) : Int) / 65536) = ((65536 * z + 256 * (y + z) + (x + y + z) : Nat) : Int) by omega, u64_small (by omega)]
 have e6 : s6 ((65536 * z + 256 * (y + z) + (x + y + z) : Nat) : Int) = ((65536 * z + 256 * (y + z) + (x + y + z) : Nat) : Int) := by
  unfold s6
  rw [show (((65536 * z + 256 * (y + z) + (x + y + z) : Nat) : Int) + ((65536 * z + 256 * (y + z) + (x + y + z) : Nat) : Int) / 4294967296) = ((65536 * z + 256 * (y + z) + (x + y + z) : Nat) : Int) by omega, u64_small (by omega)]
 rw [e4, e5, e6, wrap64_id (by omega) (by omega), show (127 : Int) = ((127 : Nat) : Int) from rfl, bits_and (by omega) (by decide)]
 congr 2
 rw [show (127 : Nat) = 2 ^ 7 - 1 from rfl, Nat.and_two_pow_sub_one_eq_mod]
 omega
theorem ones_eq' {n s : Nat} (hn : n ≤ 24) (h : s < 2 ^ n) : bits_OnesCount.f (s : Int) = some (pop n s : Int) := by
 rw [ones_eq (Nat.lt_of_lt_of_le h (Nat.pow_le_pow_right (by decide) hn)), pop_big h hn]
end Go.Proofs.Ytbeajmcjfhbcjaa.P
namespace Go.Proofs.Ytbeajmcjfhbcjaa.P
open Go.RowKit Go.Proofs.YtbeajmcjfhbcjaaW.PrintWords Go.Proofs.YtbeajmcjfhbcjaaW.PrintLast Go.Proofs.YtbeajmcjfhbcjaaW.PrintMore
attribute [local go_sem] max2_int min2_int max_two min_two max_three min_three max_four min_four   -- for this text's walks alone
set_option linter.unusedVariables false
set_option linter.unusedSimpArgs false

end Go.Proofs.Ytbeajmcjfhbcjaa.P
namespace Go.Proofs.Ytbeajmcjfhbcjaa.P
open Go.RowKit Go.Proofs.YtbeajmcjfhbcjaaW.PrintWords
set_option linter.unusedVariables false
set_option linter.unusedSimpArgs false

theorem run_zero (v : Nat) : run 0 v = ints (List.range v) := by
 unfold run ints
 exact List.map_congr_left fun t _ => by omega
theorem isCellI_nat {w h : Int} {c : Nat} (hc : c < cellsN w h) : isCellI w h c = true := by
 have := cellsN_cast w h
 unfold isCellI
 rw [decide_eq_true_eq]; omega
section
variable {w h : Int} {n : Nat} (hg : gridOk w h = true) (hn : n < 2 ^ gapsN w h)
include hg hn
theorem mazeOk_nat : mazeOk w h n = true := mazeOk_iff.2 ⟨hg, n, rfl, hn⟩
theorem impl_Reached_ev {s : Nat} (hs : s < cellsN w h) : Ev (fun k => impl_Reached.f k w h n s) (ints (reachN w h n s)) := by
 have h16 := cellsN_le w h
 unfold impl_Reached.f
 refine Ev.bnd0 (impl_isIn_one w h n s) (Ev.tt (by rw [mazeOk_nat hg hn, isCellI_nat hs]; rfl) ?_)
 refine Ev.bind (impl_distances_ev hg hn hs) ?_
 rw [dlist_length]
 refine Ev.bind (impl_upTo_ev _ (by omega)) (Ev.tt ?_ (Ev.ret ?_))
 ·rw [List.all_eq_true]
  intro c hc
  have := mem_run.1 hc
  rw [decide_eq_true_eq]
  omega
 ·rw [run_zero]
  unfold reachN ints
  rw [List.filter_map]
  congr 1
  refine List.filter_congr fun c hc => ?_
  rw [List.mem_range] at hc
  simp only [Function.comp]
  rw [rd_dlist hc]
  by_cases h1 : distN w h n s c < 0
  ·rw [decide_eq_true h1, decide_eq_false (show ¬ 0 ≤ distN w h n s c by omega)]; rfl
  ·rw [decide_eq_false h1, decide_eq_true (show 0 ≤ distN w h n s c by omega)]; rfl
omit hg hn in
theorem head_is {s : Nat} (hn : n < 2 ^ gapsN w h) (hs : s < cellsN w h) : 0 < ((ints (reachN w h n s)).length : Int) ∧ rd (ints (reachN w h n s)) 0 = labN w h n s := by
 obtain ⟨t, ht⟩ := reachN_head hn hs
 rw [ht]
 exact ⟨by simp [ints], rfl⟩
theorem impl_parts_l0 : ∀ (d c m : Nat), c + d = cellsN w h → m ≤ c → Ev (fun k => impl_CountParts.l0 k m c w h n) (((m + (cnt (fun i => labN w h n i == i) (cellsN w h) - cnt (fun i => labN w h n i == i) c) : Nat)) : Int)
 | 0, c, m, hd, hm => by
  have hcast := cellsN_cast w h
  refine Ev.step (fun _ => impl_CountParts.l0.eq_2 ..) (Ev.bnd0 (impl_isIn_one w h n c) (Ev.ff ?_ (Ev.ret ?_)))
  ·have : isCellI w h c = false := by unfold isCellI; rw [decide_eq_false_iff_not]; omega
   rw [this]; simp
  ·rw [show c = cellsN w h by omega, Nat.sub_self, Nat.add_zero]
 | d + 1, c, m, hd, hm => by
  have h16 := cellsN_le w h
  have hcv : c < cellsN w h := by omega
  obtain ⟨e1, e2⟩ := head_is hn hcv
  refine Ev.step (fun _ => impl_CountParts.l0.eq_2 ..) (Ev.bnd0 (impl_isIn_one w h n c) (Ev.tt (by rw [mazeOk_nat hg hn, isCellI_nat hcv]; rfl) ?_))
  refine Ev.bind (impl_Reached_ev hg hn hcv) (Ev.tt e1 ?_)
  rw [e2, wsucc (by omega), wsucc (by omega)]
  have hle : cnt (fun i => labN w h n i == i) (c + 1) ≤ cnt (fun i => labN w h n i == i) (cellsN w h) := by
   obtain ⟨x, hx⟩ := Nat.exists_eq_add_of_le (show c + 1 ≤ cellsN w h by omega)
   rw [hx]
   have : ∀ x, cnt (fun i => labN w h n i == i) (c + 1) ≤ cnt (fun i => labN w h n i == i) (c + 1 + x) := by
    intro x
    induction x with
    | zero => exact Nat.le_refl _
    | succ x ih => rw [← Nat.add_assoc]; simp only [cnt]; simp only [cnt] at ih; omega
   exact this x
  simp only [cnt] at hle
  refine Ev.ite (fun h1 => ?_) (fun h1 => ?_)
  ·refine Ev.eq (impl_parts_l0 d (c + 1) (m + 1) (by omega) (by omega)) ?_
   have : (labN w h n c == c) = true := by rw [beq_iff_eq]; omega
   simp only [cnt, this, Bool.toNat_true] at hle ⊢
   omega
  ·refine Ev.eq (impl_parts_l0 d (c + 1) m (by omega) (by omega)) ?_
   have : (labN w h n c == c) = false := by rw [beq_eq_false_iff_ne]; omega
   simp only [cnt, this, Bool.toNat_false] at hle ⊢
   omega
theorem impl_CountParts_ev : Ev (fun k => impl_CountParts.f k w h n) (partsN w h n : Int) := by
 unfold impl_CountParts.f
 refine Ev.eq (impl_parts_l0 hg hn (cellsN w h) 0 0 (by omega) (by omega)) ?_
 simp only [cnt, Nat.zero_add, Nat.sub_zero]
 rfl
end
end Go.Proofs.Ytbeajmcjfhbcjaa.P
namespace Go.Proofs.Ytbeajmcjfhbcjaa.P
open Go.RowKit Go.Proofs.YtbeajmcjfhbcjaaW.PrintWords
set_option linter.unusedVariables false
set_option linter.unusedSimpArgs false

section
variable {w h : Int} {n : Nat} (hg : gridOk w h = true) (hn : n < 2 ^ gapsN w h)
include hg hn
theorem impl_CountPassages_eq : impl_CountPassages.f w h n = some (pop (gapsN w h) n : Int) := by
 have hs := open_small hn
 unfold impl_CountPassages.f
 rw [impl_MazeOk_eq, Option.bind_some, if_pos (mazeOk_nat hg hn), u64_small (by omega), ones_eq' (gapsN_le w h) hn, Option.bind_some]
omit hn in
theorem perf_value : (if (decide (((partsN w h n : Nat) : Int) = 1)) = true then decide (((pop (gapsN w h) n : Nat) : Int) = wrap64 (cellsOf w h - 1)) else false) = perfN w h n := by
 have h16 := cellsN_le w h
 have hpos := cells_pos hg
 have hcast := cellsN_cast w h
 have hpop := pop_le (gapsN w h) n
 rw [wrap64_id (by omega) (by omega)]
 unfold perfN perf
 by_cases h1 : partsN w h n = 1
 ·have h1' := h1
  unfold partsN at h1'
  rw [h1, h1']
  simp only [Int.natCast_one, decide_true, if_true, true_and]
  rw [decide_eq_decide]
  omega
 ·have h1' := h1
  unfold partsN at h1'
  rw [if_neg (by simp; omega)]
  symm
  rw [decide_eq_false_iff_not]
  exact fun h2 => h1' h2.1
theorem impl_IsPerfect_ev : Ev (fun k => impl_IsPerfect.f k w h n) (perfN w h n) := by
 unfold impl_IsPerfect.f impl_IsConnected.f
 rw [← perf_value hg]
 refine Ev.bind (Ev.bind (impl_CountParts_ev hg hn) (Ev.ret rfl)) ?_
 refine Ev.ite (fun h1 => Ev.bnd0 (impl_CountPassages_eq hg hn) (Ev.bnd0 (impl_CountCells_eq w h) (Ev.ret ?_))) (fun h1 => Ev.ret ?_)
 ·rw [if_pos (by simpa using h1)]
  rw [Bool.eq_iff_iff]
  simp
 ·rw [if_neg (by simpa using h1)]
end
end Go.Proofs.Ytbeajmcjfhbcjaa.P
namespace Go.Proofs.Ytbeajmcjfhbcjaa.P
open Go.RowKit Go.Proofs.YtbeajmcjfhbcjaaW.PrintWords Go.Proofs.Ytbeajmcjfhbcjaa.Sup
set_option linter.unusedVariables false
set_option linter.unusedSimpArgs false

theorem choices_l0 {xs : List Int} (hl : xs.length ≤ 1048576) {m : Int} (hm : m < 20) : ∀ (d : Nat) (j i h : Int) (cs : List Int), (m - j).toNat = d → 0 ≤ j → j ≤ 20 → (cs.length : Int) ≤ j → 0 ≤ i → ∃ r, Ev (fun k => spec_l17Choices.l0 k cs m j xs i h) r
 | 0, j, i, h, cs, hd, h0, h20, hc, hi => by
  obtain ⟨b, i', h', e, b0, b1, hi'⟩ := spec_Below_eq hl hi h (n := 8) (by omega) (by omega)
  have ho : spec_l01Once.f xs i h 8 = some (b == 0, i', h') := by
   unfold spec_l01Once.f
   rw [e]
   rfl
  by_cases hb : (b == 0) = true
  ·obtain ⟨b2, i2, h2, e2, b20, b21, hi2⟩ := spec_Below_eq hl hi' h' (n := 3) (by omega) (by omega)
   have hp : spec_l01PickInt.f xs i' h' [(-1), 9223372036854775807, (-9223372036854775808)] = some (rd [(-1), 9223372036854775807, (-9223372036854775808)] b2, i2, h2) := by
    unfold spec_l01PickInt.f
    show (spec_l01Below.f xs i' h' 3).bind _ = _
    rw [e2, Option.bind_some, if_pos b20, if_pos (show b2 < (([(-1), 9223372036854775807, (-9223372036854775808)] : List Int).length : Int) from b21)]
   exact ⟨_, Ev.step (fun _ => spec_l17Choices.l0.eq_2 ..) (Ev.ff (by omega) (Ev.bnd0 ho (Ev.tt hb (Ev.bnd0 hp (Ev.tt (by omega) (Ev.ret rfl))))))⟩
  ·exact ⟨_, Ev.step (fun _ => spec_l17Choices.l0.eq_2 ..) (Ev.ff (by omega) (Ev.bnd0 ho (Ev.ff hb (Ev.ret rfl))))⟩
 | d + 1, j, i, h, cs, hd, h0, h20, hc, hi => by
  obtain ⟨b, i', h', e, b0, b1, hi'⟩ := spec_Below_eq hl hi h (n := 50) (by omega) (by omega)
  obtain ⟨r, hr⟩ := choices_l0 hl hm d (j + 1) i' h' (cs ++ [b]) (by omega) (by omega) (by omega) (by rw [List.length_append]; simp only [List.length_cons, List.length_nil]; omega) hi'
  refine ⟨r, Ev.step (fun _ => spec_l17Choices.l0.eq_2 ..) (Ev.tt (by omega) (Ev.bnd0 e (Ev.tt (by omega) ?_)))⟩
  rw [wrap64_id (x := j + 1) (by omega) (by omega)]
  exact hr
theorem spec_DrawChoices_ev {xs : List Int} (hl : xs.length ≤ 1048576) : ∃ (w h : Int) (cs : List Int), gridOk w h = true ∧ Ev (fun k => spec_DrawChoices.f k xs) (w, h, cs) := by
 obtain ⟨h0, hn⟩ := spec_New_ev hl
 obtain ⟨w, h, i1, h1, hgr, hg, hi1⟩ := spec_Grid_eq hl (i := 0) (by omega) h0
 obtain ⟨b, i2, h2, e, b0, b1, hi2⟩ := spec_Below_eq hl hi1 h1 (n := 20) (by omega) (by omega)
 obtain ⟨r, hr⟩ := choices_l0 hl (m := b) (by omega) (b - 0).toNat 0 i2 h2 [] rfl (by omega) (by omega) (by simp) hi2
 refine ⟨w, h, r.1, hg, ?_⟩
 unfold spec_DrawChoices.f spec_l17Choices.f
 exact Ev.bind hn (Ev.bnd0 hgr (Ev.bind (Ev.bnd0 e hr) (Ev.ret rfl)))
theorem FnGrown_pure (l : List Int) (hy : l.length ≤ 140737488351232) (hz : ∀ x ∈ l, 0 ≤ x ∧ x ≤ 255) : ∃ k, laws_FnGrown.f k l = some true := by
 refine Ev.rounds ?_
 unfold laws_FnGrown.f laws_big.f
 refine Ev.bnd0 rfl (Ev.ite (fun _ => Ev.ret rfl) (fun hb => ?_))
 have hl : l.length ≤ 1048576 := by
  rw [decide_eq_true_eq] at hb
  omega
 obtain ⟨w, h, cs, hg, hd⟩ := spec_DrawChoices_ev hl
 obtain ⟨W, H, rfl, rfl, _, hW, _, hH⟩ := grid_nat hg
 obtain ⟨g1, g2⟩ := growN_perf hg cs
 obtain ⟨d1, d2⟩ := divN_perf hW hH hg cs
 have p1 := impl_IsPerfect_ev hg g1
 rw [g2] at p1
 have p2 := impl_IsPerfect_ev hg d1.lt
 rw [d2] at p2
 refine Ev.bind hd (Ev.bind (impl_GrowMaze_ev hg cs) (Ev.bind (impl_DivideMaze_ev hW hH hg cs) (Ev.bind p1 (Ev.tt rfl (Ev.bind p2 (Ev.tt rfl (Ev.tt (by simp) (Ev.tt (by simp) (Ev.bind (impl_CountRooms_ev hW hH hg) (Ev.ret ?_))))))))))
 simp
end Go.Proofs.Ytbeajmcjfhbcjaa.P
namespace Go.Proofs.Ytbeajmcjfhbcjaa.fnGrown
open Go.ChangeShapes Go.WideShapes Go.ChangeAt Go.RowKit Go.Proofs.YtbeajmcjfhbcjaaW.PrintWords Go.Proofs.Ytbeajmcjfhbcjaa.Sup
open Go.ChangeMaps (open_string shut_string)
set_option linter.unusedVariables false
theorem own : ownKnob Try.prog.godebug = none := by kernel_rfl
theorem laidOut : laidOutB Try.prog = true := by kernel_rfl
set_option maxRecDepth 100000 in
theorem lifted (os : Os) (started : os.Started) (H : Type) (enc : TypeId × Value → H) :
    ReturnsInHanded {} Try.checked os 11 .any (Rows.fnGrownSpec.pre6 enc Try.prog Try.f11 Rows.fnGrownRow.domain false) (Rows.fnGrownSpec.post enc Try.prog Try.f11 false true false false) := by
  refine returnsInHanded_of_change_sized (C := Try.checked) own started (by kernel_rfl) Try.func11
    (ChangeSpec.witness6 (enc := enc) (C := Try.checked) false ⟨#[], #[.slice none 0 0], []⟩ 8 (by kernel_rfl) (by kernel_rfl) (by kernel_rfl) (by kernel_rfl)) ?_
  intro W base args ds gs before hval0 hW hcnd hsz0 _
  have hsz : (DataW.weightsEach Try.prog (Try.f11.params.toList ++ Rows.fnGrownSpec.plain.varTypes Try.prog) (ds ++ gs)).all (· ≤ reachBytes) = true := hsz0
  have hval : ∀ (j : Nat) t v, Try.f11.params[j]? = some t → args[j]? = some v → Value.okWide Try.prog W .any base t v := hval0
  have hW' := hW
  obtain ⟨p, q, hA0, hV, rfl, hfz, hnd⟩ := hW
  have hA : DataW.TrodAll enc Try.prog W 0 (fun _ => true) true Try.f11.params.toList args.toList ds p := hA0
  rw [Try.params11] at hA hval hsz
  obtain ⟨v0, vs0, d0, ds0, p0, q0, hargs, rfl, rfl, h0, r0⟩ := trodAll_cons hA
  obtain ⟨rfl, rfl, rfl⟩ := trodAll_nil r0
  obtain rfl : args = #[v0] := by cases args; simp_all
  obtain ⟨rfl, rfl⟩ := trodVars_none hV
  obtain ⟨a0, len0, cap0, rfl⟩ := okWide_slice Try.underlying22 (hval 0 22 v0 rfl rfl)
  have k0 := h0
  have lt0 : ∀ x ∈ p0, x.block < W.heap.size := by obtain ⟨m, hm⟩ := k0; exact DataW.trod_lt m _ _ _ hm
  obtain ⟨z0, w0⟩ : ∃ zs, IsRow .u8 W a0 len0 cap0 zs := by
    obtain ⟨fuel, hf⟩ := h0
    rcases open_ints Try.underlying22 Try.underlying5 (by kernel_rfl) hf with ⟨hcs, _⟩ | ⟨x, l, c, zs, hcs, _, hl, hm, hz, _, hcell, hwz⟩
    · simp [Value.cells] at hcs
      obtain ⟨rfl, rfl, rfl⟩ := hcs
      exact ⟨[], .inl ⟨rfl, rfl, rfl, rfl⟩⟩
    · simp [Value.cells] at hcs
      obtain ⟨rfl, rfl, rfl⟩ := hcs
      exact ⟨zs, .inr ⟨_, rfl, hl, hm, by simpa using hz, hcell, hwz⟩⟩
  have y0 : len0 * 1 ≤ 140737488351232 := sized_ints hsz (j := 0) (t := 22) rfl rfl Try.underlying22 Try.underlying5 (by kernel_rfl) (by kernel_rfl) h0
  obtain ⟨l0, rfl, hr0, hm0, hw0, hc0⟩ := ReadsInt.ofRowC w0
  clear hA0 hval0 hsz0 hsz
  obtain ⟨k, hf⟩ := P.FnGrown_pure l0 (by omega) (fun x hx => u8_of_wf (hw0 x hx))
  refine (P.laws_FnGrown.calls k _ _ l0 true W (Kd.C_of_reads (d := (0 : Int)) (h1 := fun _ => rfl) hr0) hc0 hf).mono fun e W' ⟨he, bel0⟩ => ?_
  have bel : Below W.heap.size W W' := bel0
  subst he
  exact ⟨_, rfl, _, _, _, [], _, [], hW', trodAll_mk1 (shut_bool Try.underlying4 _), (trodAll_cons_mk (Below.trod laidOut (by kernel_rfl) (of_decide_eq_true (by kernel_rfl)) k0 bel lt0) trodAll_mk0), rfl, bel.frame _, fun h => by cases h⟩
theorem over : Rows.fnGrownRow.holds Try.pinned (OpenSpec.ofChange Rows.fnGrownSpec) :=
  OpenClaim.holds_of_wide 11 Try.f11 rfl rfl rfl rfl rfl rfl rfl ⟨rfl, rfl, rfl, rfl, rfl⟩ rfl rfl rfl rfl rfl (by kernel_rfl) Try.func11 (by kernel_rfl)
    (of_decide_eq_true (by kernel_rfl)) (by unfold Func.isWrapper; first | (rw [if_pos (by decide +kernel)]; kernel_rfl) | (rw [if_neg (by decide +kernel)]; exact ⟨rfl, rfl⟩))
    (fun os started H enc _ => lifted os started H enc)
theorem proved : Rows.FnGrownSaid := over
end Go.Proofs.Ytbeajmcjfhbcjaa.fnGrown
namespace Go.Proofs.Ytbeajmcjfhbcjaa
/-- The row, under a short name, for the claim. -/
theorem fnGrown_holds : Rows.FnGrownSaid := fnGrown.proved
#print axioms fnGrown_holds
end Go.Proofs.Ytbeajmcjfhbcjaa
