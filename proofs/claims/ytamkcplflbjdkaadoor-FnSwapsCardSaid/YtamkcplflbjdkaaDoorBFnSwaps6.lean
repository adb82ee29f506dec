/- The tied card of FnSwaps: whatever the input, the law answers true and the input reads as it did, where math/bits' two tables start as their initialisers lay them; out of its plain form (FnSwaps_pure) and the walk of its Go function. Part 6 of 6: each Go function's walk, then the plain lemmas, then the row. Condition: the package variables of math/bits that the row lists hold what their initialisers lay when the call begins; the card ties that to the program's text (the given tie, over a pruned copy of the project). -/
import Derived.Test.YtamkcplflbjdkaaDoorBFnSwaps5
import Derived.Test.YtamkcplflbjdkaaDoorCards
import Derived.Test.YtamkcplflbjdkaaDoorRows
import Derived.Test.YtamkcplflbjdkaaDoorTie
import Derived.Below
import Derived.ChangeOld
import Derived.ChangeSame
import Derived.ChangeVars
import Derived.Deep.Matrix
import Derived.JoinedOf
import Derived.LaidHandle
import Derived.LaidLaws
import Derived.LaidMore
import Derived.Lib.LaidTab
import Derived.Lib.SmallJoins
import Derived.MakeChecks
import Derived.OpenShut
import Derived.ProofKit
import Derived.SevenTiedAt
import Derived.ShutString
import Derived.SizedLaws
import Derived.Stop.Joined
import Derived.Stop.LaidErr
import Derived.WalkKit
namespace Go.Proofs.YtamkcplflbjdkaaDoor.Sup
open Go.ChangeShapes Go.WideShapes Go.ChangeAt Go.RowKit Go.Joins Go.Proofs.YtamkcplflbjdkaaDoorW.PrintWords
set_option linter.unusedVariables false
set_option linter.unusedSimpArgs false

theorem u8_of_wf {a : Int} (h : (Lit.int .u8 a).wf = true) : 0 ≤ a ∧ a ≤ 255 := by
 simp only [Lit.wf, IntKind.min, IntKind.max, IntKind.signed, IntKind.bits, Bool.and_eq_true, decide_eq_true_eq] at h
 simp at h
 omega

section
variable {H : Type} {enc : TypeId × Value → H} {P : Program} {w : World} {base : Nat} {spare : Nat → Bool} {held : Bool}

end

def IsRow (k : IntKind) (w : World) (a : Option Addr) (len cap : Nat) (zs : List Int) : Prop :=
 (a = none ∧ len = 0 ∧ cap = 0 ∧ zs = []) ∨
 ∃ x, a = some x ∧ len ≤ cap ∧ cap ≤ maxLen ∧ zs.length = cap ∧ (∀ i, i < zs.length → w.cell? (x.add i) = some (.int k (zs.getD i 0))) ∧ ∀ n ∈ zs, (Lit.int k n).wf = true

end Go.Proofs.YtamkcplflbjdkaaDoor.Sup
namespace Go.Proofs.YtamkcplflbjdkaaDoor.P
open Go.RowKit Go.Proofs.YtamkcplflbjdkaaDoorW.PrintWords
set_option linter.unusedVariables false
set_option linter.unusedSimpArgs false

theorem l01In_eq (a b c : Int) : spec_l01In.f a b c = some (decide (b ≤ a ∧ a ≤ c)) := by
 unfold spec_l01In.f
 by_cases h : a ≥ b
 ·rw [if_pos h]; congr 1; simp; omega
 ·rw [if_neg h]; congr 1; simp; omega

end Go.Proofs.YtamkcplflbjdkaaDoor.P
namespace Go.Proofs.YtamkcplflbjdkaaDoor.P
open Go.RowKit Go.Proofs.YtamkcplflbjdkaaDoorW.PrintWords Go.Proofs.YtamkcplflbjdkaaDoor.Sup
set_option linter.unusedVariables false
set_option linter.unusedSimpArgs false

theorem spec_GridOk_eq (w h : Int) : spec_GridOk.f w h = some (gridOk w h) := by
 unfold spec_GridOk.f
 simp only [l01In_eq, Option.bind_some]
 unfold gridOk
 by_cases h1 : 1 ≤ w ∧ w ≤ 4
 ·simp only [h1, and_self, decide_true, if_true, true_and]
 ·have : ¬ (1 ≤ w ∧ w ≤ 4 ∧ 1 ≤ h ∧ h ≤ 4) := by omega
  rw [decide_eq_false h1, decide_eq_false this]; simp
theorem impl_GridOk_eq (w h : Int) : impl_GridOk.f w h = some (gridOk w h) := by
 unfold impl_GridOk.f gridOk
 repeat' split
 all_goals congr 1
 all_goals first | (rw [decide_eq_decide]; omega) | (symm; rw [decide_eq_false_iff_not]; omega)

theorem impl_CountCells_eq (w h : Int) : impl_CountCells.f w h = some (cellsOf w h) := by
 unfold impl_CountCells.f
 rw [impl_GridOk_eq, Option.bind_some]
 have := cellsOf_range w h
 unfold cellsOf at *
 by_cases hg : gridOk w h = true
 ·rw [if_pos hg] at *
  rw [if_pos hg, wrap64_id (by omega) (by omega)]
 ·rw [if_neg hg, if_neg hg]
theorem spec_CountCells_eq (w h : Int) : spec_CountCells.f w h = some (cellsOf w h) := by
 unfold spec_CountCells.f
 rw [spec_GridOk_eq, Option.bind_some]
 have := cellsOf_range w h
 unfold cellsOf at *
 by_cases hg : gridOk w h = true
 ·rw [if_pos hg] at *
  rw [if_pos hg, wrap64_id (by omega) (by omega)]
 ·rw [if_neg hg, if_neg hg]
theorem impl_CountGaps_eq (w h : Int) : impl_CountGaps.f w h = some (gapsOf w h) := by
 unfold impl_CountGaps.f
 rw [impl_GridOk_eq, Option.bind_some]
 unfold gapsOf
 by_cases hg : gridOk w h = true
 ·rw [if_pos hg, if_pos hg]
  obtain ⟨h1 | h1 | h1 | h1, h2 | h2 | h2 | h2⟩ := grid_cases hg <;> subst h1 <;> subst h2 <;> simp [wrap64, eastOf]
 ·rw [if_neg hg, if_neg hg]
theorem spec_l02East_eq {w h : Int} (hg : gridOk w h = true) : spec_l02East.f w h = some (eastOf w h) := by
 unfold spec_l02East.f eastOf
 obtain ⟨h1 | h1 | h1 | h1, h2 | h2 | h2 | h2⟩ := grid_cases hg <;> subst h1 <;> subst h2 <;> simp [wrap64, eastOf]
theorem spec_CountGaps_eq (w h : Int) : spec_CountGaps.f w h = some (gapsOf w h) := by
 unfold spec_CountGaps.f
 rw [spec_GridOk_eq, Option.bind_some]
 unfold gapsOf
 by_cases hg : gridOk w h = true
 ·rw [if_pos hg, if_pos hg, spec_l02East_eq hg, Option.bind_some]
  obtain ⟨h1 | h1 | h1 | h1, h2 | h2 | h2 | h2⟩ := grid_cases hg <;> subst h1 <;> subst h2 <;> simp [wrap64, eastOf]
 ·rw [if_neg hg, if_neg hg]

theorem shl_one {n : Int} (h0 : 0 ≤ n) (h1 : n ≤ 24) : shl .i64 1 n = 2 ^ n.toNat := by
 obtain ⟨m, rfl⟩ := Int.eq_ofNat_of_zero_le h0
 have : m ≤ 24 := by omega
 clear h0 h1
 revert m
 decide +kernel
end Go.Proofs.YtamkcplflbjdkaaDoor.P
namespace Go.Proofs.YtamkcplflbjdkaaDoor.P
open Go.RowKit Go.Proofs.YtamkcplflbjdkaaDoorW.PrintWords
set_option linter.unusedVariables false
set_option linter.unusedSimpArgs false

theorem impl_isCell_eq (w h c : Int) : impl_isCell.f w h c = some (isCellI w h c) := by
 unfold impl_isCell.f isCellI
 rw [impl_CountCells_eq]
 by_cases hc : c ≥ 0
 ·rw [if_pos hc, Option.bind_some]; congr 1; rw [decide_eq_decide]; omega
 ·rw [if_neg hc]; congr 1; symm; rw [decide_eq_false_iff_not]; omega
theorem impl_Neighbor_ev (w h c d : Int) : Ev (fun k => impl_Neighbor.f k w h c d) (nbI w h c d) := by
 unfold impl_Neighbor.f nbI
 refine Ev.bnd0 (impl_isCell_eq w h c) ?_
 unfold isCellI
 by_cases hc : 0 ≤ c ∧ c < cellsOf w h
 ·rw [if_pos hc]
  obtain ⟨hg, hcw⟩ := cellsOf_valid hc.1 hc.2
  have hcr := cellsOf_range w h
  have hgr := gridOk_iff.1 hg
  refine Ev.tt (by simpa using hc) (Ev.ff (by omega) ?_)
  have hx0 : 0 ≤ c % w := Int.emod_nonneg _ (by omega)
  have hx1 : c % w < w := Int.emod_lt_of_pos _ (by omega)
  have hy0 : 0 ≤ c / w := Int.ediv_nonneg hc.1 (by omega)
  have hy1 : c / w ≤ c := Int.ediv_le_self _ hc.1
  rw [Int.tmod_eq_emod_of_nonneg hc.1, Int.tdiv_eq_ediv_of_nonneg hc.1, wrap64_id (x := c / w) (by omega) (by omega)]
  generalize c % w = x at *
  generalize c / w = y at *
  have j2 : ∀ b : Bool, (d ≠ 0 ∨ ¬ 0 < y) → (d ≠ 1 ∨ ¬ x < w - 1) → (b = true ↔ d = 2 ∧ y < h - 1) → Ev (fun k => impl_Neighbor.j2 k c d x b w h) (if d = 2 ∧ y < h - 1 then c + w else if d = 3 ∧ 0 < x then c - 1 else -1) := by
   intro b _ _ hb
   refine Ev.step (fun _ => impl_Neighbor.j2.eq_2 ..) ?_
   refine Ev.ite (fun e => ?_) (fun e => ?_)
   ·rw [if_pos (hb.1 e), wrap64_id (by omega) (by omega)]; exact Ev.ret rfl
   ·rw [if_neg (fun h => e (hb.2 h))]
    refine Ev.ite (fun e3 => Ev.ite (fun e4 => ?_) (fun e4 => ?_)) (fun e3 => ?_)
    ·rw [if_pos ⟨e3, e4⟩, wrap64_id (by omega) (by omega)]; exact Ev.ret rfl
    ·rw [if_neg (fun h => e4 h.2)]; exact Ev.ret rfl
    ·rw [if_neg (fun h => e3 h.1)]; exact Ev.ret rfl
  have j1 : ∀ b : Bool, (d ≠ 0 ∨ ¬ 0 < y) → (b = true ↔ d = 1 ∧ x < w - 1) → Ev (fun k => impl_Neighbor.j1 k c d x y b w h) (if d = 1 ∧ x < w - 1 then c + 1 else if d = 2 ∧ y < h - 1 then c + w else if d = 3 ∧ 0 < x then c - 1 else -1) := by
   intro b h0 hb
   refine Ev.step (fun _ => impl_Neighbor.j1.eq_2 ..) ?_
   refine Ev.ite (fun e => ?_) (fun e => ?_)
   ·rw [if_pos (hb.1 e), wrap64_id (by omega) (by omega)]; exact Ev.ret rfl
   ·have hn : ¬ (d = 1 ∧ x < w - 1) := fun h => e (hb.2 h)
    rw [if_neg hn]
    refine Ev.ite (fun e2 => ?_) (fun e2 => ?_)
    ·refine j2 _ h0 (by omega) ?_
     rw [wrap64_id (by omega) (by omega)]
     simp [e2]
    ·exact j2 _ h0 (by omega) (by simp [e2])
  have j0 : ∀ b : Bool, (b = true ↔ d = 0 ∧ 0 < y) → Ev (fun k => impl_Neighbor.j0 k c d x y b w h) (if d = 0 ∧ 0 < y then c - w else if d = 1 ∧ x < w - 1 then c + 1 else if d = 2 ∧ y < h - 1 then c + w else if d = 3 ∧ 0 < x then c - 1 else -1) := by
   intro b hb
   refine Ev.step (fun _ => impl_Neighbor.j0.eq_2 ..) ?_
   refine Ev.ite (fun e => ?_) (fun e => ?_)
   ·rw [if_pos (hb.1 e), wrap64_id (by omega) (by omega)]; exact Ev.ret rfl
   ·have hn : ¬ (d = 0 ∧ 0 < y) := fun h => e (hb.2 h)
    rw [if_neg hn]
    refine Ev.ite (fun e2 => ?_) (fun e2 => ?_)
    ·refine j1 _ (by omega) ?_
     rw [wrap64_id (by omega) (by omega)]
     simp [e2]
    ·exact j1 _ (by omega) (by simp [e2])
  refine Ev.ite (fun e => ?_) (fun e => ?_)
  ·exact j0 _ (by simp [e])
  ·exact j0 _ (by simp [e])
 ·rw [if_neg hc]
  exact Ev.ff (by simpa using hc) (Ev.ret rfl)
theorem impl_MazeOk_eq (w h o : Int) : impl_MazeOk.f w h o = some (mazeOk w h o) := by
 have hc := gapsOf_range w h
 unfold impl_MazeOk.f mazeOk gapsN
 rw [impl_GridOk_eq, Option.bind_some]
 cases hg : gridOk w h
 ·simp
 ·rw [if_pos rfl, impl_CountGaps_eq, Option.bind_some, if_pos hc.1, shl_one hc.1 hc.2]
  simp only [Bool.true_and]
  split
  ·congr 1; rw [decide_eq_decide]; omega
  ·congr 1; symm; rw [decide_eq_false_iff_not]; omega
theorem impl_isOpen_eq (w h : Int) {n : Nat} (hn : n < 16777216) (g : Int) : impl_isOpen.f w h n g = some (openI n g) := by
 unfold impl_isOpen.f openI
 by_cases hg : g ≥ 0
 ·rw [if_pos hg, if_pos hg]
  obtain ⟨m, rfl⟩ := Int.eq_ofNat_of_zero_le hg
  rw [bit_one (by omega)]
  simp
 ·rw [if_neg hg]
  simp; omega
theorem impl_isGap_eq (w h g : Int) : impl_isGap.f w h g = some (isGapI w h g) := by
 unfold impl_isGap.f isGapI
 rw [impl_CountGaps_eq]
 by_cases hc : g ≥ 0
 ·rw [if_pos hc, Option.bind_some]; congr 1; rw [decide_eq_decide]; omega
 ·rw [if_neg hc]; congr 1; symm; rw [decide_eq_false_iff_not]; omega
theorem impl_GapAt_ev (w h c d : Int) : Ev (fun k => impl_GapAt.f k w h c d) (gapI w h c d) := by
 unfold impl_GapAt.f gapI
 refine Ev.bind (impl_Neighbor_ev w h c d) ?_
 by_cases hn : nbI w h c d < 0
 ·rw [if_pos hn, if_pos hn]
  exact Ev.ret rfl
 ·rw [if_neg hn, if_neg hn]
  obtain ⟨hd, h0, h1⟩ := nb_dir (by omega : 0 ≤ nbI w h c d)
  obtain ⟨hg, hcw⟩ := cellsOf_valid h0 h1
  have hcr := cellsOf_range w h
  have hgr := gridOk_iff.1 hg
  have hlt := nb_lt (w := w) (h := h) (c := c) (d := d)
  have hmn : mn c (nbI w h c d) = min c (nbI w h c d) := by unfold mn; omega
  rw [hmn]
  have hm0 : 0 ≤ min c (nbI w h c d) := by omega
  have hm1 : min c (nbI w h c d) ≤ 15 := by omega
  generalize min c (nbI w h c d) = m at *
  have ha0 : 0 ≤ m / w := Int.ediv_nonneg hm0 (by omega)
  have ha1 : m / w ≤ m := Int.ediv_le_self _ hm0
  have hb0 : 0 ≤ m % w := Int.emod_nonneg _ (by omega)
  have hb1 : m % w < w := Int.emod_lt_of_pos _ (by omega)
  have hp0 : 0 ≤ m / w * (w - 1) := Int.mul_nonneg ha0 (by omega)
  have hp1 : m / w * (w - 1) ≤ 15 * 3 := Int.mul_le_mul (by omega) (by omega) (by omega) (by omega)
  have hq0 : 0 ≤ (w - 1) * h := Int.mul_nonneg (by omega) (by omega)
  have hq1 : (w - 1) * h ≤ 3 * 4 := Int.mul_le_mul (by omega) (by omega) (by omega) (by omega)
  rw [Int.tmod_eq_emod_of_nonneg hm0, Int.tdiv_eq_ediv_of_nonneg hm0, wrap64_id (x := m / w) (by omega) (by omega), wrap64_id (x := w - 1) (by omega) (by omega), wrap64_id (x := m / w * (w - 1)) (by omega) (by omega), wrap64_id (x := m / w * (w - 1) + m % w) (by omega) (by omega)]
  refine Ev.ite (fun e => Ev.ff (by omega) ?_) (fun e => Ev.ite (fun e3 => Ev.ff (by omega) ?_) (fun e3 => ?_))
  ·rw [if_pos (.inl e)]; exact Ev.ret rfl
  ·rw [if_pos (.inr e3)]; exact Ev.ret rfl
  ·rw [if_neg (by omega)]
   rw [wrap64_id (x := (w - 1) * h) (by omega) (by omega), wrap64_id (by omega) (by omega)]
   exact Ev.ret rfl
def waysFrom (s : Int → Int) (d : Nat) : List Int := ([0, 1, 2, 3].drop d).filter fun x => decide (0 ≤ s x)
theorem waysFrom_succ (s : Int → Int) {d : Nat} (hd : d < 4) : waysFrom s d = if 0 ≤ s d then (d : Int) :: waysFrom s (d + 1) else waysFrom s (d + 1) := by
 have : d = 0 ∨ d = 1 ∨ d = 2 ∨ d = 3 := by omega
 rcases this with rfl | rfl | rfl | rfl <;> simp [waysFrom, List.filter_cons]
def waysI (w h : Int) (n : Nat) (c : Int) : List Int := waysFrom (stepI w h n c) 0
theorem impl_Step_ev {w h : Int} {n : Nat} (hg : gridOk w h = true) (hn : n < 2 ^ gapsN w h) (c d : Int) : Ev (fun k => impl_Step.f k w h n c d) (stepI w h n c d) := by
 unfold impl_Step.f stepI
 refine Ev.bnd0 (impl_MazeOk_eq w h n) (Ev.tt (mazeOk_iff.2 ⟨hg, n, rfl, hn⟩) ?_)
 refine Ev.bind (impl_GapAt_ev w h c d) (Ev.bnd0 (impl_isOpen_eq w h (open_small hn) _) ?_)
 by_cases ho : openI n (gapI w h c d) = true
 ·rw [if_pos ho]
  exact Ev.tt ho (Ev.bind (impl_Neighbor_ev w h c d) (Ev.ret rfl))
 ·rw [if_neg ho]
  exact Ev.ff ho (Ev.ret rfl)
theorem impl_Ways_l0 (w h : Int) (o c : Int) (s : Int → Int) (hs : ∀ d, Ev (fun k => impl_Step.f k w h o c d) (s d)) : ∀ (e d : Nat) (out : List Int), 4 - d = e → d ≤ 4 → out.length ≤ d →
  Ev (fun k => impl_WaysFrom.l0 k c out d w h o) (out ++ waysFrom s d)
 | 0, d, out, he, hd, hl => by
  refine Ev.step (fun _ => impl_WaysFrom.l0.eq_2 ..) ?_
  refine Ev.ff (by omega) (Ev.ret ?_)
  obtain rfl : d = 4 := by omega
  simp [waysFrom]
 | e + 1, d, out, he, hd, hl => by
  refine Ev.step (fun _ => impl_WaysFrom.l0.eq_2 ..) ?_
  refine Ev.tt (by omega) (Ev.bind (hs d) ?_)
  rw [wsucc (by omega), waysFrom_succ s (show d < 4 by omega)]
  refine Ev.ite (fun h1 => Ev.tt (by omega) ?_) (fun h1 => ?_)
  ·rw [if_pos (by omega)]
   have := impl_Ways_l0 w h o c s hs e (d + 1) (out ++ [(d : Int)]) (by omega) (by omega) (by simp; omega)
   simpa using this
  ·rw [if_neg (by omega)]
   exact impl_Ways_l0 w h o c s hs e (d + 1) out (by omega) (by omega) (by omega)
theorem impl_Ways_ev {w h : Int} {n : Nat} (hg : gridOk w h = true) (hn : n < 2 ^ gapsN w h) (c : Int) : Ev (fun k => impl_WaysFrom.f k w h n c) (waysI w h n c) := by
 unfold impl_WaysFrom.f waysI
 have := impl_Ways_l0 w h n c _ (fun d => impl_Step_ev hg hn c d) 4 0 [] (by omega) (by omega) (by simp)
 simpa using this
end Go.Proofs.YtamkcplflbjdkaaDoor.P
namespace Go.Proofs.YtamkcplflbjdkaaDoor.P
open Go.RowKit Go.Proofs.YtamkcplflbjdkaaDoorW.PrintWords
set_option linter.unusedVariables false
set_option linter.unusedSimpArgs false

def ints (q : List Nat) : List Int := q.map fun (x : Nat) => (x : Int)
theorem ints_length (q : List Nat) : (ints q).length = q.length := by simp [ints]
theorem ints_app (q : List Nat) (y : Nat) : ints (q ++ [y]) = ints q ++ [(y : Int)] := by simp [ints]
theorem rd_ints {q : List Nat} {i x : Nat} (h : q[i]? = some x) : rd (ints q) (i : Int) = x := by
 rw [rd_nat, List.getD_eq_getElem?_getD]
 simp [ints, h]
def dlist (v : Nat) (D : Nat → Int) : List Int := (List.range v).map D
theorem dlist_length (v : Nat) (D : Nat → Int) : (dlist v D).length = v := by simp [dlist]
theorem rd_dlist {v : Nat} {D : Nat → Int} {c : Nat} (h : c < v) : rd (dlist v D) (c : Int) = D c := by
 rw [rd_get (by rw [dlist_length]; exact h)]
 simp [dlist]
theorem dlist_set {v : Nat} {D : Nat → Int} {y : Nat} {a : Int} (h : y < v) : (dlist v D).set y a = dlist v (upd D y a) := by
 refine List.ext_getElem (by simp [dlist]) fun i h1 h2 => ?_
 rw [List.getElem_set]
 simp only [dlist, upd, List.getElem_map, List.getElem_range]
 by_cases e : y = i
 ·rw [if_pos e, if_pos e.symm]
 ·rw [if_neg e, if_neg (fun e' => e e'.symm)]
structure SI (v : Nat) (S : (Nat → Int) × List Nat) : Prop where
 le : ∀ c, S.1 c ≤ S.2.length
 low : ∀ c, -1 ≤ S.1 c
 lt : ∀ c ∈ S.2, c < v
theorem SI.relax {v : Nat} {s : Nat → Nat → Int} (hs : Rng s v) {S : (Nat → Int) × List Nat} (I : SI v S) {x d : Nat} (hx : x < v) (hd : d < 4) : SI v (relax s x d S) ∧ (relax s x d S).2.length ≤ S.2.length + 1 ∧ ∀ (i z : Nat), S.2[i]? = some z → (relax s x d S).2[i]? = some z := by
 unfold Go.Proofs.YtamkcplflbjdkaaDoor.P.relax
 split
 ·rename_i hc
  refine ⟨⟨fun c => ?_, fun c => ?_, fun c hcq => ?_⟩, by simp, fun i z hz => ?_⟩
  ·have := I.le c
   have := I.le x
   show upd _ _ _ c ≤ _
   unfold upd
   simp only [List.length_append, List.length_singleton]
   split <;> omega
  ·have := I.low c
   have := I.low x
   show _ ≤ upd _ _ _ c
   unfold upd
   split <;> omega
  ·rcases List.mem_append.1 hcq with h | h
   ·exact I.lt c h
   ·simp at h
    have := hs x d hx hd
    omega
  ·have hi := (List.getElem?_eq_some_iff.1 hz).1
   rw [List.getElem?_append_left hi]; exact hz
 ·exact ⟨I, by omega, fun i z hz => hz⟩
def relaxL (s : Nat → Nat → Int) (x : Nat) : List Nat → (Nat → Int) × List Nat → (Nat → Int) × List Nat
 | [], S => S
 | d :: ds, S => relaxL s x ds (relax s x d S)
theorem relaxL_filter (s : Nat → Nat → Int) (x : Nat) : ∀ l S, relaxL s x (l.filter fun d => decide (0 ≤ s x d)) S = relaxL s x l S
 | [], S => rfl
 | d :: ds, S => by
  rw [List.filter_cons]
  by_cases h : 0 ≤ s x d
  ·simp only [h, decide_true, if_true, relaxL]
   exact relaxL_filter s x ds _
  ·simp only [h, decide_false, Bool.false_eq_true, if_false, relaxL]
   rw [relaxL_filter s x ds S, show relax s x d S = S from if_neg fun hc => h hc.1]
theorem bround_eq (s : Nat → Nat → Int) (x : Nat) (S : (Nat → Int) × List Nat) : bround s x S = relaxL s x [0, 1, 2, 3] S := rfl
theorem waysI_ints (w h : Int) (n c : Nat) : waysI w h n c = ints ([0, 1, 2, 3].filter fun d => decide (0 ≤ st w h n c d)) := by
 unfold waysI waysFrom st ints
 simp only [List.drop_zero, List.filter_cons, List.filter_nil]
 by_cases a : 0 ≤ stepI w h n c 0 <;> by_cases b : 0 ≤ stepI w h n c 1 <;> by_cases c' : 0 ≤ stepI w h n c 2 <;> by_cases d : 0 ≤ stepI w h n c 3 <;> simp [a, b, c', d]
section
variable {w h : Int} {n : Nat} (hg : gridOk w h = true) (hn : n < 2 ^ gapsN w h)
include hg hn
theorem impl_dist_l1 {x i : Nat} (W : List Nat) (hW : ∀ d ∈ W, d < 4 ∧ 0 ≤ st w h n x d) (hW4 : W.length ≤ 4) (res : List Int) :
  ∀ (e j : Nat) (S : (Nat → Int) × List Nat), j + e = W.length → SI (cellsN w h) S → S.2[i]? = some x → S.2.length ≤ 100 + j →
   (∀ S', S' = relaxL (st w h n) x (W.drop j) S → SI (cellsN w h) S' → Ev (fun k => impl_distances.l0 k (dlist (cellsN w h) S'.1) (ints S'.2) ((i + 1 : Nat) : Int) w h n) res) →
   Ev (fun k => impl_distances.l1 k (dlist (cellsN w h) S.1) (ints S.2) i (ints W) ((ints W).length : Int) j w h n) res
 | 0, j, S, hj, I, hx, hl, next => by
  have hi := (List.getElem?_eq_some_iff.1 hx).1
  refine Ev.step (fun _ => impl_distances.l1.eq_2 ..) (Ev.ff (by rw [ints_length]; omega) ?_)
  rw [wsucc (by omega)]
  exact next S (by rw [List.drop_eq_nil_of_le (by omega)]; rfl) I
 | e + 1, j, S, hj, I, hx, hl, next => by
  have hcast := cellsN_cast w h
  have hi := (List.getElem?_eq_some_iff.1 hx).1
  have hxv := I.lt x (List.mem_of_getElem? hx)
  have hjW : j < W.length := by omega
  obtain ⟨hd4, hd0⟩ := hW _ (List.getElem_mem hjW)
  have hdrop : W.drop j = W[j] :: W.drop (j + 1) := List.drop_eq_getElem_cons hjW
  have hwj : rd (ints W) (j : Int) = (W[j] : Nat) := rd_ints (List.getElem?_eq_getElem hjW)
  have hrng := (net_grid hn).rng x W[j] hxv hd4
  obtain ⟨y, hy⟩ : ∃ y : Nat, st w h n x W[j] = y := ⟨(st w h n x W[j]).toNat, by omega⟩
  have hyv : y < cellsN w h := by omega
  obtain ⟨I', hl', hk'⟩ := I.relax (net_grid hn).rng hxv hd4
  have ih := impl_dist_l1 W hW hW4 res e (j + 1) (relax (st w h n) x W[j] S) (by omega) I' (hk' i x hx) (by omega) (fun S' hS' I'' => next S' (by rw [hS', hdrop]; rfl) I'')
  refine Ev.step (fun _ => impl_distances.l1.eq_2 ..) ?_
  refine Ev.tt (by rw [ints_length]; omega) (Ev.tt (by omega) (Ev.tt (by rw [ints_length]; omega) (Ev.tt (by omega) (Ev.tt (by rw [ints_length]; omega) ?_))))
  rw [hwj, rd_ints hx]
  refine Ev.bind (impl_Step_ev hg hn x (W[j] : Nat)) ?_
  rw [show stepI w h n x (W[j] : Nat) = y from hy, wsucc (by omega)]
  refine Ev.tt (by omega) (Ev.tt (by rw [dlist_length]; omega) ?_)
  rw [rd_dlist hyv, rd_dlist hxv]
  refine Ev.ite (fun h1 => ?_) (fun h1 => ?_)
  ·refine Ev.tt (by omega) (Ev.tt (by rw [dlist_length]; omega) (Ev.tt (by rw [ints_length]; omega) ?_))
   have hb1 := I.le x
   have hb2 : 0 ≤ S.1 x ∨ S.1 x < 0 := by omega
   have hrel : relax (st w h n) x W[j] S = (upd S.1 y (S.1 x + 1), S.2 ++ [y]) := by
    unfold relax
    rw [hy, Int.toNat_natCast, if_pos ⟨by omega, h1⟩]
   rw [hrel] at ih
   rw [Int.toNat_natCast, dlist_set hyv, ← ints_app]
   have := I.low x
   rw [wrap64_id (by omega) (by omega)]
   exact ih
  ·have hrel : relax (st w h n) x W[j] S = S := by
    unfold relax
    rw [hy, Int.toNat_natCast, if_neg (fun hc => h1 hc.2)]
   rw [hrel] at ih
   exact ih
theorem impl_dist_l0 {src : Nat} (hs : src < cellsN w h) : ∀ (f i : Nat) (S : (Nat → Int) × List Nat), BInv (st w h n) (cellsN w h) src S i 0 → SI (cellsN w h) S → i ≤ S.2.length → cellsN w h + 1 - i ≤ f →
  Ev (fun k => impl_distances.l0 k (dlist (cellsN w h) S.1) (ints S.2) i w h n) (dlist (cellsN w h) (bfsF (st w h n) f S i))
 | 0, i, S, B, I, hi, hf => by have := B.len; omega
 | f + 1, i, S, B, I, hi, hf => by
  have h16 := cellsN_le w h
  have hlen := B.len
  refine Ev.step (fun _ => impl_distances.l0.eq_2 ..) ?_
  simp only [bfsF]
  cases hx : S.2[i]? with
  | none =>
   rw [List.getElem?_eq_none_iff] at hx
   exact Ev.ff (by rw [ints_length]; omega) (Ev.ret rfl)
  | some x =>
   have hil := (List.getElem?_eq_some_iff.1 hx).1
   have hxv := I.lt x (List.mem_of_getElem? hx)
   refine Ev.tt (by rw [ints_length]; omega) (Ev.tt (by omega) ?_)
   rw [rd_ints hx]
   refine Ev.bind (impl_Ways_ev hg hn _) ?_
   rw [waysI_ints]
   have hW : ∀ d ∈ ([0, 1, 2, 3].filter fun d => decide (0 ≤ st w h n x d)), d < 4 ∧ 0 ≤ st w h n x d := fun d hd => by
    rw [List.mem_filter] at hd
    refine ⟨?_, of_decide_eq_true hd.2⟩
    have := hd.1
    simp at this
    omega
   refine impl_dist_l1 hg hn (i := i) (x := x) _ hW (List.length_filter_le _ _) _ _ 0 S (Nat.zero_add _) I hx (by omega) (fun S' hS' I' => ?_)
   rw [List.drop_zero, relaxL_filter, ← bround_eq] at hS'
   subst hS'
   have B' := B.round (net_grid hn).rng hx
   refine impl_dist_l0 hs f (i + 1) _ B' I' ?_ (by omega)
   have h1 : ∀ m T, T.2.length ≤ (relax (st w h n) x m T).2.length := by
    intro m T
    unfold relax
    split <;> simp
   have := Nat.le_trans (h1 0 S) (Nat.le_trans (h1 1 _) (Nat.le_trans (h1 2 _) (h1 3 _)))
   show i + 1 ≤ (bround (st w h n) x S).2.length
   unfold bround
   omega
omit hg hn in
theorem SI.start {v src : Nat} (h : src < v) : SI v (upd (fun _ => -1) src 0, [src]) where
 le := fun c => by simp only [upd]; split <;> simp
 low := fun c => by simp only [upd]; split <;> omega
 lt := fun c hc => by simp at hc; omega
theorem impl_distances_ev {src : Nat} (hs : src < cellsN w h) : Ev (fun k => impl_distances.f k w h n src) (dlist (cellsN w h) (distN w h n src)) := by
 have h16 := cellsN_le w h
 have hcast := cellsN_cast w h
 unfold impl_distances.f
 refine Ev.bnd0 (impl_CountCells_eq w h) (Ev.bnd0 (a := dlist (cellsN w h) fun _ => -1) ?_ ?_)
 ·unfold slices_Repeat_int_int.f
  rw [if_pos ⟨by simp, by omega, by omega⟩]
  congr 1
  refine List.ext_getElem (by simp [dlist]; omega) fun i h1 h2 => ?_
  simp [dlist, rd]
 ·refine Ev.tt (by omega) (Ev.tt (by rw [dlist_length]; omega) ?_)
  rw [Int.toNat_natCast, dlist_set hs]
  exact impl_dist_l0 hg hn hs _ 0 _ (BInv.start hs) (SI.start hs) (by simp) (by omega)
end
end Go.Proofs.YtamkcplflbjdkaaDoor.P
namespace Go.Proofs.YtamkcplflbjdkaaDoor.P
open Go.RowKit Go.Proofs.YtamkcplflbjdkaaDoorW.PrintWords Go.Proofs.YtamkcplflbjdkaaDoor.Sup
set_option linter.unusedVariables false
set_option linter.unusedSimpArgs false

theorem impl_isIn_one (w h o c : Int) : impl_isIn.f w h o [c] = some (mazeOk w h o && isCellI w h c) := by
 unfold impl_isIn.f
 rw [impl_MazeOk_eq, Option.bind_some]
 cases hm : mazeOk w h o
 ·simp
 ·rw [if_pos rfl]
  simp [impl_isCell_eq]
theorem impl_isIn_two (w h o a b : Int) : impl_isIn.f w h o [a, b] = some (mazeOk w h o && (isCellI w h a && isCellI w h b)) := by
 unfold impl_isIn.f
 rw [impl_MazeOk_eq, Option.bind_some]
 cases hm : mazeOk w h o
 ·simp
 ·rw [if_pos rfl]
  simp [impl_isCell_eq]
end Go.Proofs.YtamkcplflbjdkaaDoor.P
namespace Go.Proofs.YtamkcplflbjdkaaDoor.P
open Go.RowKit Go.Proofs.YtamkcplflbjdkaaDoorW.PrintWords
set_option linter.unusedVariables false
set_option linter.unusedSimpArgs false

def run (i d : Nat) : List Int := (List.range d).map fun t => ((i + t : Nat) : Int)
theorem run_succ (i d : Nat) : run i (d + 1) = (i : Int) :: run (i + 1) d := by
 simp only [run, List.range_succ_eq_map, List.map_cons, List.map_map, Nat.add_zero]
 congr 1
 apply List.map_congr_left
 intro t _
 simp only [Function.comp, Nat.succ_eq_add_one]
 congr 1
 omega
theorem mem_run {i d : Nat} {x : Int} : x ∈ run i d ↔ (i : Int) ≤ x ∧ x < ((i + d : Nat) : Int) := by
 simp only [run, List.mem_map, List.mem_range]
 constructor
 ·rintro ⟨t, ht, rfl⟩
  omega
 ·intro ⟨h1, h2⟩
  exact ⟨(x - i).toNat, by omega, by omega⟩
theorem upTo_l0 (n : Nat) (hn : n ≤ 1000000) : ∀ (d i : Nat) (out : List Int), n - i = d → i ≤ n → out.length ≤ i → Ev (fun k => impl_upTo.l0 k n out i) (out ++ run i d)
 | 0, i, out, hd, hi, ho => by
  refine Ev.step (fun _ => impl_upTo.l0.eq_2 ..) (Ev.ff (by omega) (Ev.ret ?_))
  simp [run]
 | d + 1, i, out, hd, hi, ho => by
  refine Ev.step (fun _ => impl_upTo.l0.eq_2 ..) (Ev.tt (by omega) (Ev.tt (by omega) ?_))
  rw [wsucc (by omega), run_succ]
  have := upTo_l0 n hn d (i + 1) (out ++ [(i : Int)]) (by omega) (by omega) (by simp; omega)
  simpa using this
theorem impl_upTo_ev (n : Nat) (hn : n ≤ 1000000) : Ev (fun k => impl_upTo.f k n) (run 0 n) := by
 unfold impl_upTo.f
 have := upTo_l0 n hn n 0 [] (by omega) (by omega) (by simp)
 simpa using this
def p1 (x : Nat) : Nat := ((x / 2) &&& 6148914691236517205) + (x &&& 6148914691236517205)
def p2 (x : Nat) : Nat := ((x / 4) &&& 3689348814741910323) + (x &&& 3689348814741910323)
def p3 (x : Nat) : Nat := (x / 16 + x) &&& 1085102592571150095
theorem and_split {a m : Nat} (b M : Nat) (ha : a < 256) (hm : m < 256) : (256 * b + a) &&& (256 * M + m) = 256 * (b &&& M) + (a &&& m) := by
 apply Nat.eq_of_testBit_eq
 intro i
 have h1 := Nat.testBit_two_pow_mul_add b (i := 8) ha i
 have h2 := Nat.testBit_two_pow_mul_add M (i := 8) hm i
 have h3 := Nat.testBit_two_pow_mul_add (b &&& M) (i := 8) (b := a &&& m) (Nat.lt_of_le_of_lt Nat.and_le_left ha) i
 simp only [show (2 : Nat) ^ 8 = 256 from rfl] at h1 h2 h3
 rw [Nat.testBit_and, h1, h2, h3]
 split <;> simp [Nat.testBit_and]
theorem p1_split (b a : Nat) (ha : a < 256) : p1 (256 * b + a) = 256 * (((b / 2) &&& 24019198012642645) + (b &&& 24019198012642645)) + p1 a := by
 have e1 : (256 * b + a) / 2 = 256 * (b / 2) + (128 * (b % 2) + a / 2) := by omega
 have e2 : ∀ c, c < 2 → ∀ a, a < 256 → (128 * c + a / 2) &&& 85 = (a / 2) &&& 6148914691236517205 := by decide +kernel
 have e3 : ∀ a, a < 256 → a &&& 85 = a &&& 6148914691236517205 := by decide +kernel
 unfold p1
 rw [e1, show (6148914691236517205 : Nat) = 256 * 24019198012642645 + 85 from rfl, and_split _ _ (by omega) (by decide), and_split _ _ ha (by decide), ← show (6148914691236517205 : Nat) = 256 * 24019198012642645 + 85 from rfl, e2 _ (Nat.mod_lt _ (by decide)) a ha, e3 a ha]
 omega
theorem p2_split (b a : Nat) (ha : a < 256) : p2 (256 * b + a) = 256 * (((b / 4) &&& 14411518807585587) + (b &&& 14411518807585587)) + p2 a := by
 have e1 : (256 * b + a) / 4 = 256 * (b / 4) + (64 * (b % 4) + a / 4) := by omega
 have e2 : ∀ c, c < 4 → ∀ a, a < 256 → (64 * c + a / 4) &&& 51 = (a / 4) &&& 3689348814741910323 := by decide +kernel
 have e3 : ∀ a, a < 256 → a &&& 51 = a &&& 3689348814741910323 := by decide +kernel
 unfold p2
 rw [e1, show (3689348814741910323 : Nat) = 256 * 14411518807585587 + 51 from rfl, and_split _ _ (by omega) (by decide), and_split _ _ ha (by decide), ← show (3689348814741910323 : Nat) = 256 * 14411518807585587 + 51 from rfl, e2 _ (Nat.mod_lt _ (by decide)) a ha, e3 a ha]
 omega
theorem p3_split (b a : Nat) (ha : a < 72) (hb : b % 16 ≤ 4) : p3 (256 * b + a) = 256 * ((b / 16 + b) &&& 4238682002231055) + p3 a := by
 have e1 : (256 * b + a) / 16 + (256 * b + a) = 256 * (b / 16 + b) + (16 * (b % 16) + a / 16 + a) := by omega
 have e2 : ∀ c, c < 5 → ∀ a, a < 72 → (16 * c + a / 16 + a) &&& 15 = (a / 16 + a) &&& 1085102592571150095 := by decide +kernel
 unfold p3
 rw [e1, show (1085102592571150095 : Nat) = 256 * 4238682002231055 + 15 from rfl, and_split _ _ (by omega) (by decide), ← show (1085102592571150095 : Nat) = 256 * 4238682002231055 + 15 from rfl, e2 _ (by omega) a ha]
theorem byte : ∀ a, a < 256 → p1 a < 256 ∧ p1 a % 4 ≤ 2 ∧ p2 (p1 a) < 72 ∧ p2 (p1 a) % 16 ≤ 4 ∧ p3 (p2 (p1 a)) = pop 8 a := by decide +kernel
theorem and_low {b M : Nat} (hb : b < 65536) : b &&& M = b &&& (M % 65536) := by
 have h := Nat.and_mod_two_pow (a := b) (b := M) (n := 16)
 simp only [show (2 : Nat) ^ 16 = 65536 from rfl] at h
 rw [Nat.mod_eq_of_lt hb, Nat.mod_eq_of_lt (Nat.lt_of_le_of_lt Nat.and_le_left hb)] at h
 exact h
theorem p1_hi {b : Nat} (hb : b < 65536) : ((b / 2) &&& 24019198012642645) + (b &&& 24019198012642645) = p1 b := by
 unfold p1
 rw [and_low (show b / 2 < 65536 by omega), and_low hb, and_low (M := 6148914691236517205) (show b / 2 < 65536 by omega), and_low (M := 6148914691236517205) hb]
theorem p2_hi {b : Nat} (hb : b < 65536) : ((b / 4) &&& 14411518807585587) + (b &&& 14411518807585587) = p2 b := by
 unfold p2
 rw [and_low (show b / 4 < 65536 by omega), and_low hb, and_low (M := 3689348814741910323) (show b / 4 < 65536 by omega), and_low (M := 3689348814741910323) hb]
theorem p3_hi {b : Nat} (hb : b < 61680) : (b / 16 + b) &&& 4238682002231055 = p3 b := by
 unfold p3
 rw [and_low (show b / 16 + b < 65536 by omega), and_low (M := 1085102592571150095) (show b / 16 + b < 65536 by omega)]
theorem p3_three {a b c : Nat} (ha : a < 256) (hb : b < 256) (hc : c < 256) : p3 (p2 (p1 (256 * (256 * c + b) + a))) = 256 * (256 * pop 8 c + pop 8 b) + pop 8 a := by
 obtain ⟨a1, _, a2, a3, a4⟩ := byte a ha
 obtain ⟨b1, _, b2, b3, b4⟩ := byte b hb
 obtain ⟨c1, _, c2, c3, c4⟩ := byte c hc
 rw [p1_split _ _ ha, p1_hi (by omega), p1_split _ _ hb, p1_hi (by omega)]
 rw [p2_split _ _ a1, p2_hi (by omega), p2_split _ _ b1, p2_hi (by omega)]
 rw [p3_split _ _ a2 (by omega), p3_hi (by omega), p3_split _ _ b2 c3, p3_hi (by omega), a4, b4, c4]
theorem pop24 (a b c : Nat) (ha : a < 256) (hb : b < 256) (hc : c < 256) : pop 24 (256 * (256 * c + b) + a) = pop 8 a + pop 8 b + pop 8 c := by
 rw [show 24 = 8 + (8 + 8) from rfl, pop_add, pop_add, show (2 : Nat) ^ 8 = 256 from rfl, show (256 * (256 * c + b) + a) / 256 = 256 * c + b by omega, show (256 * c + b) / 256 = c by omega]
 rw [← pop_mod 8 (256 * (256 * c + b) + a), ← pop_mod 8 (256 * c + b), show (2 : Nat) ^ 8 = 256 from rfl, show (256 * (256 * c + b) + a) % 256 = a by omega, show (256 * c + b) % 256 = b by omega, Nat.add_assoc]
theorem u64_small {n : Nat} (h : n < 18446744073709551616) : IntKind.u64.wrap (n : Int) = n := by
 rw [IntKind.wrap_u64]; omega
theorem u64_and {a b : Nat} (ha : a < 9223372036854775808) (hb : b < 9223372036854775808) : Go.bits .and .u64 a b = ((a &&& b : Nat) : Int) :=
 (bits_nat .u64 63 (by decide) (fun n h0 h1 => by rw [IntKind.wrap_u64]; omega) a b (by simpa using ha) (by simpa using hb)).1
def s1 (a : Int) : Int := IntKind.u64.wrap ((Go.bits .and .u64 (a / 2) 6148914691236517205) + (Go.bits .and .u64 a 6148914691236517205))
def s2 (a : Int) : Int := IntKind.u64.wrap ((Go.bits .and .u64 (a / 4) 3689348814741910323) + (Go.bits .and .u64 a 3689348814741910323))
def s3 (a : Int) : Int := Go.bits .and .u64 (IntKind.u64.wrap (a / 16 + a)) 1085102592571150095
def s4 (a : Int) : Int := IntKind.u64.wrap (a + a / 256)
def s5 (a : Int) : Int := IntKind.u64.wrap (a + a / 65536)
def s6 (a : Int) : Int := IntKind.u64.wrap (a + a / 4294967296)
theorem ones_steps (a : Int) : bits_OnesCount.f a = some (Go.bits .and .i64 (wrap64 (s6 (s5 (s4 (s3 (s2 (s1 a))))))) 127) := rfl
theorem s1_nat {a : Nat} (h : a < 16777216) : s1 (a : Int) = (p1 a : Int) := by
 unfold s1 p1
 rw [show ((a : Int) / 2) = ((a / 2 : Nat) : Int) by omega, show (6148914691236517205 : Int) = ((6148914691236517205 : Nat) : Int) from rfl, u64_and (by omega) (by decide), u64_and (by omega) (by decide)]
 have h1 : (a / 2 &&& 6148914691236517205) ≤ a / 2 := Nat.and_le_left
 have h2 : (a &&& 6148914691236517205) ≤ a := Nat.and_le_left
 rw [← Int.natCast_add, u64_small (by omega)]
theorem s2_nat {a : Nat} (h : a < 67108864) : s2 (a : Int) = (p2 a : Int) := by
 unfold s2 p2
 rw [show ((a : Int) / 4) = ((a / 4 : Nat) : Int) by omega, show (3689348814741910323 : Int) = ((3689348814741910323 : Nat) : Int) from rfl, u64_and (by omega) (by decide), u64_and (by omega) (by decide)]
 have h1 : (a / 4 &&& 3689348814741910323) ≤ a / 4 := Nat.and_le_left
 have h2 : (a &&& 3689348814741910323) ≤ a := Nat.and_le_left
 rw [← Int.natCast_add, u64_small (by omega)]
theorem s3_nat {a : Nat} (h : a < 268435456) : s3 (a : Int) = (p3 a : Int) := by
 unfold s3 p3
 rw [show ((a : Int) / 16 + a) = ((a / 16 + a : Nat) : Int) by omega, u64_small (by omega), show (1085102592571150095 : Int) = ((1085102592571150095 : Nat) : Int) from rfl, u64_and (by omega) (by decide)]
theorem ones_eq {s : Nat} (h : s < 16777216) : bits_OnesCount.f (s : Int) = some (pop 24 s : Int) := by
 rw [ones_steps]
 have h1 : p1 s < 67108864 := by
  unfold p1
  have h1 : (s / 2 &&& 6148914691236517205) ≤ s / 2 := Nat.and_le_left
  have h2 : (s &&& 6148914691236517205) ≤ s := Nat.and_le_left
  omega
 have h2 : p2 (p1 s) < 268435456 := by
  unfold p2
  have h3 : (p1 s / 4 &&& 3689348814741910323) ≤ p1 s / 4 := Nat.and_le_left
  have h4 : (p1 s &&& 3689348814741910323) ≤ p1 s := Nat.and_le_left
  omega
 rw [s1_nat h, s2_nat h1, s3_nat h2]
 obtain ⟨a, b, c, ha, hb, hc, rfl⟩ : ∃ a b c, a < 256 ∧ b < 256 ∧ c < 256 ∧ s = 256 * (256 * c + b) + a := ⟨s % 256, s / 256 % 256, s / 65536, by omega, by omega, by omega, by omega⟩
 rw [p3_three ha hb hc, pop24 _ _ _ ha hb hc]
 have qa := pop_le 8 a
 have qb := pop_le 8 b
 have qc := pop_le 8 c
 generalize pop 8 a = x at *
 generalize pop 8 b = y at *
 generalize pop 8 c = z at *
 have e4 : s4 ((256 * (256 * z + y) + x : Nat) : Int) = ((65536 * z + 256 * (y + z) + (x + y) : Nat) : Int) := by
  unfold s4
  rw [show (((256 * (256 * z + y) + x : Nat) : Int) + ((256 * (256 * z + y) + x : Nat) : Int) / 256) = ((65536 * z + 256 * (y + z) + (x + y) : Nat) : Int) by omega, u64_small (by omega)]
 have e5 : s5 ((65536 * z + 256 * (y + z) + (x + y) : Nat) : Int) = ((65536 * z + 256 * (y + z) + (x + y + z) : Nat) : Int) := by
  unfold s5
  rw [show (((65536 * z + 256 * (y + z) + (x + y) : Nat) : Int) + ((65536 * z + 256 * (y + z) + (x + y) : Nat) : Int) / 65536) = ((65536 * z + 256 * (y + z) + (x + y + z) : Nat) : Int) by omega, u64_small (by omega)]
 have e6 : s6 ((65536 * z + 256 * (y + z) + (x + y + z) : Nat) : Int) = ((65536 * z + 256 * (y + z) + (x + y + z) : Nat) : Int) := by
  unfold s6
  rw [show (((65536 * z + 256 * (y + z) + (x + y + z) : Nat) : Int) + ((65536 * z + 256 * (y + z) + (x + y + z) : Nat) : Int) / 4294967296) = ((65536 * z + 256 * (y + z) + (x + y + z) : Nat) : Int) by omega, u64_small (by omega)]
 rw [e4, e5, e6, wrap64_id (by omega) (by omega), show (127 : Int) = ((127 : Nat) : Int) from rfl, bits_and (by omega) (by decide)]
 congr 2
 rw [show (127 : Nat) = 2 ^ 7 - 1 from rfl, Nat.and_two_pow_sub_one_eq_mod]
 omega
theorem ones_eq' {n s : Nat} (hn : n ≤ 24) (h : s < 2 ^ n) : bits_OnesCount.f (s : Int) = some (pop n s : Int) := by
 rw [ones_eq (Nat.lt_of_lt_of_le h (Nat.pow_le_pow_right (by decide) hn)), pop_big h hn]
end Go.Proofs.YtamkcplflbjdkaaDoor.P
namespace Go.Proofs.YtamkcplflbjdkaaDoor.P
open Go.RowKit Go.Proofs.YtamkcplflbjdkaaDoorW.PrintWords
set_option linter.unusedVariables false
set_option linter.unusedSimpArgs false

theorem run_zero (v : Nat) : run 0 v = ints (List.range v) := by
 unfold run ints
 exact List.map_congr_left fun t _ => by omega
theorem isCellI_nat {w h : Int} {c : Nat} (hc : c < cellsN w h) : isCellI w h c = true := by
 have := cellsN_cast w h
 unfold isCellI
 rw [decide_eq_true_eq]; omega
section
variable {w h : Int} {n : Nat} (hg : gridOk w h = true) (hn : n < 2 ^ gapsN w h)
include hg hn
theorem mazeOk_nat : mazeOk w h n = true := mazeOk_iff.2 ⟨hg, n, rfl, hn⟩
theorem impl_Reached_ev {s : Nat} (hs : s < cellsN w h) : Ev (fun k => impl_Reached.f k w h n s) (ints (reachN w h n s)) := by
 have h16 := cellsN_le w h
 unfold impl_Reached.f
 refine Ev.bnd0 (impl_isIn_one w h n s) (Ev.tt (by rw [mazeOk_nat hg hn, isCellI_nat hs]; rfl) ?_)
 refine Ev.bind (impl_distances_ev hg hn hs) ?_
 rw [dlist_length]
 refine Ev.bind (impl_upTo_ev _ (by omega)) (Ev.tt ?_ (Ev.ret ?_))
 ·rw [List.all_eq_true]
  intro c hc
  have := mem_run.1 hc
  rw [decide_eq_true_eq]
  omega
 ·rw [run_zero]
  unfold reachN ints
  rw [List.filter_map]
  congr 1
  refine List.filter_congr fun c hc => ?_
  rw [List.mem_range] at hc
  simp only [Function.comp]
  rw [rd_dlist hc]
  by_cases h1 : distN w h n s c < 0
  ·rw [decide_eq_true h1, decide_eq_false (show ¬ 0 ≤ distN w h n s c by omega)]; rfl
  ·rw [decide_eq_false h1, decide_eq_true (show 0 ≤ distN w h n s c by omega)]; rfl
theorem impl_DistanceOf_ev {a b : Nat} (ha : a < cellsN w h) (hb : b < cellsN w h) : Ev (fun k => impl_DistanceOf.f k w h n a b) (distN w h n a b) := by
 unfold impl_DistanceOf.f
 refine Ev.bnd0 (impl_isIn_two w h n a b) (Ev.tt (by rw [mazeOk_nat hg hn, isCellI_nat ha, isCellI_nat hb]; rfl) ?_)
 refine Ev.bind (impl_distances_ev hg hn ha) (Ev.tt (by omega) (Ev.tt (by rw [dlist_length]; omega) (Ev.ret ?_)))
 exact rd_dlist hb
omit hg hn in
theorem head_is {s : Nat} (hn : n < 2 ^ gapsN w h) (hs : s < cellsN w h) : 0 < ((ints (reachN w h n s)).length : Int) ∧ rd (ints (reachN w h n s)) 0 = labN w h n s := by
 obtain ⟨t, ht⟩ := reachN_head hn hs
 rw [ht]
 exact ⟨by simp [ints], rfl⟩
theorem impl_parts_l0 : ∀ (d c m : Nat), c + d = cellsN w h → m ≤ c → Ev (fun k => impl_CountParts.l0 k m c w h n) (((m + (cnt (fun i => labN w h n i == i) (cellsN w h) - cnt (fun i => labN w h n i == i) c) : Nat)) : Int)
 | 0, c, m, hd, hm => by
  have hcast := cellsN_cast w h
  refine Ev.step (fun _ => impl_CountParts.l0.eq_2 ..) (Ev.bnd0 (impl_isIn_one w h n c) (Ev.ff ?_ (Ev.ret ?_)))
  ·have : isCellI w h c = false := by unfold isCellI; rw [decide_eq_false_iff_not]; omega
   rw [this]; simp
  ·rw [show c = cellsN w h by omega, Nat.sub_self, Nat.add_zero]
 | d + 1, c, m, hd, hm => by
  have h16 := cellsN_le w h
  have hcv : c < cellsN w h := by omega
  obtain ⟨e1, e2⟩ := head_is hn hcv
  refine Ev.step (fun _ => impl_CountParts.l0.eq_2 ..) (Ev.bnd0 (impl_isIn_one w h n c) (Ev.tt (by rw [mazeOk_nat hg hn, isCellI_nat hcv]; rfl) ?_))
  refine Ev.bind (impl_Reached_ev hg hn hcv) (Ev.tt e1 ?_)
  rw [e2, wsucc (by omega), wsucc (by omega)]
  have hle : cnt (fun i => labN w h n i == i) (c + 1) ≤ cnt (fun i => labN w h n i == i) (cellsN w h) := by
   obtain ⟨x, hx⟩ := Nat.exists_eq_add_of_le (show c + 1 ≤ cellsN w h by omega)
   rw [hx]
   have : ∀ x, cnt (fun i => labN w h n i == i) (c + 1) ≤ cnt (fun i => labN w h n i == i) (c + 1 + x) := by
    intro x
    induction x with
    | zero => exact Nat.le_refl _
    | succ x ih => rw [← Nat.add_assoc]; simp only [cnt]; simp only [cnt] at ih; omega
   exact this x
  simp only [cnt] at hle
  refine Ev.ite (fun h1 => ?_) (fun h1 => ?_)
  ·refine Ev.eq (impl_parts_l0 d (c + 1) (m + 1) (by omega) (by omega)) ?_
   have : (labN w h n c == c) = true := by rw [beq_iff_eq]; omega
   simp only [cnt, this, Bool.toNat_true] at hle ⊢
   omega
  ·refine Ev.eq (impl_parts_l0 d (c + 1) m (by omega) (by omega)) ?_
   have : (labN w h n c == c) = false := by rw [beq_eq_false_iff_ne]; omega
   simp only [cnt, this, Bool.toNat_false] at hle ⊢
   omega
theorem impl_CountParts_ev : Ev (fun k => impl_CountParts.f k w h n) (partsN w h n : Int) := by
 unfold impl_CountParts.f
 refine Ev.eq (impl_parts_l0 hg hn (cellsN w h) 0 0 (by omega) (by omega)) ?_
 simp only [cnt, Nat.zero_add, Nat.sub_zero]
 rfl
end
theorem impl_CountParts_bad {w h o : Int} (hm : mazeOk w h o = false) : Ev (fun k => impl_CountParts.f k w h o) 0 := by
 unfold impl_CountParts.f
 exact Ev.step (fun _ => impl_CountParts.l0.eq_2 ..) (Ev.bnd0 (impl_isIn_one w h o 0) (Ev.ff (by rw [hm]; simp) (Ev.ret rfl)))
end Go.Proofs.YtamkcplflbjdkaaDoor.P
namespace Go.Proofs.YtamkcplflbjdkaaDoor.P
open Go.RowKit Go.Proofs.YtamkcplflbjdkaaDoorW.PrintWords
set_option linter.unusedVariables false
set_option linter.unusedSimpArgs false

section
variable {w h : Int} {n : Nat} (hg : gridOk w h = true) (hn : n < 2 ^ gapsN w h)
include hg hn
theorem impl_CountPassages_eq : impl_CountPassages.f w h n = some (pop (gapsN w h) n : Int) := by
 have hs := open_small hn
 unfold impl_CountPassages.f
 rw [impl_MazeOk_eq, Option.bind_some, if_pos (mazeOk_nat hg hn), u64_small (by omega), ones_eq' (gapsN_le w h) hn, Option.bind_some]
omit hn in
theorem perf_value : (if (decide (((partsN w h n : Nat) : Int) = 1)) = true then decide (((pop (gapsN w h) n : Nat) : Int) = wrap64 (cellsOf w h - 1)) else false) = perfN w h n := by
 have h16 := cellsN_le w h
 have hpos := cells_pos hg
 have hcast := cellsN_cast w h
 have hpop := pop_le (gapsN w h) n
 rw [wrap64_id (by omega) (by omega)]
 unfold perfN perf
 by_cases h1 : partsN w h n = 1
 ·have h1' := h1
  unfold partsN at h1'
  rw [h1, h1']
  simp only [Int.natCast_one, decide_true, if_true, true_and]
  rw [decide_eq_decide]
  omega
 ·have h1' := h1
  unfold partsN at h1'
  rw [if_neg (by simp; omega)]
  symm
  rw [decide_eq_false_iff_not]
  exact fun h2 => h1' h2.1
theorem impl_IsPerfect_ev : Ev (fun k => impl_IsPerfect.f k w h n) (perfN w h n) := by
 unfold impl_IsPerfect.f impl_IsConnected.f
 rw [← perf_value hg]
 refine Ev.bind (Ev.bind (impl_CountParts_ev hg hn) (Ev.ret rfl)) ?_
 refine Ev.ite (fun h1 => Ev.bnd0 (impl_CountPassages_eq hg hn) (Ev.bnd0 (impl_CountCells_eq w h) (Ev.ret ?_))) (fun h1 => Ev.ret ?_)
 ·rw [if_pos (by simpa using h1)]
  rw [Bool.eq_iff_iff]
  simp
 ·rw [if_neg (by simpa using h1)]
end
def perfI (w h o : Int) : Bool := mazeOk w h o && perfN w h o.toNat
theorem impl_IsPerfect_all (w h o : Int) : Ev (fun k => impl_IsPerfect.f k w h o) (perfI w h o) := by
 unfold perfI
 by_cases hm : mazeOk w h o = true
 ·obtain ⟨hg, n, rfl, hn⟩ := mazeOk_iff.1 hm
  rw [hm]
  exact impl_IsPerfect_ev hg hn
 ·rw [Bool.eq_false_iff.2 hm]
  unfold impl_IsPerfect.f impl_IsConnected.f
  exact Ev.bind (Ev.bind (impl_CountParts_bad (Bool.eq_false_iff.2 hm)) (Ev.ret rfl)) (Ev.ff (by decide) (Ev.ret rfl))
theorem perfI_iff {w h o : Int} : perfI w h o = true ↔ gridOk w h = true ∧ ∃ n : Nat, o = (n : Int) ∧ n < 2 ^ gapsN w h ∧ perfN w h n = true := by
 unfold perfI
 rw [Bool.and_eq_true, mazeOk_iff]
 constructor
 ·rintro ⟨⟨h1, n, rfl, h2⟩, h3⟩; exact ⟨h1, n, rfl, h2, h3⟩
 ·rintro ⟨h1, n, rfl, h2, h3⟩; exact ⟨⟨h1, n, rfl, h2⟩, h3⟩
end Go.Proofs.YtamkcplflbjdkaaDoor.P
namespace Go.Proofs.YtamkcplflbjdkaaDoor.P
open Go.RowKit Go.Proofs.YtamkcplflbjdkaaDoorW.PrintWords
set_option linter.unusedVariables false
set_option linter.unusedSimpArgs false

theorem impl_EndsOf_eq (w h g : Int) : impl_EndsOf.f w h g = some (endsI w h g) := by
 unfold impl_EndsOf.f endsI
 rw [impl_isGap_eq, Option.bind_some]
 unfold isGapI
 by_cases hc : 0 ≤ g ∧ g < gapsOf w h
 ·rw [if_pos hc, if_pos (by simpa using hc)]
  obtain ⟨hg, hgw⟩ := gapsOf_valid hc.1 hc.2
  have hgr := gridOk_iff.1 hg
  have hrr := gapsOf_range w h
  have hq0 : 0 ≤ (w - 1) * h := Int.mul_nonneg (by omega) (by omega)
  have hq1 : (w - 1) * h ≤ 3 * 4 := Int.mul_le_mul (by omega) (by omega) (by omega) (by omega)
  have hw1 : w - 1 = 0 → (w - 1) * h = 0 := fun e => by rw [e, Int.zero_mul]
  rw [wrap64_id (x := w - 1) (by omega) (by omega), wrap64_id (x := (w - 1) * h) (by omega) (by omega)]
  by_cases hlt : g < (w - 1) * h
  ·rw [if_pos hlt, if_neg (by omega)]
   have hne : w - 1 ≠ 0 := fun e => by have := hw1 e; omega
   have ha0 : 0 ≤ g / (w - 1) := Int.ediv_nonneg hc.1 (by omega)
   have ha1 : g / (w - 1) ≤ g := Int.ediv_le_self _ hc.1
   have hb0 : 0 ≤ g % (w - 1) := Int.emod_nonneg _ (by omega)
   have hb1 : g % (w - 1) < w - 1 := Int.emod_lt_of_pos _ (by omega)
   have hp0 : 0 ≤ g / (w - 1) * w := Int.mul_nonneg ha0 (by omega)
   have hp1 : g / (w - 1) * w ≤ 23 * 4 := Int.mul_le_mul (by omega) (by omega) (by omega) (by omega)
   rw [if_neg hne, Int.tmod_eq_emod_of_nonneg hc.1, Int.tdiv_eq_ediv_of_nonneg hc.1, wrap64_id (x := g / (w - 1)) (by omega) (by omega), wrap64_id (x := g / (w - 1) * w) (by omega) (by omega), wrap64_id (x := g / (w - 1) * w + g % (w - 1)) (by omega) (by omega), wrap64_id (by omega) (by omega)]
  ·rw [if_neg hlt, if_pos (by omega)]
   rw [wrap64_id (x := g - (w - 1) * h) (by omega) (by omega), wrap64_id (by omega) (by omega)]
 ·rw [if_neg hc, if_neg (by simpa using hc)]
theorem spec_EndsOf_eq (w h g : Int) : spec_EndsOf.f w h g = some (endsI w h g) := by
 unfold spec_EndsOf.f endsI
 have hr0 := gapsOf_range w h
 rw [spec_CountGaps_eq, Option.bind_some, wrap64_id (x := gapsOf w h - 1) (by omega) (by omega), l01In_eq, Option.bind_some]
 by_cases hc : 0 ≤ g ∧ g < gapsOf w h
 ·rw [if_pos hc, if_pos (by simp; omega)]
  obtain ⟨hg, hgw⟩ := gapsOf_valid hc.1 hc.2
  have hgr := gridOk_iff.1 hg
  have hrr := gapsOf_range w h
  have hq0 : 0 ≤ (w - 1) * h := Int.mul_nonneg (by omega) (by omega)
  have hq1 : (w - 1) * h ≤ 3 * 4 := Int.mul_le_mul (by omega) (by omega) (by omega) (by omega)
  have hw1 : w - 1 = 0 → (w - 1) * h = 0 := fun e => by rw [e, Int.zero_mul]
  rw [spec_l02East_eq hg]
  unfold eastOf
  simp only [Option.bind_some]
  rw [wrap64_id (x := w - 1) (by omega) (by omega)]
  by_cases hlt : g < (w - 1) * h
  ·rw [if_pos hlt, if_pos hlt]
   have hne : w - 1 ≠ 0 := fun e => by have := hw1 e; omega
   have ha0 : 0 ≤ g / (w - 1) := Int.ediv_nonneg hc.1 (by omega)
   have ha1 : g / (w - 1) ≤ g := Int.ediv_le_self _ hc.1
   have hb0 : 0 ≤ g % (w - 1) := Int.emod_nonneg _ (by omega)
   have hb1 : g % (w - 1) < w - 1 := Int.emod_lt_of_pos _ (by omega)
   have hp0 : 0 ≤ g / (w - 1) * w := Int.mul_nonneg ha0 (by omega)
   have hp1 : g / (w - 1) * w ≤ 23 * 4 := Int.mul_le_mul (by omega) (by omega) (by omega) (by omega)
   rw [if_neg hne, Int.tmod_eq_emod_of_nonneg hc.1, Int.tdiv_eq_ediv_of_nonneg hc.1, wrap64_id (x := g / (w - 1)) (by omega) (by omega), wrap64_id (x := g / (w - 1) * w) (by omega) (by omega), wrap64_id (x := g / (w - 1) * w + g % (w - 1)) (by omega) (by omega), wrap64_id (by omega) (by omega)]
  ·rw [if_neg hlt, if_neg hlt]
   rw [wrap64_id (x := g - (w - 1) * h) (by omega) (by omega), wrap64_id (by omega) (by omega)]
 ·rw [if_neg hc, if_neg (by simp; omega)]
end Go.Proofs.YtamkcplflbjdkaaDoor.P
namespace Go.Proofs.YtamkcplflbjdkaaDoor.P
open Go.RowKit Go.Proofs.YtamkcplflbjdkaaDoorW.PrintWords
set_option linter.unusedVariables false
set_option linter.unusedSimpArgs false

section
variable {w h : Int} {n z : Nat} (hg : gridOk w h = true) (hn : n < 2 ^ gapsN w h) (hz : z < cellsN w h)
include hg hn hz
theorem way_l1 {c : Nat} (hc : c < cellsN w h) (h0 : 0 < distN w h n z c) (out : List Int) (ho : out.length ≤ 1000) (W : List Nat) (hW : ∀ d ∈ W, d < 4 ∧ 0 ≤ st w h n c d) (hW4 : W.length ≤ 4) (hs : W.Pairwise (· < ·)) {res : List Int × Bool}
  (next : Ev (fun k => impl_WayBetween.l0 k z (dlist (cellsN w h) (distN w h n z)) (out ++ [((nearDir w h n z c : Nat) : Int)]) (nearCell w h n z c) w h n) res) :
  ∀ (d i : Nat), i + d = W.length → nearDir w h n z c ∈ W.drop i → Ev (fun k => impl_WayBetween.l1 k z (dlist (cellsN w h) (distN w h n z)) out c (ints W) ((ints W).length : Int) i w h n) res
 | 0, i, hi, hm => by rw [List.drop_eq_nil_of_le (by omega)] at hm; cases hm
 | d + 1, i, hi, hm => by
  have hV := cellsN_cast w h
  have hiW : i < W.length := by omega
  obtain ⟨f1, f2, f3, f4, _, _, _, f8⟩ := near_facts hn hz hc h0
  obtain ⟨hd4, hd0⟩ := hW _ (List.getElem_mem hiW)
  have hdrop : W.drop i = W[i] :: W.drop (i + 1) := List.drop_eq_getElem_cons hiW
  have hwi : rd (ints W) (i : Int) = (W[i] : Nat) := rd_ints (List.getElem?_eq_getElem hiW)
  have hrng := (net_grid hn).rng c W[i] hc hd4
  obtain ⟨y, hy⟩ : ∃ y : Nat, st w h n c W[i] = y := ⟨(st w h n c W[i]).toNat, by omega⟩
  have hyv : y < cellsN w h := by omega
  refine Ev.step (fun _ => impl_WayBetween.l1.eq_2 ..) (Ev.tt (by rw [ints_length]; omega) (Ev.tt (by omega) (Ev.tt (by rw [ints_length]; omega) ?_)))
  rw [hwi]
  have hstep := impl_Step_ev hg hn (c : Int) (W[i] : Int)
  rw [show stepI w h n c (W[i] : Int) = (y : Int) from hy] at hstep
  refine Ev.bind hstep (Ev.tt (by omega) (Ev.tt (by rw [dlist_length]; omega) (Ev.tt (by omega) (Ev.tt (by rw [dlist_length]; omega) ?_))))
  rw [rd_dlist hyv, rd_dlist hc, wsucc (by omega)]
  by_cases e : W[i] = nearDir w h n z c
  ·have hyc : y = nearCell w h n z c := by rw [e, f1] at hy; omega
   rw [e, hyc]
   exact Ev.tt (by omega) (Ev.tt (by omega) next)
  ·have hm' : nearDir w h n z c ∈ W.drop (i + 1) := by
    rw [hdrop] at hm
    exact (List.mem_cons.1 hm).resolve_left fun q => e q.symm
   have hlt : W[i] < nearDir w h n z c := by
    have hs2 := List.Pairwise.sublist (List.drop_sublist i W) hs
    rw [hdrop] at hs2
    exact (List.pairwise_cons.1 hs2).1 _ hm'
   refine Ev.ff (fun hq => f8 _ hlt ⟨hd0, ?_⟩) (way_l1 hc h0 out ho W hW hW4 hs next d (i + 1) (by omega) hm')
   rw [hy]; simpa using hq
theorem way_l0 : ∀ (m c : Nat) (out : List Int), c < cellsN w h → distN w h n z c = m → out.length + m ≤ 1000 → Ev (fun k => impl_WayBetween.l0 k z (dlist (cellsN w h) (distN w h n z)) out c w h n) (out ++ ints (wayD w h n z m c), true)
 | 0, c, out, hc, hm, ho => by
  obtain rfl := (distN_dist hn hz).zero c (by omega)
  refine Ev.step (fun _ => impl_WayBetween.l0.eq_2 ..) (Ev.tt rfl (Ev.ret ?_))
  simp [wayD, ints]
 | m + 1, c, out, hc, hm, ho => by
  have I := distN_dist hn hz
  obtain ⟨f1, f2, f3, f4, _, _, _, f8⟩ := near_facts hn hz hc (by omega)
  have hne : ¬ ((c : Int) = (z : Int)) := by
   intro e
   have : c = z := by omega
   rw [this, I.src0] at hm
   omega
  have hw := impl_Ways_ev hg hn (c : Int)
  rw [waysI_ints] at hw
  refine Ev.step (fun _ => impl_WayBetween.l0.eq_2 ..) (Ev.ff hne (Ev.bind hw ?_))
  have ih := way_l0 m (nearCell w h n z c) (out ++ [((nearDir w h n z c : Nat) : Int)]) f2 (by omega) (by rw [List.length_append]; simp; omega)
  have e1 : out ++ [((nearDir w h n z c : Nat) : Int)] ++ ints (wayD w h n z m (nearCell w h n z c)) = out ++ ints (wayD w h n z (m + 1) c) := by
   rw [List.append_assoc]; rfl
  rw [e1] at ih
  have h4 := nearDir_lt w h n z c
  have hmem : nearDir w h n z c ∈ [0, 1, 2, 3].filter fun d => decide (0 ≤ st w h n c d) := by
   rw [List.mem_filter, decide_eq_true_eq]
   refine ⟨?_, by omega⟩
   have : nearDir w h n z c = 0 ∨ nearDir w h n z c = 1 ∨ nearDir w h n z c = 2 ∨ nearDir w h n z c = 3 := by omega
   rcases this with q | q | q | q <;> rw [q] <;> decide
  refine way_l1 hg hn hz hc (by omega) out (by omega) _ ?_ (List.length_filter_le _ [0, 1, 2, 3]) (List.Pairwise.filter _ (by decide)) ih _ 0 (Nat.zero_add _) (by rw [List.drop_zero]; exact hmem)
  intro d hd
  rw [List.mem_filter, decide_eq_true_eq] at hd
  refine ⟨?_, hd.2⟩
  have := hd.1
  simp only [List.mem_cons, List.not_mem_nil, or_false] at this
  omega
theorem gapsOn_l0 : ∀ (m c : Nat) (out : List Int) (W : List Nat) (i : Nat), c < cellsN w h → distN w h n z c = m → out.length + m ≤ 1000 → W.length ≤ 1000 → W.drop i = wayD w h n z m c → i + m = W.length →
  Ev (fun k => impl_gapsOn.l0 k c out (ints W) ((ints W).length : Int) i w h n) (out ++ ints (wayG w h n z m c))
 | 0, c, out, W, i, hc, hm, ho, hW, hd, hi => by
  refine Ev.step (fun _ => impl_gapsOn.l0.eq_2 ..) (Ev.ff (by rw [ints_length]; omega) (Ev.ret ?_))
  simp [wayG, ints]
 | m + 1, c, out, W, i, hc, hm, ho, hW, hd, hi => by
  obtain ⟨f1, f2, f3, f4, f5, _, _, _⟩ := near_facts hn hz hc (by omega)
  have hiW : i < W.length := by omega
  rw [List.drop_eq_getElem_cons hiW] at hd
  have hd1 : W[i] = nearDir w h n z c := (List.cons.inj hd).1
  have hd2 := (List.cons.inj hd).2
  have hwi : rd (ints W) (i : Int) = (W[i] : Nat) := rd_ints (List.getElem?_eq_getElem hiW)
  refine Ev.step (fun _ => impl_gapsOn.l0.eq_2 ..) (Ev.tt (by rw [ints_length]; omega) (Ev.tt (by omega) (Ev.tt (by rw [ints_length]; omega) ?_)))
  rw [hwi, hd1, wsucc (by omega)]
  refine Ev.bind (impl_GapAt_ev w h c (nearDir w h n z c)) (Ev.tt (by omega) (Ev.bind (impl_Step_ev hg hn (c : Int) (nearDir w h n z c : Int)) ?_))
  rw [show stepI w h n c (nearDir w h n z c : Int) = (nearCell w h n z c : Int) from f1, f5]
  refine Ev.eq (gapsOn_l0 m (nearCell w h n z c) _ W (i + 1) f2 (by omega) (by rw [List.length_append]; simp; omega) hW hd2 (by omega)) ?_
  rw [List.append_assoc]
  rfl
theorem gapsOn_ev {c m : Nat} (hc : c < cellsN w h) (hm : distN w h n z c = m) (hm2 : m ≤ 1000) : Ev (fun k => impl_gapsOn.f k w h n c z) (ints (wayG w h n z m c)) := by
 unfold impl_gapsOn.f impl_WayBetween.f
 have hcn : 0 ≤ distN w h n c z := (distN_cn hn hc z).2 ((distN_cn hn hz c).1 (by omega)).symm
 refine Ev.bind (Ev.bind (impl_DistanceOf_ev hg hn hc hz) (Ev.ff (by omega) (Ev.bind (impl_distances_ev hg hn hz) (way_l0 hg hn hz m c [] hc hm (by simpa using hm2))))) ?_
 have := gapsOn_l0 hg hn hz m c [] (wayD w h n z m c) 0 hc hm (by simpa using hm2) (by rw [wayD_len]; omega) rfl (by rw [wayD_len]; omega)
 rw [List.nil_append] at this ⊢
 exact this
end
def loopN (w h : Int) (n g : Nat) : List Nat := (List.range (gapsN w h)).filter fun k => n.testBit k && decide (distN w h (setB n k false) (ends w h g).1 (ends w h g).2 < 0)
theorem loopN_len (w h : Int) (n g : Nat) : (loopN w h n g).length ≤ 24 := by
 have h1 := List.length_filter_le (fun k => n.testBit k && decide (distN w h (setB n k false) (ends w h g).1 (ends w h g).2 < 0)) (List.range (gapsN w h))
 have := gapsN_le w h
 unfold loopN
 rw [List.length_range] at h1
 omega
def loopI (w h o g : Int) : List Int := if perfI w h o = true ∧ isGapI w h g = true ∧ openI o.toNat g = false then ints (loopN w h o.toNat g.toNat) else []
theorem loopI_len (w h o g : Int) : (loopI w h o g).length ≤ 24 := by
 unfold loopI
 split
 ·rw [ints_length]; exact loopN_len ..
 ·simp
section
variable {w h : Int} {n g : Nat} (hg : gridOk w h = true) (hn : n < 2 ^ gapsN w h) (hgg : g < gapsN w h)
include hg hn hgg
theorem loop_impl (hp : perfN w h n = true) : Ev (fun k => impl_gapsOn.f k w h n (ends w h g).1 (ends w h g).2) (ints (wayG w h n (ends w h g).2 (distN w h n (ends w h g).2 (ends w h g).1).toNat (ends w h g).1)) ∧
  ordF (ints (wayG w h n (ends w h g).2 (distN w h n (ends w h g).2 (ends w h g).1).toNat (ends w h g).1)) = ints (loopN w h n g) ∧ (wayG w h n (ends w h g).2 (distN w h n (ends w h g).2 (ends w h g).1).toNat (ends w h g).1).length ≤ 24 := by
 obtain ⟨_, e2, e3⟩ := ends_facts hgg
 have hp' := perf_iff.1 hp
 have hf : pop (gapsN w h) n + partsN w h n = cellsN w h := by unfold partsN; omega
 have hpos := cells_pos hg
 have hcn : Cn (ends w h) n (ends w h g).2 (ends w h g).1 := by
  have hc := (parts_one hn (by omega)).1 hp'.1
  exact (hc _ e3).symm.trans (hc _ (by omega))
 have hd0 := (distN_cn hn e3 (ends w h g).1).2 hcn
 obtain ⟨b1, b2⟩ := wayG_bridge hn e3 hf (distN w h n (ends w h g).2 (ends w h g).1).toNat (ends w h g).1 (by omega) (by omega)
 have b3 := wayG_lt hn e3 (distN w h n (ends w h g).2 (ends w h g).1).toNat (ends w h g).1 (by omega) (by omega)
 have hlen := nodup_len b2 fun k hk => (b3 k hk).1
 have h24 := gapsN_le w h
 rw [wayG_len] at hlen
 refine ⟨gapsOn_ev hg hn e3 (by omega) (by omega) (by omega), ?_, by rw [wayG_len]; omega⟩
 refine asc_unique (ordF_sorted _) ?_ fun x => ?_
 ·unfold ints loopN
  rw [List.pairwise_map]
  have : ((List.range (gapsN w h)).filter fun k => n.testBit k && decide (distN w h (setB n k false) (ends w h g).1 (ends w h g).2 < 0)).Pairwise (· < ·) := List.Pairwise.filter _ List.pairwise_lt_range
  exact this.imp fun {a b} hab => by omega
 ·rw [ordF_mem]
  unfold ints
  rw [List.mem_map, List.mem_map]
  have hiff : ∀ k, k ∈ wayG w h n (ends w h g).2 (distN w h n (ends w h g).2 (ends w h g).1).toNat (ends w h g).1 ↔ k ∈ loopN w h n g := by
   intro k
   unfold loopN
   rw [List.mem_filter, List.mem_range, Bool.and_eq_true, decide_eq_true_eq]
   constructor
   ·intro hk
    obtain ⟨q1, q2⟩ := b3 k hk
    refine ⟨q1, q2, ?_⟩
    have hnc := ((b1 k).1 hk).2
    have := (distN_cn (setB_lt false hn q1) (show (ends w h g).1 < cellsN w h by omega) (ends w h g).2)
    rcases Int.lt_or_le (distN w h (setB n k false) (ends w h g).1 (ends w h g).2) 0 with q | q
    ·exact q
    ·exact absurd (this.1 q) hnc
   ·rintro ⟨q1, q2, q3⟩
    refine (b1 k).2 ⟨q2, fun hc => ?_⟩
    have := (distN_cn (setB_lt false hn q1) (show (ends w h g).1 < cellsN w h by omega) (ends w h g).2).2 hc
    omega
  constructor <;> rintro ⟨k, hk, rfl⟩
  ·exact ⟨k, (hiff k).1 hk, rfl⟩
  ·exact ⟨k, (hiff k).2 hk, rfl⟩
end
theorem impl_LoopGaps_ev (w h o g : Int) : Ev (fun k => impl_LoopGaps.f k w h o g) (loopI w h o g) := by
 unfold impl_LoopGaps.f
 have hbad : ¬ (perfI w h o = true ∧ isGapI w h g = true ∧ openI o.toNat g = false) → Ev (fun k => impl_LoopGaps.j0 k g true w h o) (loopI w h o g) := by
  intro hc
  unfold loopI
  rw [if_neg hc]
  exact Ev.step (fun _ => impl_LoopGaps.j0.eq_2 ..) (Ev.tt rfl (Ev.ret rfl))
 refine Ev.bind (impl_IsPerfect_all w h o) (Ev.ite (fun e1 => Ev.bnd0 (impl_isGap_eq w h g) (Ev.ite (fun e2 => ?_) (fun e2 => hbad fun hc => e2 hc.2.1))) (fun e1 => hbad fun hc => e1 hc.1))
 obtain ⟨hg, n, rfl, hn, hp⟩ := perfI_iff.1 e1
 refine Ev.bnd0 (impl_isOpen_eq w h (open_small hn) g) ?_
 by_cases e3 : openI n g = true
 ·rw [e3]
  exact hbad fun hc => by have := hc.2.2; rw [Int.toNat_natCast, e3] at this; cases this
 ·have e3 := Bool.eq_false_iff.2 e3
  have e2' := e2
  unfold isGapI at e2
  rw [decide_eq_true_eq] at e2
  have hgc := gapsN_cast w h
  obtain ⟨gg, rfl⟩ : ∃ gg : Nat, g = gg := ⟨g.toNat, by omega⟩
  have hgg : gg < gapsN w h := by omega
  obtain ⟨p1, p2, p3⟩ := loop_impl hg hn hgg hp
  rw [e3]
  refine Ev.step (fun _ => impl_LoopGaps.j0.eq_2 ..) (Ev.ff (by simp) (Ev.bnd0 (impl_EndsOf_eq w h gg) ?_))
  rw [(ends_facts hgg).1]
  refine Ev.bind p1 ?_
  unfold impl_ordered.f
  rw [if_pos (by rw [ints_length]; omega), p2]
  refine Ev.bnd0 rfl (Ev.ret ?_)
  unfold loopI
  rw [Int.toNat_natCast, if_pos ⟨e1, e2', e3⟩]
  rfl
end Go.Proofs.YtamkcplflbjdkaaDoor.P
namespace Go.Proofs.YtamkcplflbjdkaaDoor.P
open Go.RowKit Go.Proofs.YtamkcplflbjdkaaDoorW.PrintWords
set_option linter.unusedVariables false
set_option linter.unusedSimpArgs false

theorem idxOf_is {l : List Int} {x : Int} {i : Nat} (h : i < l.length) (hx : l[i] = x) (hn : ∀ j, (hj : j < i) → l[j] ≠ x) : l.idxOf x = i := by
 unfold List.idxOf
 rw [List.findIdx_eq h]
 exact ⟨by simp [hx], fun j hj => by simp [hn j hj]⟩
theorem index_l0 (l : List Int) (x : Int) (hl : l.length ≤ 4611686018427387903) : ∀ (d i : Nat), l.length - i = d → i ≤ l.length → (∀ j, j < i → rd l j ≠ x) →
  Ev (fun k => slices_Index_int_int.l0 k l x l.length i) (if x ∈ l then (l.idxOf x : Int) else -1)
 | 0, i, hd, hi, hn => by
  refine Ev.step (fun _ => slices_Index_int_int.l0.eq_2 ..) ?_
  refine Ev.ff (by omega) (Ev.ret ?_)
  rw [if_neg]
  intro hx
  obtain ⟨j, hj, rfl⟩ := List.getElem_of_mem hx
  exact hn j (by omega) (rd_get hj)
 | d + 1, i, hd, hi, hn => by
  refine Ev.step (fun _ => slices_Index_int_int.l0.eq_2 ..) ?_
  refine Ev.tt (by omega) (Ev.tt (by omega) (Ev.tt (by omega) ?_))
  have hlt : i < l.length := by omega
  refine Ev.ite (fun e => ?_) (fun e => ?_)
  ·refine Ev.ret ?_
   have hm : x ∈ l := by rw [e, rd_get hlt]; exact List.getElem_mem hlt
   rw [if_pos hm]
   rw [idxOf_is hlt (by rw [e, rd_get hlt]) (fun j hj => by have := hn j hj; rwa [rd_get (by omega)] at this)]
  ·rw [wsucc (by omega)]
   refine index_l0 l x hl d (i + 1) (by omega) (by omega) fun j hj => ?_
   by_cases h : j = i
   ·subst h; exact fun e' => e e'.symm
   ·exact hn j (by omega)
theorem index_ev (l : List Int) (x : Int) (hl : l.length ≤ 4611686018427387903) : Ev (fun k => slices_Index_int_int.f k l x) (if x ∈ l then (l.idxOf x : Int) else -1) := by
 unfold slices_Index_int_int.f
 exact index_l0 l x hl l.length 0 (by omega) (by omega) (fun j hj => by omega)

theorem impl_with_eq (w h : Int) {n : Nat} (hn : n < 16777216) {g : Nat} (hg : g < 24) (b : Bool) : impl_with.f w h n g b = some (w, h, ((setB n g b : Nat) : Int)) := by
 have hp : 2 ^ g ≤ 2 ^ 24 := Nat.pow_le_pow_right (by decide) (by omega)
 unfold impl_with.f
 rw [if_pos (by omega), shl_pow (by omega), bits_andNot (by omega) (by omega)]
 cases b
 ·rw [if_neg (by decide)]
  rfl
 ·rw [if_pos rfl, bits_or (by have := andNot_le n (2 ^ g); omega) (by omega)]
  have e : andNot n (2 ^ g) ||| 2 ^ g = setB n g true := by
   apply Nat.eq_of_testBit_eq
   intro i
   rw [testBit_setB, Nat.testBit_or, testBit_andNot, Nat.testBit_two_pow]
   by_cases h : i = g
   ·simp [h]
   ·simp [h, show ¬ g = i from fun e => h e.symm]
  rw [e]
theorem at_eq {l : List Int} (hl : l.length ≤ 1048576) (hz : ∀ x ∈ l, 0 ≤ x ∧ x ≤ 255) {a : Int} (h0 : 0 ≤ a) (h1 : a ≤ 9) : ∃ v, laws_at.f l a = some v ∧ 0 ≤ v ∧ v ≤ 255 := by
 unfold laws_at.f
 by_cases e : (l.length : Int) = 0
 ·exact ⟨0, if_pos e, by omega, by omega⟩
 ·rw [if_neg e, wrap64_id (x := a * 5) (by omega) (by omega), wrap64_id (x := a * 5 + 1) (by omega) (by omega)]
  have t0 : 0 ≤ Int.tmod (a * 5 + 1) (l.length : Int) := Int.tmod_nonneg _ (by omega)
  have t1 : Int.tmod (a * 5 + 1) (l.length : Int) < (l.length : Int) := Int.tmod_lt_of_pos _ (by omega)
  rw [if_pos t0, if_pos t1]
  obtain ⟨i, hi⟩ := Int.eq_ofNat_of_zero_le t0
  rw [hi] at t1 ⊢
  have hm := hz _ (List.getElem_mem (show i < l.length by omega))
  refine ⟨_, rfl, ?_⟩
  show 0 ≤ wrap64 (rd l (i : Int)) ∧ wrap64 (rd l (i : Int)) ≤ 255
  rw [rd_get (show i < l.length by omega), wrap64_id (by omega) (by omega)]
  exact hm
end Go.Proofs.YtamkcplflbjdkaaDoor.P
namespace Go.Proofs.YtamkcplflbjdkaaDoor.P
open Go.RowKit Go.Proofs.YtamkcplflbjdkaaDoorW.PrintWords
set_option linter.unusedVariables false
set_option linter.unusedSimpArgs false

section
variable {e : Nat → Nat × Nat} {V E : Nat}
structure KInv (e : Nat → Nat × Nat) (V E : Nat) (done : Nat → Prop) (P : Nat → Int) (o : Nat) : Prop where
 lt : o < 2 ^ E
 lab : ∀ x y, x < V → y < V → (P x = P y ↔ Cn e o x y)
 fo : pop E o + parts e V E o = V
 dn : ∀ g, g < E → done g → Cn e o (e g).1 (e g).2
theorem pop_zero' (E : Nat) : pop E 0 = 0 := by
 induction E with
 | zero => rfl
 | succ m ih => simp only [pop, Nat.zero_testBit, ih]; rfl
theorem KInv.start {P : Nat → Int} (hP : ∀ x, P x = x) : KInv e V E (fun _ => False) P 0 := by
 refine ⟨Nat.two_pow_pos E, fun x y _ _ => ?_, ?_, fun _ _ h => h.elim⟩
 ·rw [hP, hP, Cn_zero]
  omega
 ·rw [parts_zero, pop_zero', Nat.zero_add]
theorem KInv.skip {done : Nat → Prop} {P : Nat → Int} {o g : Nat} (hG : Gr e V E) (K : KInv e V E done P o) (hg : g < E) (h : P (e g).1 = P (e g).2) : KInv e V E (fun j => done j ∨ j = g) P o :=
 ⟨K.lt, K.lab, K.fo, fun j hj hd => hd.elim (K.dn j hj) (fun h2 => by subst h2; exact (K.lab _ _ (hG j hg).1 (hG j hg).2).1 h)⟩
theorem KInv.join {done : Nat → Prop} {P : Nat → Int} {o g : Nat} (hG : Gr e V E) (K : KInv e V E done P o) (hg : g < E) (h : ¬ P (e g).1 = P (e g).2) :
  KInv e V E (fun j => done j ∨ j = g) (fun x => if P x = P (e g).2 then P (e g).1 else P x) (setB o g true) := by
 obtain ⟨g1, g2⟩ := hG g hg
 have hnc : ¬ Cn e o (e g).1 (e g).2 := fun hc => h ((K.lab _ _ g1 g2).2 hc)
 have hb : o.testBit g = false := by
  cases hb : o.testBit g
  ·rfl
  ·exact absurd (Cn.edge hb) hnc
 refine ⟨setB_lt true K.lt hg, fun x y hx hy => ?_, ?_, fun j hj hd => ?_⟩
 ·rw [Cn_add, ← K.lab x y hx hy, ← K.lab x _ hx g1, ← K.lab _ y g2 hy, ← K.lab x _ hx g2, ← K.lab _ y g1 hy]
  show (if P x = P (e g).2 then P (e g).1 else P x) = (if P y = P (e g).2 then P (e g).1 else P y) ↔ _
  by_cases e1 : P x = P (e g).2 <;> by_cases e2 : P y = P (e g).2
  ·rw [if_pos e1, if_pos e2, e1, e2]; simp
  ·rw [if_pos e1, if_neg e2]
   constructor
   ·intro e3; exact Or.inr (Or.inr ⟨e1, e3⟩)
   ·rintro (e3 | ⟨e3, e4⟩ | ⟨_, e4⟩)
    ·exact absurd (e3.symm.trans e1) e2
    ·exact absurd e4.symm e2
    ·exact e4
  ·rw [if_neg e1, if_pos e2]
   constructor
   ·intro e3; exact Or.inr (Or.inl ⟨e3, e2.symm⟩)
   ·rintro (e3 | ⟨e3, _⟩ | ⟨e3, _⟩)
    ·exact absurd (e3.trans e2) e1
    ·exact e3
    ·exact absurd e3 e1
  ·rw [if_neg e1, if_neg e2]
   constructor
   ·exact Or.inl
   ·rintro (e3 | ⟨_, e4⟩ | ⟨e3, _⟩)
    ·exact e3
    ·exact absurd e4.symm e2
    ·exact absurd e3 e1
 ·have h1 := (parts_add (v := V) K.lt hg g1 g2).2 hnc
  have h2 := K.fo
  rw [pop_setB hg hb]
  omega
 ·rcases hd with hd | rfl
  ·exact Cn.mono (fun i hi => by rw [testBit_setB]; split <;> simp_all) (K.dn j hj hd)
  ·have : (setB o j true).testBit j = true := setB_bit o j true
   exact Cn.edge this
theorem KInv.perfect {done : Nat → Prop} {P : Nat → Int} {o full : Nat} (K : KInv e V E done P o) (hV : 0 < V) (hd : ∀ g, g < E → done g) (hfl : full < 2 ^ E) (hfull : ∀ x, x < V → Cn e full 0 x) : perf e V E o = true := by
 have hmap : ∀ x y, Cn e full x y → Cn e o x y := by
  intro x y hc
  induction hc with
  | refl => exact .refl _
  | fwd k hk _ ih => exact ih.trans (K.dn k (lt_of_testBit hfl hk) (hd k (lt_of_testBit hfl hk)))
  | bwd k hk _ ih => exact ih.trans (K.dn k (lt_of_testBit hfl hk) (hd k (lt_of_testBit hfl hk))).symm
 have h1 : parts e V E o = 1 := (parts_one K.lt hV).2 fun x hx => hmap _ _ (hfull x hx)
 have h2 := K.fo
 rw [perf_iff]
 omega
end
theorem nb_down_all : (List.range 5).all (fun W => (List.range 5).all fun H => (List.range 16).all fun c => decide (c = 0) || decide (¬ (c : Int) < cellsOf W H) ||
  (decide (0 ≤ nbI W H c 3 ∧ nbI W H c 3 < c) || decide (0 ≤ nbI W H c 0 ∧ nbI W H c 0 < c))) = true := by decide +kernel
theorem full_conn {w h : Int} (hg : gridOk w h = true) {full : Nat} (hf : ∀ g, g < gapsN w h → full.testBit g = true) : ∀ x, x < cellsN w h → Cn (ends w h) full 0 x := by
 intro x
 induction x using Nat.strongRecOn with
 | _ x ih =>
  intro hx
  have hc := cellsN_cast w h
  have hl := cellsN_le w h
  by_cases h0 : x = 0
  ·subst h0; exact .refl _
  obtain ⟨W, H, rfl, rfl, _, w5, _, h5⟩ := grid_nat hg
  have := List.all_eq_true.1 (List.all_eq_true.1 (List.all_eq_true.1 nb_down_all W (List.mem_range.2 w5)) H (List.mem_range.2 h5)) x (List.mem_range.2 (by omega))
  simp only [Bool.or_eq_true, decide_eq_true_eq] at this
  have hd : ∃ d : Int, 0 ≤ nbI W H x d ∧ nbI W H x d < x := by
   rcases this with (h | h) | (h | h)
   ·exact absurd h h0
   ·exact absurd (show (x : Int) < cellsOf W H by omega) h
   ·exact ⟨3, h⟩
   ·exact ⟨0, h⟩
  obtain ⟨d, d0, d1⟩ := hd
  rcases step_facts W H x d with ⟨f1, _⟩ | ⟨f1, f2, f3, f4, f5, f6, _⟩
  ·omega
  have hgc := gapsN_cast W H
  obtain ⟨g, hgg⟩ : ∃ g : Nat, gapI W H x d = g := ⟨(gapI W H x d).toNat, by omega⟩
  have hgl : g < gapsN W H := by omega
  obtain ⟨y, hy⟩ : ∃ y : Nat, nbI W H x d = y := ⟨(nbI W H x d).toNat, by omega⟩
  have he : ends W H g = (y, x) := by
   rw [hgg, hy] at f6
   unfold ends
   rw [f6]
   rw [hy] at d1
   have m1 : min (x : Int) (y : Int) = y := by omega
   have m2 : max (x : Int) (y : Int) = x := by omega
   rw [m1, m2]
   simp
  have hyx : Cn (ends W H) full y x := by
   have := Cn.edge (e := ends W H) (hf g hgl)
   rwa [he] at this
  exact (ih y (by omega) (by omega)).trans hyx
end Go.Proofs.YtamkcplflbjdkaaDoor.P
namespace Go.Proofs.YtamkcplflbjdkaaDoor.P
open Go Go.RowKit Go.Proofs.YtamkcplflbjdkaaDoorW.PrintWords
set_option linter.unusedVariables false
set_option linter.unusedSimpArgs false

theorem bits_255 (x : Int) : 0 ≤ Go.bits .and .i64 x 255 ∧ Go.bits .and .i64 x 255 ≤ 255 := by
 have h : (BitVec.ofInt 64 x &&& BitVec.ofInt 64 255).toNat ≤ 255 := by
  rw [BitVec.toNat_and]
  exact Nat.and_le_right
 show 0 ≤ IntKind.i64.wrap ((BitVec.ofInt 64 x &&& BitVec.ofInt 64 255).toNat : Int) ∧ IntKind.i64.wrap ((BitVec.ofInt 64 x &&& BitVec.ofInt 64 255).toNat : Int) ≤ 255
 rw [wrap_small (by omega)]
 omega
section
variable {l : List Int}
theorem spec_New_l0 (hl : l.length ≤ 1048576) : ∀ (e i : Nat) (h : Int), l.length - i = e → ∃ h', Ev (fun k => spec_l01New.l0 k l h i) (l, 0, h')
 | 0, i, h, he => ⟨h, Ev.step (fun _ => spec_l01New.l0.eq_2 ..) (Ev.ff (by omega) (Ev.ret rfl))⟩
 | e + 1, i, h, he => by
  by_cases h4 : (i : Int) < 4000
  ·obtain ⟨h', ih⟩ := spec_New_l0 hl e (i + 1) (Go.bits .and .i64 (wrap64 ((wrap64 ((wrap64 (h * 131)) + (wrap64 (rd l i)))) + 7)) 1073741823) (by omega)
   refine ⟨h', Ev.step (fun _ => spec_l01New.l0.eq_2 ..) (Ev.tt (by omega) (Ev.tt h4 (Ev.tt (by omega) ?_)))⟩
   rw [wsucc (by omega)]
   exact ih
  ·exact ⟨h, Ev.step (fun _ => spec_l01New.l0.eq_2 ..) (Ev.tt (by omega) (Ev.ff h4 (Ev.ret rfl)))⟩
theorem spec_New_ev (hl : l.length ≤ 1048576) : ∃ h', Ev (fun k => spec_l01New.f k l) (l, 0, h') := spec_New_l0 hl l.length 0 _ rfl
theorem spec_Byte_eq (hl : l.length ≤ 1048576) {i : Int} (hi : 0 ≤ i) (h : Int) : ∃ b i' h', spec_l01Byte.f l i h = some (b, i', h') ∧ 0 ≤ b ∧ b ≤ 255 ∧ 0 ≤ i' := by
 unfold spec_l01Byte.f
 by_cases e : i < (l.length : Int)
 ·rw [if_pos e, if_pos hi]
  exact ⟨_, _, _, rfl, (bits_255 _).1, (bits_255 _).2, by rw [wrap64_id (by omega) (by omega)]; omega⟩
 ·rw [if_neg e]
  exact ⟨_, _, _, rfl, (bits_255 _).1, (bits_255 _).2, hi⟩
theorem spec_Below_eq (hl : l.length ≤ 1048576) {i : Int} (hi : 0 ≤ i) (h : Int) {n : Int} (h1 : 1 ≤ n) (h2 : n ≤ 256) : ∃ b i' h', spec_l01Below.f l i h n = some (b, i', h') ∧ 0 ≤ b ∧ b < n ∧ 0 ≤ i' := by
 obtain ⟨b, i', h', e, b0, b1, hi'⟩ := spec_Byte_eq hl hi h
 unfold spec_l01Below.f
 rw [if_neg (by omega), if_pos h2, e, Option.bind_some, if_neg (by omega)]
 exact ⟨_, _, _, rfl, Int.tmod_nonneg _ b0, Int.tmod_lt_of_pos _ (by omega), hi'⟩
theorem spec_Pick_eq (hl : l.length ≤ 1048576) {i : Int} (hi : 0 ≤ i) (h : Int) : ∃ (j : Nat) (i' h' : Int), spec_l01PickInt.f l i h [1, 2, 3, 3, 4] = some (rd [1, 2, 3, 3, 4] (j : Int), i', h') ∧ j < 5 ∧ 0 ≤ i' := by
 obtain ⟨b, i', h', e, b0, b1, hi'⟩ := spec_Below_eq hl hi h (n := 5) (by omega) (by omega)
 unfold spec_l01PickInt.f
 show ∃ (j : Nat) (i'' h'' : Int), (spec_l01Below.f l i h 5).bind _ = _ ∧ _
 rw [e, Option.bind_some, if_pos b0]
 refine ⟨b.toNat, i', h', ?_, by omega, hi'⟩
 rw [if_pos (show b < (([1, 2, 3, 3, 4] : List Int).length : Int) from b1), Int.toNat_of_nonneg b0]
theorem pick_ok {j : Nat} (hj : j < 5) : 1 ≤ rd [1, 2, 3, 3, 4] (j : Int) ∧ rd [1, 2, 3, 3, 4] (j : Int) ≤ 4 := by
 have : j = 0 ∨ j = 1 ∨ j = 2 ∨ j = 3 ∨ j = 4 := by omega
 rcases this with rfl | rfl | rfl | rfl | rfl <;> decide
theorem spec_Grid_eq (hl : l.length ≤ 1048576) {i : Int} (hi : 0 ≤ i) (h : Int) : ∃ w hh i' h', spec_l02Grid.f l i h = some (w, hh, i', h') ∧ gridOk w hh = true ∧ 0 ≤ i' := by
 obtain ⟨j, i1, h1, e1, hj, hi1⟩ := spec_Pick_eq hl hi h
 obtain ⟨j2, i2, h2, e2, hj2, hi2⟩ := spec_Pick_eq hl hi1 h1
 unfold spec_l02Grid.f
 rw [e1, Option.bind_some, e2, Option.bind_some]
 refine ⟨_, _, _, _, rfl, gridOk_iff.2 ?_, hi2⟩
 have := pick_ok hj
 have := pick_ok hj2
 omega
end
theorem spec_Common_ev : ∀ (b a : Nat), Ev (fun k => spec_l03Common.f k a b) (decide (Nat.gcd a b > 1)) := by
 intro b
 induction b using Nat.strongRecOn with
 | _ b ih =>
  intro a
  by_cases h0 : b = 0
  ·subst h0
   refine Ev.step (g := fun k => spec_l03Common.f k a (0 : Nat)) (fun _ => spec_l03Common.l0.eq_2 ..) (Ev.ff (by omega) (Ev.ret ?_))
   rw [Nat.gcd_zero_right, decide_eq_decide]
   omega
  ·refine Ev.step (g := fun k => spec_l03Common.f k a b) (fun _ => spec_l03Common.l0.eq_2 ..) (Ev.tt (by omega) (Ev.ff (by omega) ?_))
   rw [Int.tmod_eq_emod_of_nonneg (by omega), ← Int.natCast_emod]
   refine Ev.eq (ih (a % b) (Nat.mod_lt _ (by omega)) b) ?_
   rw [decide_eq_decide, Nat.gcd_comm b (a % b), ← Nat.gcd_rec, Nat.gcd_comm b a]
def coverB (n s : Nat) : Bool := (List.range n).all fun g => (List.range n).any fun k => decide ((k * s) % n = g)
theorem cover_all : (List.range 25).all (fun n => (List.range n).all fun s => decide (¬ Nat.gcd s n = 1) || coverB n s) = true := by decide +kernel
theorem cover {n step first : Nat} (hn : n < 25) (h0 : 0 < n) (hg : Nat.gcd step n ≤ 1) {g : Nat} (hgn : g < n) : ∃ k, k < n ∧ (first + k * step) % n = g := by
 have hs : step % n < n := Nat.mod_lt _ h0
 have h1 : Nat.gcd (step % n) n = 1 := by
  have e : Nat.gcd (step % n) n = Nat.gcd step n := by rw [Nat.gcd_comm step n, ← Nat.gcd_rec]
  rw [e]
  have : 0 < Nat.gcd step n := Nat.gcd_pos_of_pos_right _ h0
  omega
 have := List.all_eq_true.1 (List.all_eq_true.1 cover_all n (List.mem_range.2 hn)) (step % n) (List.mem_range.2 hs)
 simp only [Bool.or_eq_true, decide_eq_true_eq] at this
 have hc : coverB n (step % n) = true := this.resolve_left (fun h => h h1)
 unfold coverB at hc
 have hx : (g + (n - first % n)) % n < n := Nat.mod_lt _ h0
 have := List.all_eq_true.1 hc ((g + (n - first % n)) % n) (List.mem_range.2 hx)
 obtain ⟨k, hk, hkk⟩ := List.any_eq_true.1 this
 refine ⟨k, List.mem_range.1 hk, ?_⟩
 have hk2 := of_decide_eq_true hkk
 rw [Nat.mul_mod_mod] at hk2
 have hf : first % n < n := Nat.mod_lt _ h0
 rw [Nat.add_mod, hk2, Nat.add_mod_mod, ← Nat.mod_add_mod (first % n), Nat.mod_mod]
 rw [show first % n + (g + (n - first % n)) = g + n by omega, Nat.add_mod_right, Nat.mod_eq_of_lt hgn]
def tabL (P : Nat → Int) (V : Nat) : List Int := (List.range V).map P
theorem tabL_length (P : Nat → Int) (V : Nat) : (tabL P V).length = V := by simp [tabL]
theorem tabL_rd {P : Nat → Int} {V c : Nat} (h : c < V) : rd (tabL P V) (c : Int) = P c := by
 rw [rd_get (by rw [tabL_length]; exact h)]
 simp [tabL]
theorem tabL_congr {P Q : Nat → Int} {V : Nat} (h : ∀ x, x < V → P x = Q x) : tabL P V = tabL Q V := List.map_congr_left fun x hx => h x (List.mem_range.1 hx)
theorem tabL_set (P : Nat → Int) (V i : Nat) (v : Int) : (tabL P V).set i v = tabL (fun x => if x = i then v else P x) V := by
 refine List.ext_getElem (by simp [tabL]) fun j h1 h2 => ?_
 rw [List.getElem_set]
 simp only [tabL, List.getElem_map, List.getElem_range]
 by_cases e : i = j
 ·subst e; simp
 ·rw [if_neg e, if_neg (fun h => e h.symm)]
theorem KInv.weak {e : Nat → Nat × Nat} {V E : Nat} {d d' : Nat → Prop} {P : Nat → Int} {o : Nat} (K : KInv e V E d P o) (h : ∀ g, d' g → d g) : KInv e V E d' P o := ⟨K.lt, K.lab, K.fo, fun g hg hd => K.dn g hg (h g hd)⟩
end Go.Proofs.YtamkcplflbjdkaaDoor.P
namespace Go.Proofs.YtamkcplflbjdkaaDoor.P
open Go Go.RowKit Go.Proofs.YtamkcplflbjdkaaDoorW.PrintWords
set_option linter.unusedVariables false
set_option linter.unusedSimpArgs false

section
variable {w h : Int} {xs : List Int} {i1 h1 : Int}
def gapN (n first step k : Nat) : Nat := (first + k * step) % n
theorem tree_l3 {n first step kk : Nat} {P : Nat → Int} {a : Nat} {old : Int} {o : Int} {r : Int × Int × Int × Int × Int} (ha : a < cellsN w h) (hne : ¬ P a = old)
  (hk : Ev (fun k => spec_l03Tree.l2 k n (tabL (fun x => if P x = old then P a else P x) (cellsN w h)) first step (wrap64 ((kk : Int) + 1)) xs i1 h1 w h w h o) r) : ∀ e i : Nat, i + e = cellsN w h →
  Ev (fun k => spec_l03Tree.l3 k n (tabL (fun x => if x < i ∧ P x = old then P a else P x) (cellsN w h)) first step kk a old i xs i1 h1 w h w h o) r
 | 0, i, he => by
  refine Ev.step (fun _ => spec_l03Tree.l3.eq_2 ..) (Ev.ff (by rw [tabL_length]; omega) ?_)
  rw [tabL_congr (Q := fun x => if P x = old then P a else P x) (fun x hx => by
   by_cases e : P x = old
   ·rw [if_pos ⟨by omega, e⟩, if_pos e]
   ·rw [if_neg (fun h => e h.2), if_neg e])]
  exact hk
 | e + 1, i, he => by
  have hl := cellsN_le w h
  have ih := tree_l3 (n := n) (first := first) (step := step) (kk := kk) (P := P) (old := old) (o := o) ha hne hk e (i + 1) (by omega)
  refine Ev.step (fun _ => spec_l03Tree.l3.eq_2 ..) (Ev.tt (by rw [tabL_length]; omega) (Ev.tt (by omega) ?_))
  rw [tabL_rd (show i < cellsN w h by omega), wsucc (show i < 4611686018427387904 by omega)]
  simp only [Nat.lt_irrefl, false_and, if_false]
  refine Ev.ite (fun e1 => ?_) (fun e1 => ?_)
  ·refine Ev.tt (by omega) (Ev.tt (by rw [tabL_length]; omega) ?_)
   rw [tabL_rd ha, if_neg (fun h => hne h.2), Int.toNat_natCast, tabL_set]
   rw [tabL_congr (Q := fun x => if x < i + 1 ∧ P x = old then P a else P x) (fun x hx => by
    by_cases e2 : x = i
    ·subst e2; rw [if_pos rfl, if_pos ⟨by omega, e1⟩]
    ·rw [if_neg e2]
     by_cases e3 : x < i ∧ P x = old
     ·rw [if_pos e3, if_pos ⟨by omega, e3.2⟩]
     ·rw [if_neg e3, if_neg (fun h => e3 ⟨by omega, h.2⟩)])]
   exact ih
  ·rw [tabL_congr (Q := fun x => if x < i + 1 ∧ P x = old then P a else P x) (fun x hx => by
    by_cases e3 : x < i ∧ P x = old
    ·rw [if_pos e3, if_pos ⟨by omega, e3.2⟩]
    ·rw [if_neg e3]
     by_cases e4 : x < i + 1 ∧ P x = old
     ·have : x = i := by
       by_cases e5 : x < i
       ·exact absurd ⟨e5, e4.2⟩ e3
       ·omega
      subst this
      exact absurd e4.2 e1
     ·rw [if_neg e4])]
   exact ih
theorem tree_l2 (hg : gridOk w h = true) {first step : Nat} (hf : first < 25) (hs : step < 100) : ∀ (e kk : Nat) (P : Nat → Int) (o : Nat), kk + e = gapsN w h →
  KInv (ends w h) (cellsN w h) (gapsN w h) (fun g => ∃ j, j < kk ∧ gapN (gapsN w h) first step j = g) P o →
  ∃ (P' : Nat → Int) (o' : Nat), KInv (ends w h) (cellsN w h) (gapsN w h) (fun g => ∃ j, j < gapsN w h ∧ gapN (gapsN w h) first step j = g) P' o' ∧
   Ev (fun k => spec_l03Tree.l2 k (gapsN w h : Nat) (tabL P (cellsN w h)) first step kk xs i1 h1 w h w h o) (w, h, (o' : Int), i1, h1)
 | 0, kk, P, o, he, K => by
  refine ⟨P, o, K.weak (fun g ⟨j, hj, e⟩ => ⟨j, by omega, e⟩), Ev.step (fun _ => spec_l03Tree.l2.eq_2 ..) (Ev.ff (by omega) (Ev.ret rfl))⟩
 | e + 1, kk, P, o, he, K => by
  have hgl := gapsN_le w h
  have hgc := gapsN_cast w h
  have hcl := cellsN_le w h
  have hgN : gapN (gapsN w h) first step kk < gapsN w h := Nat.mod_lt _ (by omega)
  have hkm : kk * step ≤ 24 * 100 := Nat.mul_le_mul (by omega) (by omega)
  have hgap : Int.tmod (wrap64 ((first : Int) + (wrap64 ((kk : Int) * (step : Int))))) (gapsN w h : Nat) = ((gapN (gapsN w h) first step kk : Nat) : Int) := by
   rw [show ((kk : Int) * (step : Int)) = ((kk * step : Nat) : Int) by rw [Int.natCast_mul], wrap64_id (x := ((kk * step : Nat) : Int)) (by omega) (by omega), wrap64_id (by omega) (by omega), Int.tmod_eq_emod_of_nonneg (by omega)]
   unfold gapN
   rw [Int.natCast_emod, Int.natCast_add]
  obtain ⟨f1, f2, f3⟩ := ends_facts hgN
  have hstep : ∀ {P' : Nat → Int} {o' : Nat}, KInv (ends w h) (cellsN w h) (gapsN w h) (fun j => (∃ j', j' < kk ∧ gapN (gapsN w h) first step j' = j) ∨ j = gapN (gapsN w h) first step kk) P' o' →
    KInv (ends w h) (cellsN w h) (gapsN w h) (fun g => ∃ j, j < kk + 1 ∧ gapN (gapsN w h) first step j = g) P' o' := fun K' => K'.weak (fun g ⟨j, hj, e2⟩ => by
     by_cases e3 : j < kk
     ·exact Or.inl ⟨j, e3, e2⟩
     ·have : j = kk := by omega
      subst this
      exact Or.inr e2.symm)
  by_cases he1 : P (ends w h (gapN (gapsN w h) first step kk)).1 = P (ends w h (gapN (gapsN w h) first step kk)).2
  ·obtain ⟨P', o', K', ih⟩ := tree_l2 hg hf hs e (kk + 1) P o (by omega) (hstep (K.skip (gr_grid w h) hgN he1))
   refine ⟨P', o', K', Ev.step (fun _ => spec_l03Tree.l2.eq_2 ..) (Ev.tt (by omega) (Ev.ff (by omega) ?_))⟩
   rw [hgap, wsucc (show kk < 4611686018427387904 by omega)]
   refine Ev.bnd0 ((spec_EndsOf_eq w h _).trans (congrArg some f1)) ?_
   refine Ev.tt (by omega) (Ev.tt (by rw [tabL_length]; omega) (Ev.tt (by omega) (Ev.tt (by rw [tabL_length]; omega) ?_)))
   rw [tabL_rd (by omega), tabL_rd f3]
   exact Ev.tt he1 ih
  ·obtain ⟨P', o', K', ih⟩ := tree_l2 hg hf hs e (kk + 1) _ (setB o (gapN (gapsN w h) first step kk) true) (by omega) (hstep (K.join (gr_grid w h) hgN he1))
   refine ⟨P', o', K', Ev.step (fun _ => spec_l03Tree.l2.eq_2 ..) (Ev.tt (by omega) (Ev.ff (by omega) ?_))⟩
   rw [hgap]
   refine Ev.bnd0 ((spec_EndsOf_eq w h _).trans (congrArg some f1)) ?_
   refine Ev.tt (by omega) (Ev.tt (by rw [tabL_length]; omega) (Ev.tt (by omega) (Ev.tt (by rw [tabL_length]; omega) ?_)))
   rw [tabL_rd (show (ends w h (gapN (gapsN w h) first step kk)).1 < cellsN w h by omega), tabL_rd f3]
   refine Ev.ff he1 (Ev.tt (by omega) ?_)
   have ho := open_small K.lt
   have hpw : 2 ^ gapN (gapsN w h) first step kk ≤ 2 ^ 24 := Nat.pow_le_pow_right (by decide) (by omega)
   rw [shl_pow (by omega), bits_or (by omega) (by omega), show o ||| 2 ^ gapN (gapsN w h) first step kk = setB o (gapN (gapsN w h) first step kk) true from rfl]
   have := tree_l3 (w := w) (h := h) (xs := xs) (i1 := i1) (h1 := h1) (n := gapsN w h) (first := first) (step := step) (kk := kk) (P := P) (a := (ends w h (gapN (gapsN w h) first step kk)).1) (old := P (ends w h (gapN (gapsN w h) first step kk)).2)
    (o := ((setB o (gapN (gapsN w h) first step kk) true : Nat) : Int)) (r := (w, h, (o' : Int), i1, h1)) (by omega) he1 (by rw [wsucc (show kk < 4611686018427387904 by omega)]; exact ih) (cellsN w h) 0 (by omega)
   rw [tabL_congr (Q := P) (fun x hx => if_neg (fun h => absurd h.1 (by omega)))] at this
   exact this
theorem tree_l1 (hg : gridOk w h = true) (h0 : 0 < gapsN w h) {first : Nat} (hf : first < 25) {P : Nat → Int} {o : Nat} (K : KInv (ends w h) (cellsN w h) (gapsN w h) (fun _ => False) P o) : ∀ d step : Nat, step + d = 2 * gapsN w h + 1 →
  ∃ o' : Nat, o' < 2 ^ gapsN w h ∧ perfN w h o' = true ∧ Ev (fun k => spec_l03Tree.l1 k (gapsN w h : Nat) (tabL P (cellsN w h)) first step xs i1 h1 w h w h o) (w, h, (o' : Int), i1, h1) := by
 have hgl := gapsN_le w h
 have fin : ∀ step : Nat, step < 100 → Nat.gcd step (gapsN w h) ≤ 1 → ∃ o' : Nat, o' < 2 ^ gapsN w h ∧ perfN w h o' = true ∧ Ev (fun k => spec_l03Tree.l1 k (gapsN w h : Nat) (tabL P (cellsN w h)) first step xs i1 h1 w h w h o) (w, h, (o' : Int), i1, h1) := by
  intro step hs hgcd
  obtain ⟨P', o', K', hEv⟩ := tree_l2 (xs := xs) (i1 := i1) (h1 := h1) hg hf hs (gapsN w h) 0 P o (by omega) (K.weak (fun g ⟨j, hj, _⟩ => absurd hj (by omega)))
  refine ⟨o', K'.lt, ?_, Ev.step (fun _ => spec_l03Tree.l1.eq_2 ..) (Ev.bind (spec_Common_ev (gapsN w h) step) (Ev.ff (by rw [decide_eq_true_eq]; omega) hEv))⟩
  exact K'.perfect (cells_pos hg) (fun g hgg => cover (by omega) h0 hgcd hgg) (full := 2 ^ gapsN w h - 1) (by have := Nat.two_pow_pos (gapsN w h); omega) (full_conn hg (fun g hgg => by rw [Nat.testBit_two_pow_sub_one]; simp [hgg]))
 intro d
 induction d with
 | zero =>
  intro step hst
  refine fin step (by omega) ?_
  have : Nat.gcd step (gapsN w h) = 1 := by
   rw [show step = 1 + gapsN w h * 2 by omega, Nat.gcd_add_mul_left_left, Nat.gcd_one_left]
  omega
 | succ d ih =>
  intro step hst
  by_cases hc : Nat.gcd step (gapsN w h) > 1
  ·obtain ⟨o', ho, hp, hEv⟩ := ih (step + 1) (by omega)
   refine ⟨o', ho, hp, Ev.step (fun _ => spec_l03Tree.l1.eq_2 ..) (Ev.bind (spec_Common_ev (gapsN w h) step) (Ev.tt (by rw [decide_eq_true_eq]; exact hc) ?_))⟩
   rw [wsucc (by omega)]
   exact hEv
  ·exact fin step (by omega) (by omega)
theorem tree_l0 (hg : gridOk w h = true) (hl : xs.length ≤ 1048576) (hi : 0 ≤ i1) : ∀ e i : Nat, i + e = cellsN w h →
  ∃ (o' : Nat) (i2 h2 : Int), 0 ≤ i2 ∧ o' < 2 ^ gapsN w h ∧ perfN w h o' = true ∧ Ev (fun k => spec_l03Tree.l0 k (gapsN w h : Nat) (tabL (fun x => if x < i then (x : Int) else 0) (cellsN w h)) i xs i1 h1 w h w h (0 : Nat)) (w, h, (o' : Int), i2, h2)
 | 0, i, he => by
  have hgl := gapsN_le w h
  have hgc := gapsN_cast w h
  have hK : KInv (ends w h) (cellsN w h) (gapsN w h) (fun _ => False) (fun x => (x : Int)) 0 := KInv.start (fun x => rfl)
  have ht : tabL (fun x => if x < i then (x : Int) else 0) (cellsN w h) = tabL (fun x => (x : Int)) (cellsN w h) := tabL_congr (fun x hx => if_pos (by omega))
  rw [ht]
  by_cases h0 : gapsN w h = 0
  ·refine ⟨0, i1, h1, hi, Nat.two_pow_pos _, ?_, Ev.step (fun _ => spec_l03Tree.l0.eq_2 ..) (Ev.ff (by rw [tabL_length]; omega) (Ev.tt (by omega) (Ev.ret rfl)))⟩
   exact hK.perfect (cells_pos hg) (fun g hgg => absurd hgg (by omega)) (full := 0) (Nat.two_pow_pos _) (full_conn hg (fun g hgg => absurd hgg (by omega)))
  ·obtain ⟨b, i2, h2, e1, b0, b1, hi2⟩ := spec_Below_eq hl hi h1 (n := (gapsN w h : Nat)) (by omega) (by omega)
   obtain ⟨c, i3, h3, e2, c0, c1, hi3⟩ := spec_Below_eq hl hi2 h2 (n := (gapsN w h : Nat)) (by omega) (by omega)
   obtain ⟨b', rfl⟩ := Int.eq_ofNat_of_zero_le b0
   obtain ⟨c', rfl⟩ := Int.eq_ofNat_of_zero_le c0
   obtain ⟨o', ho, hp, hEv⟩ := tree_l1 (xs := xs) (i1 := i3) (h1 := h3) hg (by omega) (first := b') (by omega) hK (2 * gapsN w h - c') (1 + c') (by omega)
   refine ⟨o', i3, h3, hi3, ho, hp, Ev.step (fun _ => spec_l03Tree.l0.eq_2 ..) (Ev.ff (by rw [tabL_length]; omega) (Ev.ff (by omega) (Ev.bnd0 e1 (Ev.bnd0 e2 ?_))))⟩
   rw [show wrap64 (1 + (c' : Int)) = ((1 + c' : Nat) : Int) by rw [wrap64_id (by omega) (by omega)]; omega]
   exact hEv
 | e + 1, i, he => by
  have hcl := cellsN_le w h
  obtain ⟨o', i2, h2, hq, ho, hp, ih⟩ := tree_l0 hg hl hi e (i + 1) (by omega)
  refine ⟨o', i2, h2, hq, ho, hp, Ev.step (fun _ => spec_l03Tree.l0.eq_2 ..) (Ev.tt (by rw [tabL_length]; omega) (Ev.tt (by omega) ?_))⟩
  rw [wsucc (show i < 4611686018427387904 by omega), Int.toNat_natCast, tabL_set]
  rw [tabL_congr (Q := fun x => if x < i + 1 then (x : Int) else 0) (fun x hx => by
   by_cases e2 : x = i
   ·subst e2; rw [if_pos rfl, if_pos (by omega)]
   ·rw [if_neg e2]
    by_cases e3 : x < i
    ·rw [if_pos e3, if_pos (by omega)]
    ·rw [if_neg e3, if_neg (by omega)])]
  exact ih
theorem spec_Tree_ev2 (hg : gridOk w h = true) (hl : xs.length ≤ 1048576) (hi : 0 ≤ i1) : ∃ (o' : Nat) (i2 h2 : Int), 0 ≤ i2 ∧ o' < 2 ^ gapsN w h ∧ perfN w h o' = true ∧ Ev (fun k => spec_l03Tree.f k xs i1 h1 w h) (w, h, (o' : Int), i2, h2) := by
 have hgc := gapsN_cast w h
 have hcc := cellsN_cast w h
 have hcl := cellsN_le w h
 obtain ⟨o', i2, h2, hq, ho, hp, hEv⟩ := tree_l0 (h1 := h1) hg hl hi (cellsN w h) 0 (by omega)
 refine ⟨o', i2, h2, hq, ho, hp, ?_⟩
 unfold spec_l03Tree.f
 refine Ev.bnd0 (spec_CountGaps_eq ..) (Ev.bnd0 (spec_CountCells_eq ..) (Ev.tt (by omega) (Ev.tt (by omega) ?_)))
 rw [← hgc, show (cellsOf w h).toNat = cellsN w h from rfl]
 rw [show List.replicate (cellsN w h) (0 : Int) = tabL (fun x => if x < 0 then (x : Int) else 0) (cellsN w h) by
  refine List.ext_getElem (by simp [tabL]) fun j hj1 hj2 => ?_
  simp [tabL]]
 exact hEv
end
end Go.Proofs.YtamkcplflbjdkaaDoor.P
namespace Go.Proofs.YtamkcplflbjdkaaDoor.P
open Go.RowKit Go.Proofs.YtamkcplflbjdkaaDoorW.PrintWords Go.Proofs.YtamkcplflbjdkaaDoor.Sup
set_option linter.unusedVariables false
set_option linter.unusedSimpArgs false

theorem ctz_bit {x : Nat} (h0 : x ≠ 0) (h : x < 2 ^ 64) : x.testBit (Go.Lib.ctz 64 x) = true := by
 obtain ⟨e, _⟩ := Go.Lib.lowest_bit 64 x h0 h
 have : (x &&& (2 ^ 64 - x)).testBit (Go.Lib.ctz 64 x) = true := by rw [e, Nat.testBit_two_pow]; simp
 rw [Nat.testBit_and, Bool.and_eq_true] at this
 exact this.1
theorem containsW_ev (l : List Int) (x : Int) (hl : l.length ≤ 1048576) : Ev (fun k => slices_Contains_int_int.f k l x) (decide (x ∈ l)) := by
 unfold slices_Contains_int_int.f
 refine Ev.bind (index_ev l x (by omega)) (Ev.ret ?_)
 by_cases h : x ∈ l
 ·rw [decide_eq_true h, decide_eq_true_eq]
  split <;> omega
 ·rw [decide_eq_false h]
  simp [h]
theorem loopW_mem {w h : Int} {n g j : Nat} : j ∈ loopN w h n g ↔ j < gapsN w h ∧ n.testBit j = true ∧ distN w h (setB n j false) (ends w h g).1 (ends w h g).2 < 0 := by
 unfold loopN
 rw [List.mem_filter, List.mem_range, Bool.and_eq_true, decide_eq_true_eq]
theorem passW_ev {w h : Int} {n : Nat} (hg : gridOk w h = true) (hn : n < 2 ^ gapsN w h) {g : Nat} (hgg : g < gapsN w h) : impl_IsPassage.f w h n g = some (n.testBit g) := by
 have hgc := gapsN_cast w h
 unfold impl_IsPassage.f
 rw [impl_MazeOk_eq, Option.bind_some, mazeOk_nat hg hn, if_pos rfl, impl_isGap_eq, Option.bind_some]
 rw [if_pos (show isGapI w h (g : Int) = true by unfold isGapI; rw [decide_eq_true_eq]; omega), impl_isOpen_eq w h (open_small hn), openI_nat']
 rfl
section
variable {w h : Int} (hg : gridOk w h = true)
include hg
theorem perfI_nat {n : Nat} (hn : n < 2 ^ gapsN w h) (hp : perfN w h n = true) : perfI w h n = true := perfI_iff.2 ⟨hg, n, rfl, hn, hp⟩
theorem loopW {n g : Nat} (hn : n < 2 ^ gapsN w h) (hp : perfN w h n = true) (hgg : g < gapsN w h) (hc : n.testBit g = false) : loopI w h n g = ints (loopN w h n g) := by
 have hgc := gapsN_cast w h
 unfold loopI
 rw [Int.toNat_natCast, Int.toNat_natCast, if_pos]
 refine ⟨perfI_nat hg hn hp, ?_, by rw [openI_nat']; exact hc⟩
 unfold isGapI
 rw [decide_eq_true_eq]
 omega
omit hg in
theorem loopW_open {n g : Nat} (hc : n.testBit g = true) : loopI w h n g = [] := by
 unfold loopI
 rw [Int.toNat_natCast, if_neg]
 rintro ⟨_, _, e⟩
 rw [openI_nat', hc] at e
 cases e
theorem swapW_ev {n g j : Nat} (hn : n < 2 ^ gapsN w h) (hp : perfN w h n = true) (hgg : g < gapsN w h) (hc : n.testBit g = false) (hj : j ∈ loopN w h n g) :
  Ev (fun k => impl_SwapGaps.f k w h n g j) (w, h, ((setB (setB n g true) j false : Nat) : Int), true) := by
 have h24 := gapsN_le w h
 have hl := loopN_len w h n g
 unfold impl_SwapGaps.f
 have e := loopW hg hn hp hgg hc
 have hev := impl_LoopGaps_ev w h (n : Int) (g : Int)
 rw [e] at hev
 have hj1 := (loopW_mem.1 hj).1
 refine Ev.bind hev (Ev.bind (containsW_ev _ _ (by rw [ints_length]; omega)) (Ev.tt (decide_eq_true (List.mem_map.2 ⟨j, hj, rfl⟩)) ?_))
 exact Ev.bnd0 (impl_with_eq w h (open_small hn) (show g < 24 by omega) true) (Ev.bnd0 (impl_with_eq w h (open_small (setB_lt true hn hgg)) (show j < 24 by omega) false) (Ev.ret rfl))
theorem swapW_perf {n g j : Nat} (hn : n < 2 ^ gapsN w h) (hp : perfN w h n = true) (hgg : g < gapsN w h) (hc : n.testBit g = false) (hj : j ∈ loopN w h n g) :
  perfN w h (setB (setB n g true) j false) = true ∧ setB (setB n g true) j false < 2 ^ gapsN w h := by
 obtain ⟨j1, j2, j3⟩ := loopW_mem.1 hj
 obtain ⟨_, e2, e3⟩ := ends_facts hgg
 refine swap_perf hg hn hp hgg hc j2 fun hcn => ?_
 have := (distN_cn (setB_lt false hn j1) (show (ends w h g).1 < cellsN w h by omega) (ends w h g).2).2 hcn
 omega
theorem apartW_ev {n m : Nat} (hn : n < 2 ^ gapsN w h) (hp : perfN w h n = true) (hm : m < 2 ^ gapsN w h) (hq : perfN w h m = true) : Ev (fun k => impl_GapsApart.f k w h n w h m) ((apart w h n m : Nat) : Int) := by
 have hns := open_small hn
 have hms := open_small hm
 have hle := andNot_le n m
 unfold impl_GapsApart.f
 refine Ev.bind (impl_IsPerfect_all ..) (Ev.tt (perfI_nat hg hn hp) (Ev.bind (impl_IsPerfect_all ..) (Ev.tt (perfI_nat hg hm hq) (Ev.ff (by simp) ?_))))
 rw [bits_andNot (by omega) (by omega), u64_small (by omega)]
 exact Ev.bnd0 (ones_eq' (gapsN_le w h) (by omega)) (Ev.ret rfl)
theorem towards_l0 {a b g : Nat} (ha : a < 2 ^ gapsN w h) (pa : perfN w h a = true) (hb : b < 2 ^ gapsN w h) (hgg : g < gapsN w h) (hc : a.testBit g = false) : ∀ (d i : Nat), i + d = (loopN w h a g).length → (∃ k ∈ (loopN w h a g).drop i, b.testBit k = false) →
  ∃ k ∈ loopN w h a g, b.testBit k = false ∧ Ev (fun r => impl_SwapTowards.l0 r g (ints (loopN w h a g)) ((ints (loopN w h a g)).length : Int) i w h a w h b) (w, h, ((setB (setB a g true) k false : Nat) : Int), true)
 | 0, i, hi, ⟨k, hk, _⟩ => by rw [List.drop_eq_nil_of_le (by omega)] at hk; cases hk
 | d + 1, i, hi, hex => by
  have hl := loopN_len w h a g
  have hil : i < (loopN w h a g).length := by omega
  have hri : rd (ints (loopN w h a g)) (i : Int) = ((loopN w h a g)[i] : Nat) := rd_ints (List.getElem?_eq_getElem hil)
  have hmem := List.getElem_mem hil
  cases hb1 : b.testBit (loopN w h a g)[i] with
  | false =>
   refine ⟨(loopN w h a g)[i], hmem, hb1, Ev.step (fun _ => impl_SwapTowards.l0.eq_2 ..) (Ev.tt (by rw [ints_length]; omega) (Ev.tt (by omega) (Ev.tt (by rw [ints_length]; omega) ?_)))⟩
   rw [hri]
   refine Ev.bnd0 (impl_isOpen_eq w h (open_small hb) _) ?_
   rw [openI_nat', hb1]
   exact Ev.ff (by decide) (Ev.bind (swapW_ev hg ha pa hgg hc hmem) (Ev.ret rfl))
  | true =>
   obtain ⟨k, hk, hkb⟩ := hex
   rw [List.drop_eq_getElem_cons hil] at hk
   have hk2 : k ∈ (loopN w h a g).drop (i + 1) := (List.mem_cons.1 hk).resolve_left fun e => by rw [e, hb1] at hkb; cases hkb
   obtain ⟨k', hk', hkb', hev⟩ := towards_l0 ha pa hb hgg hc d (i + 1) (by omega) ⟨k, hk2, hkb⟩
   refine ⟨k', hk', hkb', Ev.step (fun _ => impl_SwapTowards.l0.eq_2 ..) (Ev.tt (by rw [ints_length]; omega) (Ev.tt (by omega) (Ev.tt (by rw [ints_length]; omega) ?_)))⟩
   rw [hri]
   refine Ev.bnd0 (impl_isOpen_eq w h (open_small hb) _) ?_
   rw [openI_nat', hb1, wsucc (by omega)]
   exact Ev.tt rfl hev
theorem towards_ev {a b : Nat} (ha : a < 2 ^ gapsN w h) (pa : perfN w h a = true) (hb : b < 2 ^ gapsN w h) (pb : perfN w h b = true) (hne : apart w h a b ≠ 0) :
  ∃ a' : Nat, a' < 2 ^ gapsN w h ∧ perfN w h a' = true ∧ apart w h a' b + 1 = apart w h a b ∧ Ev (fun k => impl_SwapTowards.f k w h a w h b) (w, h, (a' : Int), true) := by
 have h24 := gapsN_le w h
 have hx0 : andNot b a ≠ 0 := by
  intro e
  rw [apart_symm pa pb] at hne
  unfold apart at hne
  rw [e, pop_none] at hne
  exact hne rfl
 have has := open_small ha
 have hbs := open_small hb
 have hle := andNot_le b a
 have hbit := ctz_bit hx0 (by omega)
 rw [testBit_andNot, Bool.and_eq_true, Bool.not_eq_true'] at hbit
 obtain ⟨gb, ga⟩ := hbit
 have hgl := lt_of_testBit hb gb
 have hloop := loop_impl hg ha hgl pa
 obtain ⟨_, e2, e3⟩ := ends_facts hgl
 have hd0 := (distN_cn ha e3 (ends w h (Go.Lib.ctz 64 (andNot b a))).1).2 (perf_conn hg ha pa e3 (by omega))
 obtain ⟨k, hk, hkb⟩ := loop_out hg ha pa hb pb hgl ga gb (m := (distN w h a (ends w h (Go.Lib.ctz 64 (andNot b a))).2 (ends w h (Go.Lib.ctz 64 (andNot b a))).1).toNat) (by omega)
 have hkl : k ∈ loopN w h a (Go.Lib.ctz 64 (andNot b a)) := by
  have := (ordF_mem (l := ints (wayG w h a (ends w h (Go.Lib.ctz 64 (andNot b a))).2 (distN w h a (ends w h (Go.Lib.ctz 64 (andNot b a))).2 (ends w h (Go.Lib.ctz 64 (andNot b a))).1).toNat (ends w h (Go.Lib.ctz 64 (andNot b a))).1)) (z := (k : Int))).2 (List.mem_map.2 ⟨k, hk, rfl⟩)
  rw [hloop.2.1] at this
  obtain ⟨k', hk', e⟩ := List.mem_map.1 this
  obtain rfl : k' = k := by omega
  exact hk'
 obtain ⟨k', hk', hkb', hev⟩ := towards_l0 hg ha pa hb hgl ga (loopN w h a (Go.Lib.ctz 64 (andNot b a))).length 0 (by omega) ⟨k, by rw [List.drop_zero]; exact hkl, hkb⟩
 obtain ⟨j1, j2, _⟩ := loopW_mem.1 hk'
 obtain ⟨q1, q2⟩ := swapW_perf hg ha pa hgl ga hk'
 refine ⟨_, q2, q1, apart_swap hgl j1 ga gb j2 hkb', ?_⟩
 unfold impl_SwapTowards.f
 refine Ev.bind (apartW_ev hg ha pa hb pb) (Ev.ff (by omega) ?_)
 rw [bits_andNot (by omega) (by omega), u64_small (by omega)]
 have htz : bits_TrailingZeros.f ((andNot b a : Nat) : Int) = some ((Go.Lib.ctz 64 (andNot b a) : Nat) : Int) := by
  unfold bits_TrailingZeros.f
  rw [if_pos (by omega), Int.toNat_natCast]
 have hlg := impl_LoopGaps_ev w h (a : Int) ((Go.Lib.ctz 64 (andNot b a) : Nat) : Int)
 rw [loopW hg ha pa hgl ga] at hlg
 exact Ev.bnd0 htz (Ev.bind hlg hev)
theorem towards_none {a b : Nat} (ha : a < 2 ^ gapsN w h) (pa : perfN w h a = true) (hb : b < 2 ^ gapsN w h) (pb : perfN w h b = true) (h0 : apart w h a b = 0) : Ev (fun k => impl_SwapTowards.f k w h a w h b) (w, h, (a : Int), false) := by
 unfold impl_SwapTowards.f
 exact Ev.bind (apartW_ev hg ha pa hb pb) (Ev.tt (by omega) (Ev.ret rfl))
theorem between_l0 {b : Nat} (hb : b < 2 ^ gapsN w h) (pb : perfN w h b = true) : ∀ (m a s : Nat), a < 2 ^ gapsN w h → perfN w h a = true → apart w h a b = m → s + m ≤ 1000 → Ev (fun k => impl_SwapsBetween.l0 k s w h a w h b) ((s + m : Nat) : Int)
 | 0, a, s, ha, pa, hm, hs => by
  have hev := apartW_ev hg ha pa hb pb
  exact Ev.step (fun _ => impl_SwapsBetween.l0.eq_2 ..) (Ev.bind hev (Ev.ff (by omega) (Ev.bind hev (Ev.ff (by omega) (Ev.ret rfl)))))
 | m + 1, a, s, ha, pa, hm, hs => by
  obtain ⟨a', q1, q2, q3, q4⟩ := towards_ev hg ha pa hb pb (by omega)
  refine Ev.step (fun _ => impl_SwapsBetween.l0.eq_2 ..) (Ev.bind (apartW_ev hg ha pa hb pb) (Ev.tt (by omega) (Ev.bind q4 (Ev.tt rfl ?_))))
  rw [wsucc (by omega)]
  refine Ev.eq (between_l0 hb pb m a' (s + 1) q1 q2 (by omega) (by omega)) ?_
  omega
omit hg in
theorem apart_le (a b : Nat) : apart w h a b ≤ 24 := Nat.le_trans (pop_le _ _) (gapsN_le w h)
theorem loop_dist {n g : Nat} (hn : n < 2 ^ gapsN w h) (hp : perfN w h n = true) (hgg : g < gapsN w h) : (((loopN w h n g).length : Nat) : Int) = distN w h n (ends w h g).1 (ends w h g).2 := by
 obtain ⟨_, e2, e3⟩ := ends_facts hgg
 have e1 : (ends w h g).1 < cellsN w h := by omega
 have hc := perf_conn hg hn hp e1 e3
 have d1 := (distN_cn hn e3 (ends w h g).1).2 hc.symm
 have d2 := (distN_cn hn e1 (ends w h g).2).2 hc
 obtain ⟨_, l1, l2⟩ := loop_impl hg hn hgg hp
 obtain ⟨b1, b2⟩ := wayG_bridge hn e3 (perf_forest hp) (distN w h n (ends w h g).2 (ends w h g).1).toNat (ends w h g).1 e1 (by omega)
 obtain ⟨c1, c2⟩ := wayG_bridge hn e1 (perf_forest hp) (distN w h n (ends w h g).1 (ends w h g).2).toNat (ends w h g).2 e3 (by omega)
 have hperm := ((List.perm_ext_iff_of_nodup b2 c2).2 fun k => by
  rw [b1, c1]
  exact ⟨fun ⟨x, y⟩ => ⟨x, fun z => y z.symm⟩, fun ⟨x, y⟩ => ⟨x, fun z => y z.symm⟩⟩).length_eq
 rw [wayG_len, wayG_len] at hperm
 have hnd : (ints (wayG w h n (ends w h g).2 (distN w h n (ends w h g).2 (ends w h g).1).toNat (ends w h g).1)).Nodup := by
  unfold ints
  rw [List.Nodup, List.pairwise_map]
  refine List.Pairwise.imp ?_ b2
  intro x y q e'
  have e2' : (x : Int) = (y : Int) := e'
  exact q (by omega)
 have := (ordF_nodup _).2 hnd
 rw [l1, ints_length, ints_length, wayG_len] at this
 omega
end
def swI (w h o : Int) : Nat → Nat → Nat → Nat
 | 0, _, s => s
 | d + 1, i, s => swI w h o d (i + 1) (s + (loopI w h o i).length)
theorem swI_l0 (w h o : Int) : ∀ d i s : Nat, i + d = gapsN w h → s ≤ 24 * i → Ev (fun k => impl_CountSwaps.l0 k s i w h o) ((swI w h o d i s : Nat) : Int)
 | 0, i, s, hd, hs => by
  have hc := gapsN_cast w h
  exact Ev.step (fun _ => impl_CountSwaps.l0.eq_2 ..) (Ev.bnd0 (impl_CountGaps_eq w h) (Ev.ff (by omega) (Ev.ret rfl)))
 | d + 1, i, s, hd, hs => by
  have hc := gapsN_cast w h
  have h24 := gapsN_le w h
  have hl := loopI_len w h o i
  refine Ev.step (fun _ => impl_CountSwaps.l0.eq_2 ..) (Ev.bnd0 (impl_CountGaps_eq w h) (Ev.tt (by omega) (Ev.bind (impl_LoopGaps_ev w h o i) ?_)))
  rw [wsucc (by omega), wrap64_id (by omega) (by omega), show ((s : Int) + ((loopI w h o i).length : Int)) = ((s + (loopI w h o i).length : Nat) : Int) by omega]
  exact swI_l0 w h o d (i + 1) _ (by omega) (by omega)
theorem spec_DrawTwoTrees_ev {l : List Int} (hl : l.length ≤ 1048576) : ∃ (w h : Int) (n m : Nat), gridOk w h = true ∧ n < 2 ^ gapsN w h ∧ perfN w h n = true ∧ m < 2 ^ gapsN w h ∧ perfN w h m = true ∧ Ev (fun k => spec_DrawTwoTrees.f k l) (w, h, (n : Int), w, h, (m : Int)) := by
 obtain ⟨h0, hn⟩ := spec_New_ev hl
 obtain ⟨w, h, i1, h1, hgr, hg, hi1⟩ := spec_Grid_eq hl (i := 0) (by omega) h0
 obtain ⟨n, i2, h2, hi2, n1, n2, n3⟩ := spec_Tree_ev2 (h1 := h1) hg hl hi1
 obtain ⟨m, i3, h3, hi3, m1, m2, m3⟩ := spec_Tree_ev2 (h1 := h2) hg hl hi2
 refine ⟨w, h, n, m, hg, n1, n2, m1, m2, ?_⟩
 unfold spec_DrawTwoTrees.f
 exact Ev.bind hn (Ev.bnd0 hgr (Ev.bind n3 (Ev.bind m3 (Ev.ret rfl))))
theorem swaps_l1 {w h : Int} {n : Nat} {xs : List Int} {x5 : Int} {x7 : Bool} {x8 : Int} {b x116 : Int} {w' h' : Int} (hg : gridOk w h = true) (hn : n < 2 ^ gapsN w h) (hp : perfN w h n = true) (hl : xs.length ≤ 1048576) (hz : ∀ x ∈ xs, 0 ≤ x ∧ x ≤ 255) {g : Nat} (hgg : g < gapsN w h) (hc : n.testBit g = false) {R : Bool}
  (next : Ev (fun k => laws_FnSwaps.l0 k xs x5 x7 x8 ((g + 1 : Nat) : Int) w h n w h b w' h' x116) R) : ∀ (d i : Nat), i + d = (loopN w h n g).length →
  Ev (fun k => laws_FnSwaps.l1 k xs x5 x7 x8 g (ints (loopN w h n g)) i w h n w h b w' h' x116) R := by
 have h24 := gapsN_le w h
 have hgc := gapsN_cast w h
 have hll := loopN_len w h n g
 have out : ∀ i : Nat, Ev (fun k => laws_FnSwaps.j3 k xs x5 x7 x8 g (ints (loopN w h n g)) i false w h n w h b w' h' x116) R := fun i => by
  refine Ev.step (fun _ => laws_FnSwaps.j3.eq_2 ..) (Ev.ff (by decide) ?_)
  rw [wsucc (by omega)]
  exact next
 obtain ⟨v, hv, v0, v1⟩ := at_eq hl hz (a := 0) (by omega) (by omega)
 intro d
 induction d with
 | zero =>
  intro i hi
  exact Ev.step (fun _ => laws_FnSwaps.l1.eq_2 ..) (Ev.ff (by rw [ints_length]; omega) (out i))
 | succ d ih =>
  intro i hi
  have hil : i < (loopN w h n g).length := by omega
  have hri : rd (ints (loopN w h n g)) (i : Int) = ((loopN w h n g)[i] : Nat) := rd_ints (List.getElem?_eq_getElem hil)
  have hmem := List.getElem_mem hil
  refine Ev.step (fun _ => laws_FnSwaps.l1.eq_2 ..) (Ev.tt (by rw [ints_length]; omega) (Ev.bnd0 hv (Ev.bnd0 (spec_CountGaps_eq w h) (Ev.ff (by omega) ?_))))
  cases hq : ((g : Int) == Int.tmod v (gapsOf w h)) with
  | false => exact out i
  | true =>
   obtain ⟨q1, q2⟩ := swapW_perf hg hn hp hgg hc hmem
   obtain ⟨j1, j2, _⟩ := loopW_mem.1 hmem
   have hne : (loopN w h n g)[i] ≠ g := by intro e; rw [e, hc] at j2; cases j2
   have ha := apart_swap (a := n) (b := setB (setB n g true) (loopN w h n g)[i] false) hgg j1 hc (by rw [testBit_setB, if_neg (Ne.symm hne), testBit_setB, if_pos rfl]) j2 (by rw [testBit_setB, if_pos rfl])
   rw [(apart_zero q2 q2 q1 q1).2 rfl] at ha
   have hap := apartW_ev hg hn hp q2 q1
   rw [← ha] at hap
   refine Ev.step (fun _ => laws_FnSwaps.j3.eq_2 ..) (Ev.tt rfl (Ev.tt (by omega) (Ev.tt (by rw [ints_length]; omega) ?_)))
   rw [hri, wsucc (i := i) (by omega)]
   refine Ev.bind (swapW_ev hg hn hp hgg hc hmem) (Ev.tt rfl (Ev.bind (impl_IsPerfect_all ..) (Ev.tt (perfI_nat hg q2 q1) (Ev.bind hap (Ev.tt rfl ?_)))))
   exact ih (i + 1) (by omega)
theorem FnSwaps_pure (l : List Int) (hy : l.length ≤ 140737488351232) (hz : ∀ x ∈ l, 0 ≤ x ∧ x ≤ 255) : ∃ k, laws_FnSwaps.f k l = some true := by
 refine Ev.rounds ?_
 unfold laws_FnSwaps.f laws_big.f
 refine Ev.bnd0 rfl (Ev.ite (fun _ => Ev.ret rfl) (fun hb => ?_))
 have hl : l.length ≤ 1048576 := by
  rw [decide_eq_true_eq] at hb
  omega
 obtain ⟨w, h, a, b, hg, ha, pa, hb', pb, hd⟩ := spec_DrawTwoTrees_ev hl
 have hgc := gapsN_cast w h
 have h24 := gapsN_le w h
 have hA := apart_le (w := w) (h := h) a b
 have hab := apartW_ev hg ha pa hb' pb
 have hba := apartW_ev hg hb' pb ha pa
 rw [← apart_symm pa pb] at hba
 obtain ⟨x, ok, hx, hok, hxp⟩ : ∃ (x : Nat) (ok : Bool), Ev (fun k => impl_SwapTowards.f k w h a w h b) (w, h, (x : Int), ok) ∧ ok = decide (0 < apart w h a b) ∧ (ok = true → x < 2 ^ gapsN w h ∧ perfN w h x = true ∧ apart w h x b + 1 = apart w h a b) := by
  by_cases h0 : apart w h a b = 0
  ·exact ⟨a, false, towards_none hg ha pa hb' pb h0, by rw [h0]; rfl, fun e => by cases e⟩
  ·obtain ⟨a', q1, q2, q3, q4⟩ := towards_ev hg ha pa hb' pb h0
   exact ⟨a', true, q4, by rw [decide_eq_true (by omega)], fun _ => ⟨q1, q2, q3⟩⟩
 have loop : ∀ (d i s : Nat), i + d = gapsN w h → s ≤ 24 * i → swI w h a d i s = swI w h a (gapsN w h) 0 0 → Ev (fun k => laws_FnSwaps.l0 k l ((apart w h a b : Nat) : Int) ok s i w h a w h b w h x) true := by
  intro d
  induction d with
  | zero =>
   intro i s hi hs hsw
   have hsb := between_l0 hg hb' pb (apart w h a b) a 0 ha pa rfl (by omega)
   rw [Nat.zero_add] at hsb
   have hcs : Ev (fun k => impl_CountSwaps.f k w h a) ((s : Nat) : Int) := by
    have := swI_l0 w h a (gapsN w h) 0 0 (by omega) (by omega)
    rw [← hsw] at this
    exact this
   refine Ev.step (fun _ => laws_FnSwaps.l0.eq_2 ..) (Ev.bnd0 (spec_CountGaps_eq w h) (Ev.ff (by omega) (Ev.tt (by omega) (Ev.bind (impl_IsPerfect_all ..) (Ev.tt (perfI_nat hg ha pa) (Ev.bind hba (Ev.tt rfl (Ev.bind hsb (Ev.tt rfl ?_))))))))) 
   refine Ev.tt (by rw [hok]; simp [Int.natCast_pos]) ?_
   cases hk : ok with
   | false => exact Ev.ff (by decide) (Ev.bind hcs (Ev.ret (by simp)))
   | true =>
    obtain ⟨q1, q2, q3⟩ := hxp hk
    refine Ev.tt rfl (Ev.bind (impl_IsPerfect_all ..) (Ev.tt (perfI_nat hg q1 q2) (Ev.bind (apartW_ev hg q1 q2 hb' pb) (Ev.tt (by unfold wrap64; omega) (Ev.bind hcs (Ev.ret (by simp)))))))
  | succ d ih =>
   intro i s hi hs hsw
   have hil : i < gapsN w h := by omega
   have hll := loopI_len w h (a : Int) (i : Int)
   obtain ⟨e, e2, e3⟩ := ends_facts hil
   have e1 : (ends w h i).1 < cellsN w h := by omega
   have hnext := ih (i + 1) (s + (loopI w h a i).length) (by omega) (by omega) hsw
   refine Ev.step (fun _ => laws_FnSwaps.l0.eq_2 ..) (Ev.bnd0 (spec_CountGaps_eq w h) (Ev.tt (by omega) (Ev.bind (impl_LoopGaps_ev w h a i) (Ev.bnd0 (a := (((ends w h i).1 : Int), ((ends w h i).2 : Int))) (by rw [spec_EndsOf_eq, e]) (Ev.bnd0 (passW_ev hg ha hil) ?_)))))
   rw [wrap64_id (x := (s : Int) + ((loopI w h a i).length : Int)) (by omega) (by omega), show ((s : Int) + ((loopI w h a i).length : Int)) = ((s + (loopI w h a i).length : Nat) : Int) by omega]
   cases hbit : a.testBit i with
   | true =>
    rw [loopW_open hbit] at hnext ⊢
    refine Ev.tt rfl (Ev.step (fun _ => laws_FnSwaps.j1.eq_2 ..) (Ev.ff (by decide) (Ev.step (fun _ => laws_FnSwaps.l1.eq_2 ..) (Ev.ff (by simp) (Ev.step (fun _ => laws_FnSwaps.j3.eq_2 ..) (Ev.ff (by decide) ?_))))))
    rw [wsucc (by omega)]
    exact hnext
   | false =>
    have hlo := loopW hg ha pa hil hbit
    have hlen := loop_dist hg ha pa hil
    rw [hlo] at hnext ⊢
    refine Ev.ff (by decide) (Ev.bind (impl_DistanceOf_ev hg ha e1 e3) (Ev.step (fun _ => laws_FnSwaps.j1.eq_2 ..) (Ev.ff ?_ ?_)))
    ·rw [ints_length, hlen]
     simp
    ·exact swaps_l1 hg ha pa hl hz hil hbit hnext (loopN w h a i).length 0 (by omega)
 refine Ev.bind hd (Ev.bind hab (Ev.bind hx ?_))
 exact loop (gapsN w h) 0 0 (by omega) (by omega) rfl
end Go.Proofs.YtamkcplflbjdkaaDoor.P
namespace Go.Proofs.YtamkcplflbjdkaaDoor.fnSwaps
open Go.ChangeShapes Go.WideShapes Go.ChangeAt Go.RowKit Go.Proofs.YtamkcplflbjdkaaDoorW.PrintWords Go.Proofs.YtamkcplflbjdkaaDoor.Sup
open Go.ChangeMaps (open_string shut_string)
set_option linter.unusedVariables false
theorem own : ownKnob Tryd.prog.godebug = none := by kernel_rfl
theorem laidOut : laidOutB Tryd.prog = true := by kernel_rfl
theorem g64 : Tryd.prog.globalNamed "math/bits.deBruijn64tab" = some 1 := by kernel_rfl
theorem g64Type : (Tryd.prog.globals[1]?).map (·.type) = some 77 := by kernel_rfl
theorem cells5 : Tryd.prog.cellsOf 5 = 1 := by kernel_rfl
theorem cells77 : Tryd.prog.cellsOf 77 = 64 := by kernel_rfl
/-- What the row's condition gives the walk: the table lies in its variable. -/
theorem tz_of_laid {W : World} (h : laidMetH Tryd.prog Rows.fnSwapsRow.laid W) : P.TZ W := by
  rw [MakeChecks.laidMetH_plain _ _ _ (by kernel_rfl)] at h
  have h2 := laidMet.tail h
  have e : Rows.laid_math_bits_deBruijn64tab (H := Unit) = Go.Lib.tabData .u8 (Go.Lib.deBruijn64tab.map fun (z : Nat) => (z : Int)) := by kernel_rfl
  rw [e] at h2
  have hT := Go.Lib.tabIs_of_head g64 g64Type Tryd.underlying77 Tryd.underlying5 cells5 cells77 h2
  intro j hj
  have := hT.cell g64 j (by rw [List.length_map]; exact hj)
  rw [this]
  simp [List.getD_eq_getElem?_getD, List.getElem?_map, List.getElem?_eq_getElem hj]
/-- A world that meets the condition: the settled one, the two variables' cells laid. -/
noncomputable def laidWorld (os : Os) : World :=
  let w0 := World.holding Tryd.prog os ⟨#[], #[], []⟩
  { w0 with heap := (w0.heap.modify 0 fun
      | .cells _ t frozen => .cells (Go.Lib.deBruijn32tab.map fun (z : Nat) => Value.int .u8 (z : Int)).toArray t frozen
      | o => o).modify 1 fun
      | .cells _ t frozen => .cells (Go.Lib.deBruijn64tab.map fun (z : Nat) => Value.int .u8 (z : Int)).toArray t frozen
      | o => o }
theorem laidWorld_met (os : Os) (args : Array Value) : laidMetH Tryd.prog Rows.fnSwapsRow.laid ((laidWorld os).forCall (fun _ _ => 0) ⟨#[], args, []⟩).memory := by
  rw [MakeChecks.laidMetH_plain _ _ _ (by kernel_rfl)]
  exact laidMet_of_run' 8 (by kernel_rfl) (by kernel_rfl)
set_option maxRecDepth 100000 in
theorem lifted (os : Os) (started : os.Started) (H : Type) (enc : TypeId × Value → H) :
    ReturnsInHanded {} Tryd.checked os 3 .any (fun w args => (Rows.fnSwapsSpec.pre enc Tryd.prog Tryd.f3 [] false w args ∧ laidMetH Tryd.prog Rows.fnSwapsRow.laid w) ∧ sizedMet enc Tryd.prog Tryd.f3 (OpenSpec.ofChange Rows.fnSwapsSpec) false w args)
      (Rows.fnSwapsSpec.post enc Tryd.prog Tryd.f3 false true false false) := by
  refine returnsInHanded_of_change_and (C := Tryd.checked) (X := fun w _ => laidMetH Tryd.prog Rows.fnSwapsRow.laid w) (fun _ _ _ hh h => h.of_heap hh) own started (by kernel_rfl) Tryd.func3
    (ChangeSpec.witness_at (enc := enc) (C := Tryd.checked) (os := os) (X := fun w _ => laidMetH Tryd.prog Rows.fnSwapsRow.laid w) false (laidWorld os) #[.slice none 0 0] 8 rfl (by kernel_rfl) (by kernel_rfl) (by kernel_rfl) (by kernel_rfl) (by kernel_rfl) (laidWorld_met os _)) ?_
  intro W base args ds gs before hval0 hW hcnd hsz0 hL _
  have hsz : (DataW.weightsEach Tryd.prog (Tryd.f3.params.toList ++ Rows.fnSwapsSpec.plain.varTypes Tryd.prog) (ds ++ gs)).all (· ≤ reachBytes) = true := hsz0
  have hval : ∀ (j : Nat) t v, Tryd.f3.params[j]? = some t → args[j]? = some v → Value.okWide Tryd.prog W .any base t v := hval0
  have hW' := hW
  obtain ⟨p, q, hA0, hV, rfl, hfz, hnd⟩ := hW
  have hA : DataW.TrodAll enc Tryd.prog W 0 (fun _ => true) true Tryd.f3.params.toList args.toList ds p := hA0
  rw [Tryd.params3] at hA hval hsz
  obtain ⟨v0, vs0, d0, ds0, p0, q0, hargs, rfl, rfl, h0, r0⟩ := trodAll_cons hA
  obtain ⟨rfl, rfl, rfl⟩ := trodAll_nil r0
  obtain rfl : args = #[v0] := by cases args; simp_all
  obtain ⟨rfl, rfl⟩ := trodVars_none hV
  obtain ⟨a0, len0, cap0, rfl⟩ := okWide_slice Tryd.underlying22 (hval 0 22 v0 rfl rfl)
  have k0 := h0
  have lt0 : ∀ x ∈ p0, x.block < W.heap.size := by obtain ⟨m, hm⟩ := k0; exact DataW.trod_lt m _ _ _ hm
  obtain ⟨z0, w0⟩ : ∃ zs, IsRow .u8 W a0 len0 cap0 zs := by
    obtain ⟨fuel, hf⟩ := h0
    rcases open_ints Tryd.underlying22 Tryd.underlying5 (by kernel_rfl) hf with ⟨hcs, _⟩ | ⟨x, l, c, zs, hcs, _, hl, hm, hz, _, hcell, hwz⟩
    · simp [Value.cells] at hcs
      obtain ⟨rfl, rfl, rfl⟩ := hcs
      exact ⟨[], .inl ⟨rfl, rfl, rfl, rfl⟩⟩
    · simp [Value.cells] at hcs
      obtain ⟨rfl, rfl, rfl⟩ := hcs
      exact ⟨zs, .inr ⟨_, rfl, hl, hm, by simpa using hz, hcell, hwz⟩⟩
  have y0 : len0 * 1 ≤ 140737488351232 := sized_ints hsz (j := 0) (t := 22) rfl rfl Tryd.underlying22 Tryd.underlying5 (by kernel_rfl) (by kernel_rfl) h0
  obtain ⟨l0, rfl, hr0, hm0, hw0, hc0⟩ := ReadsInt.ofRowC w0
  clear hA0 hval0 hsz0 hsz
  obtain ⟨k, hf⟩ := P.FnSwaps_pure l0 (by omega) (fun x hx => u8_of_wf (hw0 x hx))
  refine (P.laws_FnSwaps.calls k _ _ l0 true W (Kd.C_of_reads (d := (0 : Int)) (h1 := fun _ => rfl) hr0) hc0 hf (tz_of_laid hL)).mono fun e W' ⟨he, bel0⟩ => ?_
  have bel : Below W.heap.size W W' := bel0
  subst he
  exact ⟨_, rfl, _, _, _, [], _, [], hW', trodAll_mk1 (shut_bool Tryd.underlying4 _), (trodAll_cons_mk (Below.trod laidOut (by kernel_rfl) (of_decide_eq_true (by kernel_rfl)) k0 bel lt0) trodAll_mk0), rfl, bel.frame _, fun h => by cases h⟩
theorem over : Rows.fnSwapsRow.holds Tryd.pinned (OpenSpec.ofChange Rows.fnSwapsSpec) :=
  OpenClaim.holds_of_wide 3 Tryd.f3 rfl rfl rfl rfl rfl rfl rfl ⟨rfl, rfl, rfl, rfl, rfl⟩ rfl rfl rfl rfl rfl (by kernel_rfl) Tryd.func3 (by kernel_rfl)
    (of_decide_eq_true (by kernel_rfl)) (by unfold Func.isWrapper; first | (rw [if_pos (by decide +kernel)]; kernel_rfl) | (rw [if_neg (by decide +kernel)]; exact ⟨rfl, rfl⟩))
    (fun os started H enc _ => lifted os started H enc)
theorem proved : Rows.FnSwapsCardSaid :=
  Claim7.holds_tied_plain_at .later [] [.data, .data] true (true, "a443541a8c62d0183dabfadcf0d7b384322c91e9d2976fe4d3e49a1d4b44cc0e") false
    over (fun _ h => by cases h) (by kernel_rfl) (fun _ h => by cases h) fnSwaps_row_tie rfl ⟨rfl, rfl⟩ (by kernel_rfl) rfl
    (fun f fn hf hfn => by
      obtain rfl : f = 3 := Option.some.inj ((show Tryd.prog.funcNamed "loop.example/g00990/laws.FnSwaps" = some 3 by kernel_rfl).symm.trans hf) |>.symm
      obtain rfl : fn = Tryd.f3 := (Option.some.inj (Tryd.func3.symm.trans hfn)).symm
      exact ⟨by kernel_rfl, fun j t ht => by
        rw [Tryd.params3] at ht
        have h22 : t = 22 := by
          rcases j with _ | j
          · simpa using ht.symm
          · simp at ht
        subst h22
        exact (show Tryd.prog.wantsStandIn 22 = false by kernel_rfl)⟩)
    (by kernel_rfl)
end Go.Proofs.YtamkcplflbjdkaaDoor.fnSwaps
namespace Go.Proofs.YtamkcplflbjdkaaDoor
/-- The row, under a short name, for the claim. -/
theorem fnSwaps_holds : Rows.FnSwapsCardSaid := fnSwaps.proved
#print axioms fnSwaps_holds
end Go.Proofs.YtamkcplflbjdkaaDoor
