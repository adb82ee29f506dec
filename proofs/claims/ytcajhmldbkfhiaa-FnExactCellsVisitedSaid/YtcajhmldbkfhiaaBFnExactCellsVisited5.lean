/- The statement FnExactCellsVisited of the seat, out of its plain form (FnExactCellsVisited_pure) and the walk of its Go function. Part 5 of 5: each Go function's walk, then the plain lemmas, then the row. No condition: it holds for every input. -/
import Derived.Test.YtcajhmldbkfhiaaBFnExactCellsVisited4
import Derived.Test.YtcajhmldbkfhiaaRows
import Derived.Below
import Derived.ChangeOld
import Derived.OpenShut
import Derived.ProofKit
import Derived.ShutString
import Derived.SizedLaws
import Derived.WalkKit
namespace Go.Proofs.Ytcajhmldbkfhiaa.P
open Go.RowKit Go.Proofs.YtcajhmldbkfhiaaW.PrintWords
set_option linter.unusedVariables false
set_option linter.unusedSimpArgs false

theorem impl_Step_ev {w h : Int} {n : Nat} (hg : gridOk w h = true) (hn : n < 2 ^ gapsN w h) (c d : Int) : Ev (fun k => impl_Step.f k w h n c d) (stepI w h n c d) := by
  unfold impl_Step.f stepI
  refine Ev.bnd0 (impl_MazeOk_eq w h n) (Ev.tt (mazeOk_iff.2 ⟨hg, n, rfl, hn⟩) ?_)
  refine Ev.bind (impl_GapAt_ev w h c d) (Ev.bnd0 (impl_isOpen_eq w h (open_small hn) _) ?_)
  by_cases ho : openI n (gapI w h c d) = true
  · rw [if_pos ho]
    exact Ev.tt ho (Ev.bind (impl_Neighbor_ev w h c d) (Ev.ret rfl))
  · rw [if_neg ho]
    exact Ev.ff ho (Ev.ret rfl)
theorem spec_GapAt_ev (w h c d : Int) : Ev (fun k => spec_GapAt.f k w h c d) (gapI w h c d) := by
  unfold spec_GapAt.f gapI
  refine Ev.bind (spec_Neighbor_ev w h c d) ?_
  by_cases hn : nbI w h c d < 0
  · rw [if_pos hn, if_pos hn]
    exact Ev.ret rfl
  · rw [if_neg hn, if_neg hn]
    obtain ⟨hd, h0, h1⟩ := nb_dir (by omega : 0 ≤ nbI w h c d)
    obtain ⟨hg, hcw⟩ := cellsOf_valid h0 h1
    have hcr := cellsOf_range w h
    have hgr := gridOk_iff.1 hg
    have hlt := nb_lt (w := w) (h := h) (c := c) (d := d)
    have hmn : mn c (nbI w h c d) = min c (nbI w h c d) := by unfold mn; omega
    rw [hmn]
    have hm0 : 0 ≤ min c (nbI w h c d) := by omega
    have hm1 : min c (nbI w h c d) ≤ 15 := by omega
    generalize min c (nbI w h c d) = m at *
    have ha0 : 0 ≤ m / w := Int.ediv_nonneg hm0 (by omega)
    have ha1 : m / w ≤ m := Int.ediv_le_self _ hm0
    have hb0 : 0 ≤ m % w := Int.emod_nonneg _ (by omega)
    have hb1 : m % w < w := Int.emod_lt_of_pos _ (by omega)
    have hp0 : 0 ≤ m / w * (w - 1) := Int.mul_nonneg ha0 (by omega)
    have hp1 : m / w * (w - 1) ≤ 15 * 3 := Int.mul_le_mul (by omega) (by omega) (by omega) (by omega)
    have hq0 : 0 ≤ (w - 1) * h := Int.mul_nonneg (by omega) (by omega)
    have hq1 : (w - 1) * h ≤ 3 * 4 := Int.mul_le_mul (by omega) (by omega) (by omega) (by omega)
    rw [Int.tmod_eq_emod_of_nonneg hm0, Int.tdiv_eq_ediv_of_nonneg hm0, wrap64_id (x := m / w) (by omega) (by omega), wrap64_id (x := w - 1) (by omega) (by omega), wrap64_id (x := m / w * (w - 1)) (by omega) (by omega), wrap64_id (x := m / w * (w - 1) + m % w) (by omega) (by omega)]
    refine Ev.ite (fun e => Ev.ff (by omega) ?_) (fun e => Ev.ite (fun e3 => Ev.ff (by omega) ?_) (fun e3 => ?_))
    · rw [if_pos (.inl e)]; exact Ev.ret rfl
    · rw [if_pos (.inr e3)]; exact Ev.ret rfl
    · rw [if_neg (by omega)]
      refine Ev.bnd0 (spec_l02East_eq hg) (Ev.ret ?_)
      unfold eastOf
      rw [wrap64_id (by omega) (by omega)]
end Go.Proofs.Ytcajhmldbkfhiaa.P
namespace Go.Proofs.Ytcajhmldbkfhiaa.P
open Go.RowKit Go.Proofs.YtcajhmldbkfhiaaW.PrintWords Go.Proofs.YtcajhmldbkfhiaaW.PrintLast Go.Proofs.YtcajhmldbkfhiaaW.PrintMore
attribute [local go_sem] max2_int min2_int max_two min_two max_three min_three max_four min_four   -- for this text's walks alone
set_option linter.unusedVariables false
set_option linter.unusedSimpArgs false

/-! ### spec_WaysFrom: function 128 -/
end Go.Proofs.Ytcajhmldbkfhiaa.P
namespace Go.Proofs.Ytcajhmldbkfhiaa.P
open Go.RowKit Go.Proofs.YtcajhmldbkfhiaaW.PrintWords
set_option linter.unusedVariables false
set_option linter.unusedSimpArgs false

theorem spec_IsPassage_eq {w h : Int} {n : Nat} (hg : gridOk w h = true) (hn : n < 2 ^ gapsN w h) (g : Int) : spec_IsPassage.f w h n g = some (openI n g) := by
  have hr := gapsOf_range w h
  unfold spec_IsPassage.f
  rw [spec_MazeOk_eq, Option.bind_some, if_pos (mazeOk_iff.2 ⟨hg, n, rfl, hn⟩), spec_CountGaps_eq, Option.bind_some, wrap64_id (by omega) (by omega), l01In_eq, Option.bind_some]
  by_cases hc : 0 ≤ g ∧ g < gapsOf w h
  · rw [if_pos (by simp; omega), spec_l03Bit_eq (open_small hn) hc.1]
    rfl
  · rw [if_neg (by simp; omega)]
    congr 1
    symm
    rw [Bool.eq_false_iff]
    intro ho
    have := open_isGap hn ho
    unfold isGapI at this
    simp at this
    omega
theorem spec_Step_ev {w h : Int} {n : Nat} (hg : gridOk w h = true) (hn : n < 2 ^ gapsN w h) (c d : Int) : Ev (fun k => spec_Step.f k w h n c d) (stepI w h n c d) := by
  unfold spec_Step.f stepI
  refine Ev.bnd0 (spec_MazeOk_eq w h n) (Ev.tt (mazeOk_iff.2 ⟨hg, n, rfl, hn⟩) ?_)
  refine Ev.bind (spec_GapAt_ev w h c d) (Ev.bnd0 (spec_IsPassage_eq hg hn _) ?_)
  by_cases ho : openI n (gapI w h c d) = true
  · rw [if_pos ho]
    exact Ev.tt ho (Ev.bind (spec_Neighbor_ev w h c d) (Ev.ret rfl))
  · rw [if_neg ho]
    exact Ev.ff ho (Ev.ret rfl)
end Go.Proofs.Ytcajhmldbkfhiaa.P
namespace Go.Proofs.Ytcajhmldbkfhiaa.P
open Go.RowKit Go.Proofs.YtcajhmldbkfhiaaW.PrintWords Go.Proofs.Ytcajhmldbkfhiaa.Sup
set_option linter.unusedVariables false
set_option linter.unusedSimpArgs false

def handTry (st : Int → Int) (c f : Int) : List Int → Int × Int
  | [] => (c, Int.tmod (wrap64 (f + 2)) 4)
  | t :: ts => if st (Int.tmod (wrap64 (f + t)) 4) ≥ 0 then (st (Int.tmod (wrap64 (f + t)) 4), Int.tmod (wrap64 (f + t)) 4) else handTry st c f ts
def handI (w h o c f : Int) : Int × Int := if walkerOk w h o c f then handTry (stepI w h o.toNat c) c f [1, 0, 3, 2] else (c, f)
theorem impl_hand_l0 {w h : Int} {n : Nat} (hg : gridOk w h = true) (hn : n < 2 ^ gapsN w h) (c f : Int) (l : List Int) (hl : l.length ≤ 4) : ∀ (e j : Nat), l.length - j = e → j ≤ l.length →
    Ev (fun k => impl_HandStep.l0 k l (l.length : Int) j w h n c f) (handTry (stepI w h n c) c f (l.drop j))
  | 0, j, he, hj => by
    refine Ev.step (fun _ => impl_HandStep.l0.eq_2 ..) ?_
    refine Ev.ff (by omega) (Ev.ret ?_)
    rw [List.drop_eq_nil_of_le (by omega)]
    rfl
  | e + 1, j, he, hj => by
    have hjl : j < l.length := by omega
    refine Ev.step (fun _ => impl_HandStep.l0.eq_2 ..) ?_
    refine Ev.tt (by omega) (Ev.tt (by omega) (Ev.tt (by omega) ?_))
    rw [rd_get hjl, List.drop_eq_getElem_cons hjl]
    refine Ev.bind (impl_Step_ev hg hn c _) ?_
    unfold handTry
    refine Ev.ite (fun h1 => ?_) (fun h1 => ?_)
    · rw [if_pos h1]
      exact Ev.ret rfl
    · rw [if_neg h1, wsucc (by omega)]
      exact impl_hand_l0 hg hn c f l hl e (j + 1) (by omega) (by omega)
theorem spec_hand_l0 {w h : Int} {n : Nat} (hg : gridOk w h = true) (hn : n < 2 ^ gapsN w h) (c f : Int) (l : List Int) (hl : l.length = 4) : ∀ (e j : Nat), 4 - j = e → j ≤ 4 →
    Ev (fun k => spec_HandStep.l0 k l j w h n c f) (handTry (stepI w h n c) c f (l.drop j))
  | 0, j, he, hj => by
    refine Ev.step (fun _ => spec_HandStep.l0.eq_2 ..) ?_
    refine Ev.ff (by omega) (Ev.ret ?_)
    rw [List.drop_eq_nil_of_le (by omega)]
    rfl
  | e + 1, j, he, hj => by
    have hjl : j < l.length := by omega
    refine Ev.step (fun _ => spec_HandStep.l0.eq_2 ..) ?_
    refine Ev.tt (by omega) (Ev.tt (by omega) (Ev.tt (by omega) ?_))
    rw [rd_get hjl, List.drop_eq_getElem_cons hjl]
    refine Ev.bind (spec_Step_ev hg hn c _) ?_
    unfold handTry
    refine Ev.ite (fun h1 => ?_) (fun h1 => ?_)
    · rw [if_pos h1]
      exact Ev.ret rfl
    · rw [if_neg h1, wsucc (by omega)]
      exact spec_hand_l0 hg hn c f l hl e (j + 1) (by omega) (by omega)
theorem walkerOk_maze {w h o c f : Int} (hw : walkerOk w h o c f = true) : gridOk w h = true ∧ ∃ n : Nat, o = (n : Int) ∧ n < 2 ^ gapsN w h := by
  unfold walkerOk at hw
  simp only [Bool.and_eq_true] at hw
  exact mazeOk_iff.1 hw.1.1
theorem impl_HandStep_ev (w h o c f : Int) : Ev (fun k => impl_HandStep.f k w h o c f) (handI w h o c f) := by
  unfold impl_HandStep.f handI
  refine Ev.bnd0 (impl_WalkerOk_eq w h o c f) ?_
  by_cases hw : walkerOk w h o c f = true
  · obtain ⟨hg, n, rfl, hn⟩ := walkerOk_maze hw
    rw [if_pos hw]
    refine Ev.tt hw (Ev.bnd0 rfl ?_)
    exact impl_hand_l0 hg hn c f [1, 0, 3, 2] (by simp) 4 0 (by simp) (by simp)
  · rw [if_neg hw]
    exact Ev.ff hw (Ev.ret rfl)
theorem spec_HandStep_ev (w h o c f : Int) : Ev (fun k => spec_HandStep.f k w h o c f) (handI w h o c f) := by
  unfold spec_HandStep.f handI
  refine Ev.bnd0 (spec_WalkerOk_eq w h o c f) ?_
  by_cases hw : walkerOk w h o c f = true
  · obtain ⟨hg, n, rfl, hn⟩ := walkerOk_maze hw
    rw [if_pos hw]
    refine Ev.tt hw ?_
    exact spec_hand_l0 hg hn c f [1, 0, 3, 2] (by simp) 4 0 (by simp) (by simp)
  · rw [if_neg hw]
    exact Ev.ff hw (Ev.ret rfl)
end Go.Proofs.Ytcajhmldbkfhiaa.P
namespace Go.Proofs.Ytcajhmldbkfhiaa.P
open Go.RowKit Go.Proofs.YtcajhmldbkfhiaaW.PrintWords Go.Proofs.YtcajhmldbkfhiaaW.PrintLast Go.Proofs.YtcajhmldbkfhiaaW.PrintMore
attribute [local go_sem] max2_int min2_int max_two min_two max_three min_three max_four min_four   -- for this text's walks alone
set_option linter.unusedVariables false
set_option linter.unusedSimpArgs false

/-! ### laws_toIntS: function 14 -/
end Go.Proofs.Ytcajhmldbkfhiaa.P
namespace Go.Proofs.Ytcajhmldbkfhiaa.P
open Go.RowKit Go.Proofs.YtcajhmldbkfhiaaW.PrintWords
set_option linter.unusedVariables false
set_option linter.unusedSimpArgs false

theorem eqIntS_l0 (a b : List Int) (hl : a.length = b.length) (hb : b.length ≤ 35184372088832) : ∀ (d i : Nat), a.length - i = d → i ≤ a.length → Ev (fun k => laws_eqIntS.l0 k a b i) (decide (a.drop i = b.drop i))
  | 0, i, hd, hi => by
    refine Ev.step (fun _ => laws_eqIntS.l0.eq_2 ..) ?_
    refine Ev.ff (by omega) (Ev.ret ?_)
    rw [List.drop_eq_nil_of_le (by omega), List.drop_eq_nil_of_le (by omega)]
    rfl
  | d + 1, i, hd, hi => by
    refine Ev.step (fun _ => laws_eqIntS.l0.eq_2 ..) ?_
    refine Ev.tt (by omega) (Ev.tt (by omega) (Ev.tt (by omega) ?_))
    have h1 : a.drop i = a[i]'(by omega) :: a.drop (i + 1) := List.drop_eq_getElem_cons (by omega)
    have h2 : b.drop i = b[i]'(by omega) :: b.drop (i + 1) := List.drop_eq_getElem_cons (by omega)
    rw [rd_get (show i < a.length by omega), rd_get (show i < b.length by omega), h1, h2]
    refine Ev.ite (fun e => ?_) (fun e => ?_)
    · rw [wsucc (by omega)]
      refine Ev.eq (eqIntS_l0 a b hl hb d (i + 1) (by omega) (by omega)) ?_
      rw [decide_eq_decide, List.cons.injEq, e]
      simp only [true_and]
    · refine Ev.ret ?_
      symm
      rw [decide_eq_false_iff_not, List.cons.injEq]
      exact fun h => e h.1
theorem eqIntS_ev (a b : List Int) (hb : b.length ≤ 35184372088832) : Ev (fun k => laws_eqIntS.f k a b) (decide (a = b)) := by
  unfold laws_eqIntS.f
  refine Ev.ite (fun h => ?_) (fun h => ?_)
  · have := eqIntS_l0 a b (by omega) hb a.length 0 (by omega) (by omega)
    simpa using this
  · refine Ev.ret ?_
    have : a ≠ b := by rintro rfl; exact h rfl
    simp [this]

/-- m, m + 1, .. : d of them. -/
def marks (m d : Nat) : List Int := (List.range d).map fun t => ((m + t : Nat) : Int)
theorem marks_length (m d : Nat) : (marks m d).length = d := by simp [marks]
theorem marks_succ (m d : Nat) : marks m (d + 1) = (m : Int) :: marks (m + 1) d := by
  simp only [marks, List.range_succ_eq_map, List.map_cons, List.map_map, Nat.add_zero]
  congr 1
  apply List.map_congr_left
  intro t _
  simp only [Function.comp, Nat.succ_eq_add_one]
  congr 1
  omega
theorem markIntS_l0 : ∀ (d i m : Nat) (l : List Int), l.length - i = d → i ≤ l.length → l.length ≤ 35184372088832 → m + d ≤ 35184372088839 → Ev (fun k => laws_markIntS.l0 k l m i) (((m + d : Nat) : Int), l.take i ++ marks m d)
  | 0, i, m, l, hd, hi, hl, hm => by
    refine Ev.step (fun _ => laws_markIntS.l0.eq_2 ..) ?_
    refine Ev.ff (by omega) (Ev.ret ?_)
    rw [List.take_of_length_le (by omega)]
    simp [marks]
  | d + 1, i, m, l, hd, hi, hl, hm => by
    refine Ev.step (fun _ => laws_markIntS.l0.eq_2 ..) ?_
    refine Ev.tt (by omega) (Ev.tt (by omega) ?_)
    rw [wsucc (by omega), wsucc (by omega)]
    simp only [Int.toNat_natCast]
    refine Ev.eq (markIntS_l0 d (i + 1) (m + 1) (l.set i m) (by rw [List.length_set]; omega) (by rw [List.length_set]; omega) (by rw [List.length_set]; omega) (by omega)) ?_
    rw [marks_succ, List.take_succ_eq_append_getElem (by rw [List.length_set]; omega), List.take_set_of_le (Nat.le_refl _)]
    simp
    omega
theorem markIntS_ev (l : List Int) (hl : l.length ≤ 35184372088832) : Ev (fun k => laws_markIntS.f k l 1) (((1 + l.length : Nat) : Int), marks 1 l.length) := by
  unfold laws_markIntS.f
  have := markIntS_l0 l.length 0 1 l (by omega) (by omega) hl (by omega)
  simpa using this
theorem heldIntS_l0 : ∀ (d i m : Nat) (l : List Int), l.length - i = d → i ≤ l.length → l.length ≤ 35184372088832 → m + d ≤ 35184372088839 → l.drop i = marks m d → Ev (fun k => laws_heldIntS.l0 k l m i) ((m + d : Nat) : Int)
  | 0, i, m, l, hd, hi, hl, hm, he => by
    refine Ev.step (fun _ => laws_heldIntS.l0.eq_2 ..) ?_
    exact Ev.ff (by omega) (Ev.ret rfl)
  | d + 1, i, m, l, hd, hi, hl, hm, he => by
    refine Ev.step (fun _ => laws_heldIntS.l0.eq_2 ..) ?_
    refine Ev.tt (by omega) (Ev.tt (by omega) ?_)
    rw [List.drop_eq_getElem_cons (by omega), marks_succ] at he
    injection he with h1 h2
    rw [rd_get (show i < l.length by omega), h1]
    refine Ev.tt rfl ?_
    rw [wsucc (by omega), wsucc (by omega)]
    refine Ev.eq (heldIntS_l0 d (i + 1) (m + 1) l (by omega) (by omega) hl (by omega) h2) ?_
    omega
theorem heldIntS_ev (n : Nat) (hl : n ≤ 35184372088832) : Ev (fun k => laws_heldIntS.f k (marks 1 n) 1) ((1 + n : Nat) : Int) := by
  unfold laws_heldIntS.f
  have := heldIntS_l0 n 0 1 (marks 1 n) (by simp [marks_length]) (by omega) (by rw [marks_length]; exact hl) (by omega) (by simp)
  simpa using this
end Go.Proofs.Ytcajhmldbkfhiaa.P
namespace Go.Proofs.Ytcajhmldbkfhiaa.P
open Go.RowKit Go.Proofs.YtcajhmldbkfhiaaW.PrintWords Go.Proofs.Ytcajhmldbkfhiaa.Sup
set_option linter.unusedVariables false
set_option linter.unusedSimpArgs false

def toW (s : Int × Int) : S42 := ⟨s.1, s.2⟩
/-- d more steps of the walker. -/
def walkL (w h o : Int) : Nat → Int × Int → List (Int × Int)
  | 0, _ => []
  | d + 1, s => handI w h o s.1 s.2 :: walkL w h o d (handI w h o s.1 s.2)
theorem walkL_len (w h o : Int) : ∀ d s, (walkL w h o d s).length = d
  | 0, _ => rfl
  | d + 1, s => by simp [walkL, walkL_len w h o d]
theorem impl_walk_l0 (w h o : Int) : ∀ (d : Nat) (out : List S42) (s : Int × Int), d ≤ 200 → out.length + d ≤ 1000 → Ev (fun k => impl_HandWalk.l0 k (d : Int) out w h o s.1 s.2) (out ++ (walkL w h o d s).map toW)
  | 0, out, s, hd, hl => by
    refine Ev.step (fun _ => impl_HandWalk.l0.eq_2 ..) (Ev.ff (by omega) (Ev.ret ?_))
    simp [walkL]
  | d + 1, out, s, hd, hl => by
    refine Ev.step (fun _ => impl_HandWalk.l0.eq_2 ..) (Ev.tt (by omega) (Ev.bind (impl_HandStep_ev ..) (Ev.tt (by omega) ?_)))
    rw [wrap64_id (by omega) (by omega), show (((d + 1 : Nat) : Int) - 1) = (d : Int) by omega]
    refine Ev.eq (impl_walk_l0 w h o d _ (handI w h o s.1 s.2) (by omega) (by simp; omega)) ?_
    simp [walkL, toW]
theorem spec_walk_l0 (w h o : Int) (n : Nat) (hn : n ≤ 200) : ∀ (d i : Nat) (out : List S42) (s : Int × Int), i + d = n → out.length + d ≤ 1000 → Ev (fun k => spec_HandWalk.l0 k (n : Int) out i w h o s.1 s.2) (out ++ (walkL w h o d s).map toW)
  | 0, i, out, s, hd, hl => by
    refine Ev.step (fun _ => spec_HandWalk.l0.eq_2 ..) (Ev.ff (by omega) (Ev.ret ?_))
    simp [walkL]
  | d + 1, i, out, s, hd, hl => by
    refine Ev.step (fun _ => spec_HandWalk.l0.eq_2 ..) (Ev.tt (by omega) (Ev.bind (spec_HandStep_ev ..) (Ev.tt (by omega) ?_)))
    rw [wsucc (by omega)]
    refine Ev.eq (spec_walk_l0 w h o n hn d (i + 1) _ (handI w h o s.1 s.2) (by omega) (by simp; omega)) ?_
    simp [walkL, toW]
/-- A walk of n steps, or none. -/
def handWalkI (w h o c f n : Int) : List S42 := if walkerOk w h o c f = true ∧ 0 ≤ n ∧ n ≤ 200 then toW (c, f) :: (walkL w h o n.toNat (c, f)).map toW else []
theorem handWalkI_len (w h o c f n : Int) : (handWalkI w h o c f n).length ≤ 201 := by
  unfold handWalkI
  split
  · rename_i hc
    simp [walkL_len]; omega
  · simp
theorem impl_HandWalk_ev (w h o c f n : Int) : Ev (fun k => impl_HandWalk.f k w h o c f n) (handWalkI w h o c f n) := by
  have hj : Ev (fun k => impl_HandWalk.j0 k n true w h o c f) [] := Ev.step (fun _ => impl_HandWalk.j0.eq_2 ..) (Ev.tt rfl (Ev.ret rfl))
  unfold impl_HandWalk.f handWalkI
  refine Ev.bnd0 (impl_WalkerOk_eq w h o c f) ?_
  by_cases hw : walkerOk w h o c f = true
  · refine Ev.tt hw ?_
    by_cases h0 : n < 0
    · rw [if_neg (by omega)]
      exact Ev.tt h0 hj
    · refine Ev.ff h0 ?_
      by_cases h1 : n > 200
      · rw [if_neg (by omega), decide_eq_true h1]
        exact hj
      · rw [if_pos ⟨hw, by omega, by omega⟩, decide_eq_false h1]
        refine Ev.step (fun _ => impl_HandWalk.j0.eq_2 ..) (Ev.ff (by decide) ?_)
        have := impl_walk_l0 w h o n.toNat [toW (c, f)] (c, f) (by omega) (by simp; omega)
        rw [show ((n.toNat : Nat) : Int) = n by omega] at this
        simpa [toW] using this
  · rw [if_neg (fun hc => hw hc.1)]
    exact Ev.ff hw hj
theorem spec_HandWalk_ev (w h o c f n : Int) : Ev (fun k => spec_HandWalk.f k w h o c f n) (handWalkI w h o c f n) := by
  have hj : Ev (fun k => spec_HandWalk.j0 k n [] true w h o c f) [] := Ev.step (fun _ => spec_HandWalk.j0.eq_2 ..) (Ev.tt rfl (Ev.ret rfl))
  unfold spec_HandWalk.f handWalkI
  refine Ev.bnd0 rfl (Ev.bnd0 (spec_WalkerOk_eq w h o c f) ?_)
  by_cases hw : walkerOk w h o c f = true
  · refine Ev.tt hw (Ev.bnd0 (l01In_eq ..) ?_)
    by_cases h1 : 0 ≤ n ∧ n ≤ 200
    · rw [if_pos ⟨hw, h1⟩, decide_eq_true h1]
      refine Ev.step (fun _ => spec_HandWalk.j0.eq_2 ..) (Ev.ff (by decide) (Ev.tt (by simp) ?_))
      have := spec_walk_l0 w h o n.toNat (by omega) n.toNat 0 [toW (c, f)] (c, f) (by omega) (by simp; omega)
      rw [show ((n.toNat : Nat) : Int) = n by omega] at this
      simpa [toW] using this
    · rw [if_neg (fun hc => h1 hc.2), decide_eq_false h1]
      exact hj
  · rw [if_neg (fun hc => hw hc.1)]
    exact Ev.ff hw hj
theorem rdT_get {l : List S42} {i : Nat} (h : i < l.length) : rd_T42 l (i : Int) = l[i] := by simp [rd_T42, List.getD_eq_getElem?_getD, List.getElem?_eq_getElem h]
end Go.Proofs.Ytcajhmldbkfhiaa.P
namespace Go.Proofs.Ytcajhmldbkfhiaa.P
open Go.RowKit Go.Proofs.YtcajhmldbkfhiaaW.PrintWords
set_option linter.unusedVariables false
set_option linter.unusedSimpArgs false

/-- Connected by the edges of n. -/
inductive Cn (e : Nat → Nat × Nat) (n : Nat) : Nat → Nat → Prop
  | refl (x : Nat) : Cn e n x x
  | fwd {x : Nat} (k : Nat) : n.testBit k = true → Cn e n x (e k).1 → Cn e n x (e k).2
  | bwd {x : Nat} (k : Nat) : n.testBit k = true → Cn e n x (e k).2 → Cn e n x (e k).1
theorem Cn.trans {e : Nat → Nat × Nat} {n x y z : Nat} (h : Cn e n x y) (g : Cn e n y z) : Cn e n x z := by
  induction g with
  | refl => exact h
  | fwd k hk _ ih => exact .fwd k hk ih
  | bwd k hk _ ih => exact .bwd k hk ih
theorem Cn.edge {e : Nat → Nat × Nat} {n k : Nat} (h : n.testBit k = true) : Cn e n (e k).1 (e k).2 := .fwd k h (.refl _)
theorem Cn.edge' {e : Nat → Nat × Nat} {n k : Nat} (h : n.testBit k = true) : Cn e n (e k).2 (e k).1 := .bwd k h (.refl _)
theorem Cn.symm {e : Nat → Nat × Nat} {n x y : Nat} (h : Cn e n x y) : Cn e n y x := by
  induction h with
  | refl => exact .refl _
  | fwd k hk _ ih => exact (Cn.edge' hk).trans ih
  | bwd k hk _ ih => exact (Cn.edge hk).trans ih
theorem Cn.mono {e : Nat → Nat × Nat} {n m x y : Nat} (hm : ∀ i, n.testBit i = true → m.testBit i = true) (h : Cn e n x y) : Cn e m x y := by
  induction h with
  | refl => exact .refl _
  | fwd k hk _ ih => exact .fwd k (hm k hk) ih
  | bwd k hk _ ih => exact .bwd k (hm k hk) ih
def upd (D : Nat → Int) (y : Nat) (v : Int) : Nat → Int := fun c => if c = y then v else D c
/-- One direction of one cell. -/
def relax (s : Nat → Nat → Int) (x d : Nat) (S : (Nat → Int) × List Nat) : (Nat → Int) × List Nat :=
  if 0 ≤ s x d ∧ S.1 (s x d).toNat < 0 then (upd S.1 (s x d).toNat (S.1 x + 1), S.2 ++ [(s x d).toNat]) else S
def bround (s : Nat → Nat → Int) (x : Nat) (S : (Nat → Int) × List Nat) : (Nat → Int) × List Nat := relax s x 3 (relax s x 2 (relax s x 1 (relax s x 0 S)))
/-- Steps stay among v cells. -/
def Rng (s : Nat → Nat → Int) (v : Nat) : Prop := ∀ x d, x < v → d < 4 → s x d = -1 ∨ (0 ≤ s x d ∧ s x d < (v : Int))

structure BInv (s : Nat → Nat → Int) (v src : Nat) (S : (Nat → Int) × List Nat) (i : Nat) (m : Nat) : Prop where
  src0 : S.1 src = 0
  zero : ∀ c, S.1 c = 0 → c = src
  srcq : src ∈ S.2
  inr : ∀ c ∈ S.2, c < v
  nodup : S.2.Nodup
  neg : ∀ c, S.1 c = -1 ∨ 0 ≤ S.1 c
  mem : ∀ c, 0 ≤ S.1 c ↔ c ∈ S.2
  sorted : S.2.Pairwise (fun a b => S.1 a ≤ S.1 b)
  top : ∀ x, S.2[i]? = some x → ∀ c ∈ S.2, S.1 c ≤ S.1 x + 1
  done : ∀ j x, S.2[j]? = some x → ∀ d, d < 4 → (j < i ∨ (j = i ∧ d < m)) → 0 ≤ s x d → 0 ≤ S.1 (s x d).toNat ∧ S.1 (s x d).toNat ≤ S.1 x + 1
  pred : ∀ c ∈ S.2, c = src ∨ ∃ c' d, c' ∈ S.2 ∧ d < 4 ∧ s c' d = (c : Int) ∧ S.1 c = S.1 c' + 1
theorem BInv.relax {s : Nat → Nat → Int} {v src : Nat} (hs : Rng s v) {S : (Nat → Int) × List Nat} {i m x : Nat} (hm : m < 4) (hx : S.2[i]? = some x) (I : BInv s v src S i m) :
    BInv s v src (relax s x m S) i (m + 1) ∧ (relax s x m S).2[i]? = some x := by
  have hxq : x ∈ S.2 := List.mem_of_getElem? hx
  have hi : i < S.2.length := by
    rcases Nat.lt_or_ge i S.2.length with h | h
    · exact h
    · rw [List.getElem?_eq_none h] at hx; cases hx
  have hxv := I.inr x hxq
  have hx0 := (I.mem x).2 hxq
  unfold Go.Proofs.Ytcajhmldbkfhiaa.P.relax
  by_cases hc : 0 ≤ s x m ∧ S.1 (s x m).toNat < 0
  · rw [if_pos hc]
    obtain ⟨y, hy⟩ : ∃ y : Nat, s x m = y := ⟨(s x m).toNat, by omega⟩
    have hyv : y < v := by have := hs x m hxv hm; omega
    rw [hy] at hc ⊢
    simp only [Int.toNat_natCast] at hc ⊢
    have hyq : y ∉ S.2 := fun h => by have := (I.mem y).2 h; omega
    have keep : ∀ c, c ∈ S.2 → upd S.1 y (S.1 x + 1) c = S.1 c := by
      intro c h
      unfold upd
      rw [if_neg]
      rintro rfl
      exact hyq h
    have uy : upd S.1 y (S.1 x + 1) y = S.1 x + 1 := by unfold upd; rw [if_pos rfl]
    have idx : ∀ j z, (S.2 ++ [y])[j]? = some z → S.2[j]? = some z ∨ (j = S.2.length ∧ z = y) := by
      intro j z h
      rcases Nat.lt_or_ge j S.2.length with h1 | h1
      · rw [List.getElem?_append_left h1] at h; exact .inl h
      · rw [List.getElem?_append_right h1] at h
        have : j - S.2.length = 0 := by
          rcases Nat.eq_zero_or_pos (j - S.2.length) with h2 | h2
          · exact h2
          · rw [List.getElem?_eq_none (by simp only [List.length_singleton]; omega)] at h; cases h
        rw [this] at h
        simp at h
        exact .inr ⟨by omega, h.symm⟩
    have I0 : ∀ c, (upd S.1 y (S.1 x + 1), S.2 ++ [y]).1 c = 0 → c = src := by
      intro c
      show upd _ _ _ c = 0 → _
      unfold upd
      split
      · intro h; omega
      · exact I.zero c
    refine ⟨{ src0 := ?_, zero := I0, srcq := ?_, inr := ?_, nodup := ?_, neg := ?_, mem := ?_, sorted := ?_, top := ?_, done := ?_, pred := ?_ }, by rw [List.getElem?_append_left hi]; exact hx⟩
    · show upd _ _ _ src = 0
      rw [keep _ I.srcq]; exact I.src0
    · exact List.mem_append_left _ I.srcq
    · intro c hcq
      rcases List.mem_append.1 hcq with h | h
      · exact I.inr c h
      · simp at h; omega
    · rw [List.nodup_append]
      refine ⟨I.nodup, by simp, ?_⟩
      intro a ha b hb hab
      simp at hb
      subst hab hb
      exact hyq ha
    · intro c
      show upd _ _ _ c = -1 ∨ 0 ≤ upd _ _ _ c
      by_cases e : c = y
      · subst e; rw [uy]; omega
      · rw [show upd S.1 y (S.1 x + 1) c = S.1 c from if_neg e]; exact I.neg c
    · intro c
      rw [List.mem_append, List.mem_singleton]
      show 0 ≤ upd _ _ _ c ↔ _
      unfold upd
      by_cases e : c = y
      · rw [if_pos e]; exact ⟨fun _ => .inr e, fun _ => by omega⟩
      · rw [if_neg e, I.mem]; simp [e]
    · rw [List.pairwise_append]
      refine ⟨I.sorted.imp_of_mem fun {a b} ha hb h => ?_, by simp, ?_⟩
      · show upd _ _ _ a ≤ upd _ _ _ b
        rw [keep a ha, keep b hb]; exact h
      · intro a ha b hb
        simp at hb
        subst hb
        show upd _ _ _ a ≤ upd _ _ _ b
        rw [keep a ha, uy]
        exact I.top x hx a ha
    · intro z hz c hcq
      rw [List.getElem?_append_left hi, hx] at hz
      obtain rfl := Option.some.inj hz
      show upd _ _ _ c ≤ upd _ _ _ x + 1
      rw [keep x hxq]
      rcases List.mem_append.1 hcq with h | h
      · rw [keep c h]; exact I.top x hx c h
      · simp at h; subst h; rw [uy]; omega
    · intro j z hz d hd hj h0
      rcases idx j z hz with h | ⟨h, _⟩
      · have hzq : z ∈ S.2 := List.mem_of_getElem? h
        show 0 ≤ upd _ _ _ _ ∧ upd _ _ _ _ ≤ upd _ _ _ z + 1
        rw [keep z hzq]
        by_cases e : j = i ∧ d = m
        · obtain ⟨rfl, rfl⟩ := e
          rw [hx] at h
          obtain rfl := Option.some.inj h
          rw [hy, Int.toNat_natCast, uy]
          omega
        · have := I.done j z h d hd (by omega) h0
          have h1 := (I.mem _).1 this.1
          rw [keep _ h1]
          exact this
      · omega
    · intro c hcq
      rcases List.mem_append.1 hcq with h | h
      · rcases I.pred c h with h1 | ⟨c', d, h1, h2, h3, h4⟩
        · exact .inl h1
        · refine .inr ⟨c', d, List.mem_append_left _ h1, h2, h3, ?_⟩
          show upd _ _ _ c = upd _ _ _ c' + 1
          rw [keep c h, keep c' h1]; exact h4
      · simp at h
        subst h
        refine .inr ⟨x, m, List.mem_append_left _ hxq, hm, hy, ?_⟩
        show upd _ _ _ c = upd _ _ _ x + 1
        rw [uy, keep x hxq]
  · rw [if_neg hc]
    refine ⟨{ I with done := ?_ }, hx⟩
    intro j z hz d hd hj h0
    by_cases e : j = i ∧ d = m
    · obtain ⟨rfl, rfl⟩ := e
      rw [hx] at hz
      obtain rfl := Option.some.inj hz
      have h1 : 0 ≤ S.1 (s x d).toNat := by
        have := I.neg (s x d).toNat
        omega
      exact ⟨h1, I.top x hx _ ((I.mem _).1 h1)⟩
    · exact I.done j z hz d hd (by omega) h0
theorem BInv.next {s : Nat → Nat → Int} {v src : Nat} {S : (Nat → Int) × List Nat} {i x : Nat} (hx : S.2[i]? = some x) (I : BInv s v src S i 4) : BInv s v src S (i + 1) 0 :=
  { I with
    top := fun z hz c hc => by
      have h1 := I.top x hx c hc
      have h2 := List.pairwise_iff_getElem.1 I.sorted i (i + 1)
      obtain ⟨a, rfl⟩ := List.getElem?_eq_some_iff.1 hx
      obtain ⟨b, rfl⟩ := List.getElem?_eq_some_iff.1 hz
      have := h2 a b (by omega)
      omega
    done := fun j z hz d hd hj h0 => I.done j z hz d hd (by omega) h0 }
theorem BInv.round {s : Nat → Nat → Int} {v src : Nat} (hs : Rng s v) {S : (Nat → Int) × List Nat} {i x : Nat} (hx : S.2[i]? = some x) (I : BInv s v src S i 0) : BInv s v src (bround s x S) (i + 1) 0 := by
  obtain ⟨I1, h1⟩ := I.relax hs (by omega) hx
  obtain ⟨I2, h2⟩ := I1.relax hs (by omega) h1
  obtain ⟨I3, h3⟩ := I2.relax hs (by omega) h2
  obtain ⟨I4, h4⟩ := I3.relax hs (by omega) h3
  exact I4.next h4
theorem nodup_len {v : Nat} : ∀ {q : List Nat}, q.Nodup → (∀ c ∈ q, c < v) → q.length ≤ v := by
  induction v with
  | zero =>
    intro q _ h
    cases q with
    | nil => simp
    | cons a l => have := h a (by simp); omega
  | succ v ih =>
    intro q hn h
    have h1 := ih (q := q.erase v) (hn.erase v) (fun c hc => by
      have h1 := h c (List.mem_of_mem_erase hc)
      have : c ≠ v := by rintro rfl; exact absurd hc (List.Nodup.not_mem_erase hn)
      omega)
    have h2 := List.length_erase (a := v) (l := q)
    split at h2 <;> omega
theorem BInv.len {s : Nat → Nat → Int} {v src : Nat} {S : (Nat → Int) × List Nat} {i m : Nat} (I : BInv s v src S i m) : S.2.length ≤ v := nodup_len I.nodup I.inr
/-- What distances are. -/
structure Dist (s : Nat → Nat → Int) (v src : Nat) (D : Nat → Int) : Prop where
  src0 : D src = 0
  zero : ∀ c, D c = 0 → c = src
  neg : ∀ c, D c = -1 ∨ 0 ≤ D c
  inr : ∀ c, 0 ≤ D c → c < v
  lip : ∀ x d, d < 4 → 0 ≤ D x → 0 ≤ s x d → 0 ≤ D (s x d).toNat ∧ D (s x d).toNat ≤ D x + 1
  pred : ∀ c, 0 < D c → ∃ c' d, d < 4 ∧ s c' d = (c : Int) ∧ 0 ≤ D c' ∧ D c = D c' + 1
/-- Steps are the edges of n. -/
structure Net (s : Nat → Nat → Int) (e : Nat → Nat × Nat) (v n : Nat) : Prop where
  rng : Rng s v
  edge : ∀ x d, x < v → d < 4 → 0 ≤ s x d → ∃ k, n.testBit k = true ∧ (e k = (x, (s x d).toNat) ∨ e k = ((s x d).toNat, x))
  lt : ∀ k, n.testBit k = true → (e k).1 < v ∧ (e k).2 < v
  fwd : ∀ k, n.testBit k = true → ∃ d, d < 4 ∧ s (e k).1 d = ((e k).2 : Int)
  bwd : ∀ k, n.testBit k = true → ∃ d, d < 4 ∧ s (e k).2 d = ((e k).1 : Int)
def cellsN (w h : Int) : Nat := (cellsOf w h).toNat
theorem cellsN_cast (w h : Int) : ((cellsN w h : Nat) : Int) = cellsOf w h := by have := cellsOf_range w h; unfold cellsN; omega
theorem cellsN_le (w h : Int) : cellsN w h ≤ 16 := by have := cellsOf_range w h; unfold cellsN; omega
def st (w h : Int) (n : Nat) (c d : Nat) : Int := stepI w h n c d
theorem ordF_range {N : Nat} {l : List Int} (h : ∀ z ∈ l, 0 ≤ z ∧ z < N) : ordF l = ((List.range N).filter fun (k : Nat) => decide ((k : Int) ∈ l)).map fun (k : Nat) => (k : Int) := by
  refine asc_unique (ordF_sorted l) ?_ fun z => ?_
  · rw [List.pairwise_map]
    have : ((List.range N).filter fun (k : Nat) => decide ((k : Int) ∈ l)).Pairwise (· < ·) := List.Pairwise.filter _ List.pairwise_lt_range
    exact this.imp fun {a b} hab => by omega
  · rw [ordF_mem, List.mem_map]
    constructor
    · intro hz
      have := h z hz
      refine ⟨z.toNat, ?_, by omega⟩
      rw [List.mem_filter, List.mem_range, decide_eq_true_eq, show ((z.toNat : Nat) : Int) = z by omega]
      exact ⟨by omega, hz⟩
    · rintro ⟨k, hk, rfl⟩
      rw [List.mem_filter, decide_eq_true_eq] at hk
      exact hk.2
end Go.Proofs.Ytcajhmldbkfhiaa.P
namespace Go.Proofs.Ytcajhmldbkfhiaa.P
open Go.RowKit Go.Proofs.YtcajhmldbkfhiaaW.PrintWords Go.Proofs.Ytcajhmldbkfhiaa.Sup
set_option linter.unusedVariables false
set_option linter.unusedSimpArgs false

theorem step_in {w h c d : Int} {n : Nat} (h0 : 0 ≤ stepI w h n c d) : stepI w h n c d < cellsOf w h := by
  unfold stepI at *
  rcases step_facts w h c d with ⟨f1, f2⟩ | ⟨f1, f2, _⟩
  · rw [f1] at h0 ⊢
    split at h0 <;> omega
  · split
    · exact f2
    · omega
theorem try_in {w h c f : Int} {n : Nat} (hc : 0 ≤ c ∧ c < cellsOf w h) : ∀ l : List Int, 0 ≤ (handTry (stepI w h n c) c f l).1 ∧ (handTry (stepI w h n c) c f l).1 < cellsOf w h
  | [] => hc
  | t :: ts => by
    unfold handTry
    split
    · rename_i h1; exact ⟨h1, step_in h1⟩
    · exact try_in hc ts
theorem walk_in {w h o : Int} : ∀ (d : Nat) (s : Int × Int), (0 ≤ s.1 ∧ s.1 < cellsOf w h) → ∀ z ∈ walkL w h o d s, 0 ≤ z.1 ∧ z.1 < cellsOf w h
  | 0, s, hs, z, hz => by simp [walkL] at hz
  | d + 1, s, hs, z, hz => by
    have h1 : 0 ≤ (handI w h o s.1 s.2).1 ∧ (handI w h o s.1 s.2).1 < cellsOf w h := by
      unfold handI
      split
      · exact try_in hs _
      · exact hs
    unfold walkL at hz
    rcases List.mem_cons.1 hz with rfl | hz
    · exact h1
    · exact walk_in d _ h1 z hz
theorem handWalk_in {w h o c f n : Int} : ∀ z : Int, z ∈ (handWalkI w h o c f n).map (fun s => s.f0) → 0 ≤ z ∧ z < (cellsN w h : Int) := by
  intro z hz
  obtain ⟨s, hs, rfl⟩ := List.mem_map.1 hz
  unfold handWalkI at hs
  split at hs
  · rename_i hk
    have hk := hk.1
    unfold walkerOk at hk
    simp only [Bool.and_eq_true] at hk
    have hc := hk.1.2
    unfold isCellI at hc
    have hc := of_decide_eq_true hc
    rw [cellsN_cast]
    rcases List.mem_cons.1 hs with rfl | hs
    · exact hc
    · obtain ⟨q, hq, rfl⟩ := List.mem_map.1 hs
      exact walk_in _ _ hc q hq
  · cases hs
theorem implCells_l0 (L : List S42) (hL : L.length ≤ 1000) : ∀ (d i : Nat) (out : List Int), i + d = L.length → out.length = i → (out = (L.take i).map fun s => s.f0) → Ev (fun k => impl_CellsVisited.l0 k out L (L.length : Int) i) (ordF (L.map fun s => s.f0))
  | 0, i, out, hd, ho, he => by
    refine Ev.step (fun _ => impl_CellsVisited.l0.eq_2 ..) (Ev.ff (by omega) ?_)
    unfold impl_ordered.f
    rw [if_pos (by omega), he, List.take_of_length_le (by omega)]
    exact Ev.ret rfl
  | d + 1, i, out, hd, ho, he => by
    refine Ev.step (fun _ => impl_CellsVisited.l0.eq_2 ..) (Ev.tt (by omega) (Ev.tt (by omega) (Ev.tt (by omega) (Ev.tt (by omega) ?_))))
    rw [rdT_get (show i < L.length by omega), wsucc (by omega)]
    refine implCells_l0 L hL d (i + 1) _ (by omega) (by rw [List.length_append]; simp; omega) ?_
    rw [List.take_succ_eq_append_getElem (by omega), List.map_append, he]
    rfl
theorem specCells_l1 (L : List S42) (hL : L.length ≤ 1000) (w h o : Int) (out : List Int) (hout : out.length ≤ 1000) (c : Nat) (hc : c < 1000) {r : List Int} :
    ∀ (d i : Nat) (b : Bool), i + d = L.length → b = decide ((c : Int) ∈ (L.take i).map fun s => s.f0) →
    Ev (fun k => spec_CellsVisited.l0 k (if (c : Int) ∈ L.map (fun s => s.f0) then out ++ [(c : Int)] else out) L ((c + 1 : Nat) : Int) w h o) r →
    Ev (fun k => spec_CellsVisited.l1 k out L c b i w h o) r
  | 0, i, b, hd, hb, hr => by
    rw [List.take_of_length_le (by omega)] at hb
    refine Ev.step (fun _ => spec_CellsVisited.l1.eq_2 ..) (Ev.ff (by omega) ?_)
    rw [wsucc (by omega)]
    by_cases hm : (c : Int) ∈ L.map fun s => s.f0
    · rw [if_pos hm] at hr
      rw [hb, decide_eq_true hm]
      exact Ev.tt rfl (Ev.tt (by omega) hr)
    · rw [if_neg hm] at hr
      rw [hb, decide_eq_false hm]
      exact Ev.ff (by simp) hr
  | d + 1, i, b, hd, hb, hr => by
    have hs : (L.take (i + 1)).map (fun s => s.f0) = (L.take i).map (fun s => s.f0) ++ [(L[i]'(by omega)).f0] := by
      rw [List.take_succ_eq_append_getElem (by omega), List.map_append]; rfl
    refine Ev.step (fun _ => spec_CellsVisited.l1.eq_2 ..) (Ev.tt (by omega) (Ev.ite (fun e => ?_) (fun e => Ev.tt (by omega) ?_)))
    · rw [wsucc (by omega)]
      refine specCells_l1 L hL w h o out hout c hc d (i + 1) true (by omega) ?_ hr
      rw [hb, decide_eq_true_eq] at e
      rw [hs]
      exact (decide_eq_true (List.mem_append_left _ e)).symm
    · rw [wsucc (by omega), rdT_get (show i < L.length by omega)]
      refine specCells_l1 L hL w h o out hout c hc d (i + 1) _ (by omega) ?_ hr
      rw [hb, decide_eq_true_eq] at e
      rw [hs, Bool.eq_iff_iff, decide_eq_true_eq, beq_iff_eq, List.mem_append, List.mem_singleton]
      constructor
      · intro h1; exact .inr h1.symm
      · rintro (h1 | h1)
        · exact absurd h1 e
        · exact h1.symm
theorem specCells_l0 (L : List S42) (hL : L.length ≤ 1000) (w h o : Int) : ∀ (d c : Nat) (out : List Int), c + d = cellsN w h → out.length ≤ c → Ev (fun k => spec_CellsVisited.l0 k out L c w h o) (out ++ ((List.range' c d).filter fun (k : Nat) => decide ((k : Int) ∈ L.map fun s => s.f0)).map fun (k : Nat) => (k : Int))
  | 0, c, out, hd, ho => by
    have hV := cellsN_cast w h
    refine Ev.step (fun _ => spec_CellsVisited.l0.eq_2 ..) (Ev.bnd0 (spec_CountCells_eq w h) (Ev.ff (by omega) (Ev.ret ?_)))
    simp
  | d + 1, c, out, hd, ho => by
    have hV := cellsN_cast w h
    have h16 := cellsN_le w h
    refine Ev.step (fun _ => spec_CellsVisited.l0.eq_2 ..) (Ev.bnd0 (spec_CountCells_eq w h) (Ev.tt (by omega) ?_))
    refine specCells_l1 L hL w h o out (by omega) c (by omega) L.length 0 false (by omega) (by simp) ?_
    refine Ev.eq (specCells_l0 L hL w h o d (c + 1) _ (by omega) ?_) ?_
    · split
      · rw [List.length_append]; simp; omega
      · omega
    · rw [List.range'_succ, List.filter_cons]
      by_cases hm : (c : Int) ∈ L.map fun s => s.f0
      · rw [if_pos hm, if_pos (decide_eq_true hm)]; simp
      · rw [if_neg hm, if_neg (by simpa using hm)]
theorem FnExactCellsVisited_pure (a0_0 a0_1 a0_2 : Int) (w0_0 : InR a0_0) (w0_1 : InR a0_1) (w0_2 : InR a0_2) (a1_0 a1_1 : Int) (w1_0 : InR a1_0) (w1_1 : InR a1_1) : ∃ k, laws_FnExactCellsVisited.f k a0_0 a0_1 a0_2 a1_0 a1_1 = some true := by
  refine Ev.rounds ?_
  have key : ∃ r : List Int, r.length ≤ 1000 ∧ Ev (fun k => impl_CellsVisited.f k a0_0 a0_1 a0_2 a1_0 a1_1) r ∧ Ev (fun k => spec_CellsVisited.f k a0_0 a0_1 a0_2 a1_0 a1_1) r := by
    have hl := handWalkI_len a0_0 a0_1 a0_2 a1_0 a1_1 200
    have hi := impl_HandWalk_ev a0_0 a0_1 a0_2 a1_0 a1_1 200
    have hs := spec_HandWalk_ev a0_0 a0_1 a0_2 a1_0 a1_1 200
    have hr := @handWalk_in a0_0 a0_1 a0_2 a1_0 a1_1 200
    generalize handWalkI a0_0 a0_1 a0_2 a1_0 a1_1 200 = L at *
    refine ⟨ordF (L.map fun s => s.f0), ?_, ?_, ?_⟩
    · have := ordF_len_le (L.map fun s => s.f0)
      rw [List.length_map] at this
      omega
    · unfold impl_CellsVisited.f
      exact Ev.bind hi (implCells_l0 L (by omega) L.length 0 [] (by omega) rfl (by simp))
    · unfold spec_CellsVisited.f
      refine Ev.bind hs (Ev.eq (specCells_l0 L (by omega) a0_0 a0_1 a0_2 (cellsN a0_0 a0_1) 0 [] (by omega) (by simp)) ?_)
      rw [ordF_range hr, List.range_eq_range', List.nil_append]
  obtain ⟨r, hr, hi, hs⟩ := key
  unfold laws_FnExactCellsVisited.f
  refine Ev.bnd0 (show laws_toMaze.f a0_0 a0_1 a0_2 = some (a0_0, a0_1, a0_2) from rfl) (Ev.bnd0 (show laws_toWalker.f a1_0 a1_1 = some (a1_0, a1_1) from rfl) (Ev.bind hs ?_))
  refine Ev.bnd0 (show laws_toMaze.f a0_0 a0_1 a0_2 = some (a0_0, a0_1, a0_2) from rfl) (Ev.bnd0 (show laws_toWalker.f a1_0 a1_1 = some (a1_0, a1_1) from rfl) (Ev.bind hi ?_))
  refine Ev.bind (eqIntS_ev _ _ (by omega)) (Ev.tt (by simp) ?_)
  refine Ev.bind (markIntS_ev r (by omega)) (Ev.bind (heldIntS_ev _ (by omega)) (Ev.ff (by omega) (Ev.tt rfl ?_)))
  refine Ev.bnd0 (show laws_toMaze.f a0_0 a0_1 a0_2 = some (a0_0, a0_1, a0_2) from rfl) (Ev.bnd0 (show laws_toWalker.f a1_0 a1_1 = some (a1_0, a1_1) from rfl) (Ev.bind hi ?_))
  refine Ev.bind (eqIntS_ev _ _ (by omega)) (Ev.tt (by simp) (Ev.bind (heldIntS_ev _ (by omega)) (Ev.ff (by omega) (Ev.tt rfl (Ev.ret rfl)))))
end Go.Proofs.Ytcajhmldbkfhiaa.P
namespace Go.Proofs.Ytcajhmldbkfhiaa.fnExactCellsVisited
open Go.ChangeShapes Go.WideShapes Go.ChangeAt Go.RowKit Go.Proofs.YtcajhmldbkfhiaaW.PrintWords Go.Proofs.Ytcajhmldbkfhiaa.Sup
open Go.ChangeMaps (open_string shut_string)
set_option linter.unusedVariables false
theorem own : ownKnob Try.prog.godebug = none := by kernel_rfl
theorem laidOut : laidOutB Try.prog = true := by kernel_rfl
set_option maxRecDepth 100000 in
theorem lifted (os : Os) (started : os.Started) (H : Type) (enc : TypeId × Value → H) :
    ReturnsInHanded {} Try.checked os 7 .any (Rows.fnExactCellsVisitedSpec.pre6 enc Try.prog Try.f7 Rows.fnExactCellsVisitedRow.domain false) (Rows.fnExactCellsVisitedSpec.post enc Try.prog Try.f7 false true false false) := by
  refine returnsInHanded_of_change_sized (C := Try.checked) own started (by kernel_rfl) Try.func7
    (ChangeSpec.witness6 (enc := enc) (C := Try.checked) false ⟨#[], #[.agg #[.int .i64 0, .int .i64 0, .int .i64 0], .agg #[.int .i64 0, .int .i64 0]], []⟩ 8 (by kernel_rfl) (by kernel_rfl) (by kernel_rfl) (by kernel_rfl)) ?_
  intro W base args ds gs before hval0 hW hcnd hsz0 _
  have hsz : (DataW.weightsEach Try.prog (Try.f7.params.toList ++ Rows.fnExactCellsVisitedSpec.plain.varTypes Try.prog) (ds ++ gs)).all (· ≤ reachBytes) = true := hsz0
  have hval : ∀ (j : Nat) t v, Try.f7.params[j]? = some t → args[j]? = some v → Value.okWide Try.prog W .any base t v := hval0
  have hW' := hW
  obtain ⟨p, q, hA0, hV, rfl, hfz, hnd⟩ := hW
  have hA : DataW.TrodAll enc Try.prog W 0 (fun _ => true) true Try.f7.params.toList args.toList ds p := hA0
  rw [Try.params7] at hA hval hsz
  obtain ⟨v0, vs0, d0, ds0, p0, q0, hargs, rfl, rfl, h0, r0⟩ := trodAll_cons hA
  obtain ⟨v1, vs1, d1, ds1, p1, q1, rfl, rfl, rfl, h1, r1⟩ := trodAll_cons r0
  obtain ⟨rfl, rfl, rfl⟩ := trodAll_nil r1
  obtain rfl : args = #[v0, v1] := by cases args; simp_all
  obtain ⟨rfl, rfl⟩ := trodVars_none hV
  have k0 := h0
  have lt0 : ∀ x ∈ p0, x.block < W.heap.size := by obtain ⟨m, hm⟩ := k0; exact DataW.trod_lt m _ _ _ hm
  obtain ⟨a0_0, a0_1, a0_2, rfl, w0_0, w0_1, w0_2⟩ := open3 Try.underlying29 Try.underlying27 (by kernel_rfl) (by kernel_rfl) (by kernel_rfl) rfl rfl rfl rfl (by kernel_rfl) (by kernel_rfl) (by kernel_rfl) (by kernel_rfl) (by kernel_rfl) (hval 0 29 v0 rfl rfl) h0
  have k1 := h1
  have lt1 : ∀ x ∈ p1, x.block < W.heap.size := by obtain ⟨m, hm⟩ := k1; exact DataW.trod_lt m _ _ _ hm
  obtain ⟨a1_0, a1_1, rfl, w1_0, w1_1⟩ := open2 Try.underlying56 (by kernel_rfl) (by kernel_rfl) rfl rfl (by kernel_rfl) (by kernel_rfl) (by kernel_rfl) (hval 1 56 v1 rfl rfl) h1
  clear hA0 hval0 hsz0 hsz
  obtain ⟨k, hf⟩ := P.FnExactCellsVisited_pure a0_0 a0_1 a0_2 w0_0 w0_1 w0_2 a1_0 a1_1 w1_0 w1_1
  refine (P.laws_FnExactCellsVisited.calls k a0_0 a0_1 a0_2 a1_0 a1_1 true W  hf).mono fun e W' ⟨he, bel0⟩ => ?_
  have bel : Below W.heap.size W W' := bel0
  subst he
  exact ⟨_, rfl, _, _, _, [], _, [], hW', trodAll_mk1 (shut_bool Try.underlying4 _), (trodAll_cons_mk (Below.trod laidOut (by kernel_rfl) (of_decide_eq_true (by kernel_rfl)) k0 bel lt0) (trodAll_cons_mk (Below.trod laidOut (by kernel_rfl) (of_decide_eq_true (by kernel_rfl)) k1 bel lt1) trodAll_mk0)), rfl, bel.frame _, fun h => by cases h⟩
theorem over : Rows.fnExactCellsVisitedRow.holds Try.pinned (OpenSpec.ofChange Rows.fnExactCellsVisitedSpec) :=
  OpenClaim.holds_of_wide 7 Try.f7 rfl rfl rfl rfl rfl rfl rfl ⟨rfl, rfl, rfl, rfl, rfl⟩ rfl rfl rfl rfl rfl (by kernel_rfl) Try.func7 (by kernel_rfl)
    (of_decide_eq_true (by kernel_rfl)) (by unfold Func.isWrapper; first | (rw [if_pos (by decide +kernel)]; kernel_rfl) | (rw [if_neg (by decide +kernel)]; exact ⟨rfl, rfl⟩))
    (fun os started H enc _ => lifted os started H enc)
theorem proved : Rows.FnExactCellsVisitedSaid := over
end Go.Proofs.Ytcajhmldbkfhiaa.fnExactCellsVisited
namespace Go.Proofs.Ytcajhmldbkfhiaa
/-- The row, under a short name, for the claim. -/
theorem fnExactCellsVisited_holds : Rows.FnExactCellsVisitedSaid := fnExactCellsVisited.proved
#print axioms fnExactCellsVisited_holds
end Go.Proofs.Ytcajhmldbkfhiaa
