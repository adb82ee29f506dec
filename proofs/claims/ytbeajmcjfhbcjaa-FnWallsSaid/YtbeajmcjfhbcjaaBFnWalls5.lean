/- The statement FnWalls of the seat, out of its plain form (FnWalls_pure) and the walk of its Go function. Part 5 of 5: each Go function's walk, then the plain lemmas, then the row. No condition: it holds for every input. -/
import Derived.Test.YtbeajmcjfhbcjaaBFnWalls4
import Derived.Test.YtbeajmcjfhbcjaaRows
import Derived.Below
import Derived.ChangeOld
import Derived.Deep.Matrix
import Derived.Lib.SmallJoins
import Derived.OpenShut
import Derived.ProofKit
import Derived.ShutString
import Derived.SizedLaws
import Derived.WalkKit
namespace Go.Proofs.Ytbeajmcjfhbcjaa.Sup
open Go.ChangeShapes Go.WideShapes Go.ChangeAt Go.RowKit Go.Joins Go.Proofs.YtbeajmcjfhbcjaaW.PrintWords
set_option linter.unusedVariables false
set_option linter.unusedSimpArgs false

theorem u8_of_wf {a : Int} (h : (Lit.int .u8 a).wf = true) : 0 ≤ a ∧ a ≤ 255 := by
  simp only [Lit.wf, IntKind.min, IntKind.max, IntKind.signed, IntKind.bits, Bool.and_eq_true, decide_eq_true_eq] at h
  simp at h
  omega

section
variable {H : Type} {enc : TypeId × Value → H} {P : Program} {w : World} {base : Nat} {spare : Nat → Bool} {held : Bool}

end

def IsRow (k : IntKind) (w : World) (a : Option Addr) (len cap : Nat) (zs : List Int) : Prop :=
  (a = none ∧ len = 0 ∧ cap = 0 ∧ zs = []) ∨
  ∃ x, a = some x ∧ len ≤ cap ∧ cap ≤ maxLen ∧ zs.length = cap ∧ (∀ i, i < zs.length → w.cell? (x.add i) = some (.int k (zs.getD i 0))) ∧ ∀ n ∈ zs, (Lit.int k n).wf = true

end Go.Proofs.Ytbeajmcjfhbcjaa.Sup
namespace Go.Proofs.Ytbeajmcjfhbcjaa.P
open Go.RowKit Go.Proofs.YtbeajmcjfhbcjaaW.PrintWords
set_option linter.unusedVariables false
set_option linter.unusedSimpArgs false

theorem l01In_eq (a b c : Int) : spec_l01In.f a b c = some (decide (b ≤ a ∧ a ≤ c)) := by
  unfold spec_l01In.f
  by_cases h : a ≥ b
  · rw [if_pos h]; congr 1; simp; omega
  · rw [if_neg h]; congr 1; simp; omega

end Go.Proofs.Ytbeajmcjfhbcjaa.P
namespace Go.Proofs.Ytbeajmcjfhbcjaa.P
open Go.RowKit Go.Proofs.YtbeajmcjfhbcjaaW.PrintWords Go.Proofs.Ytbeajmcjfhbcjaa.Sup
set_option linter.unusedVariables false
set_option linter.unusedSimpArgs false

theorem spec_GridOk_eq (w h : Int) : spec_GridOk.f w h = some (gridOk w h) := by
  unfold spec_GridOk.f
  simp only [l01In_eq, Option.bind_some]
  unfold gridOk
  by_cases h1 : 1 ≤ w ∧ w ≤ 4
  · simp only [h1, and_self, decide_true, if_true, true_and]
  · have : ¬ (1 ≤ w ∧ w ≤ 4 ∧ 1 ≤ h ∧ h ≤ 4) := by omega
    rw [decide_eq_false h1, decide_eq_false this]; simp
theorem impl_GridOk_eq (w h : Int) : impl_GridOk.f w h = some (gridOk w h) := by
  unfold impl_GridOk.f gridOk
  repeat' split
  all_goals congr 1
  all_goals first | (rw [decide_eq_decide]; omega) | (symm; rw [decide_eq_false_iff_not]; omega)

theorem impl_CountCells_eq (w h : Int) : impl_CountCells.f w h = some (cellsOf w h) := by
  unfold impl_CountCells.f
  rw [impl_GridOk_eq, Option.bind_some]
  have := cellsOf_range w h
  unfold cellsOf at *
  by_cases hg : gridOk w h = true
  · rw [if_pos hg] at *
    rw [if_pos hg, wrap64_id (by omega) (by omega)]
  · rw [if_neg hg, if_neg hg]
theorem spec_CountCells_eq (w h : Int) : spec_CountCells.f w h = some (cellsOf w h) := by
  unfold spec_CountCells.f
  rw [spec_GridOk_eq, Option.bind_some]
  have := cellsOf_range w h
  unfold cellsOf at *
  by_cases hg : gridOk w h = true
  · rw [if_pos hg] at *
    rw [if_pos hg, wrap64_id (by omega) (by omega)]
  · rw [if_neg hg, if_neg hg]
theorem impl_CountGaps_eq (w h : Int) : impl_CountGaps.f w h = some (gapsOf w h) := by
  unfold impl_CountGaps.f
  rw [impl_GridOk_eq, Option.bind_some]
  unfold gapsOf
  by_cases hg : gridOk w h = true
  · rw [if_pos hg, if_pos hg]
    obtain ⟨h1 | h1 | h1 | h1, h2 | h2 | h2 | h2⟩ := grid_cases hg <;> subst h1 <;> subst h2 <;> simp [wrap64, eastOf]
  · rw [if_neg hg, if_neg hg]
theorem spec_l02East_eq {w h : Int} (hg : gridOk w h = true) : spec_l02East.f w h = some (eastOf w h) := by
  unfold spec_l02East.f eastOf
  obtain ⟨h1 | h1 | h1 | h1, h2 | h2 | h2 | h2⟩ := grid_cases hg <;> subst h1 <;> subst h2 <;> simp [wrap64, eastOf]
theorem spec_CountGaps_eq (w h : Int) : spec_CountGaps.f w h = some (gapsOf w h) := by
  unfold spec_CountGaps.f
  rw [spec_GridOk_eq, Option.bind_some]
  unfold gapsOf
  by_cases hg : gridOk w h = true
  · rw [if_pos hg, if_pos hg, spec_l02East_eq hg, Option.bind_some]
    obtain ⟨h1 | h1 | h1 | h1, h2 | h2 | h2 | h2⟩ := grid_cases hg <;> subst h1 <;> subst h2 <;> simp [wrap64, eastOf]
  · rw [if_neg hg, if_neg hg]

/-- 2 to the power of a small number. -/
theorem shl_one {n : Int} (h0 : 0 ≤ n) (h1 : n ≤ 24) : shl .i64 1 n = 2 ^ n.toNat := by
  obtain ⟨m, rfl⟩ := Int.eq_ofNat_of_zero_le h0
  have : m ≤ 24 := by omega
  clear h0 h1
  revert m
  decide +kernel
end Go.Proofs.Ytbeajmcjfhbcjaa.P
namespace Go.Proofs.Ytbeajmcjfhbcjaa.P
open Go.RowKit Go.Proofs.YtbeajmcjfhbcjaaW.PrintWords Go.Proofs.YtbeajmcjfhbcjaaW.PrintLast Go.Proofs.YtbeajmcjfhbcjaaW.PrintMore
attribute [local go_sem] max2_int min2_int max_two min_two max_three min_three max_four min_four   -- for this text's walks alone
set_option linter.unusedVariables false
set_option linter.unusedSimpArgs false

/-! ### spec_Neighbor: function 81 -/
end Go.Proofs.Ytbeajmcjfhbcjaa.P
namespace Go.Proofs.Ytbeajmcjfhbcjaa.P
open Go.RowKit Go.Proofs.YtbeajmcjfhbcjaaW.PrintWords
set_option linter.unusedVariables false
set_option linter.unusedSimpArgs false

theorem impl_isCell_eq (w h c : Int) : impl_isCell.f w h c = some (isCellI w h c) := by
  unfold impl_isCell.f isCellI
  rw [impl_CountCells_eq]
  by_cases hc : c ≥ 0
  · rw [if_pos hc, Option.bind_some]; congr 1; rw [decide_eq_decide]; omega
  · rw [if_neg hc]; congr 1; symm; rw [decide_eq_false_iff_not]; omega
theorem impl_Neighbor_ev (w h c d : Int) : Ev (fun k => impl_Neighbor.f k w h c d) (nbI w h c d) := by
  unfold impl_Neighbor.f nbI
  refine Ev.bnd0 (impl_isCell_eq w h c) ?_
  unfold isCellI
  by_cases hc : 0 ≤ c ∧ c < cellsOf w h
  · rw [if_pos hc]
    obtain ⟨hg, hcw⟩ := cellsOf_valid hc.1 hc.2
    have hcr := cellsOf_range w h
    have hgr := gridOk_iff.1 hg
    refine Ev.tt (by simpa using hc) (Ev.ff (by omega) ?_)
    have hx0 : 0 ≤ c % w := Int.emod_nonneg _ (by omega)
    have hx1 : c % w < w := Int.emod_lt_of_pos _ (by omega)
    have hy0 : 0 ≤ c / w := Int.ediv_nonneg hc.1 (by omega)
    have hy1 : c / w ≤ c := Int.ediv_le_self _ hc.1
    rw [Int.tmod_eq_emod_of_nonneg hc.1, Int.tdiv_eq_ediv_of_nonneg hc.1, wrap64_id (x := c / w) (by omega) (by omega)]
    generalize c % w = x at *
    generalize c / w = y at *
    have j2 : ∀ b : Bool, (d ≠ 0 ∨ ¬ 0 < y) → (d ≠ 1 ∨ ¬ x < w - 1) → (b = true ↔ d = 2 ∧ y < h - 1) → Ev (fun k => impl_Neighbor.j2 k c d x b w h) (if d = 2 ∧ y < h - 1 then c + w else if d = 3 ∧ 0 < x then c - 1 else -1) := by
      intro b _ _ hb
      refine Ev.step (fun _ => impl_Neighbor.j2.eq_2 ..) ?_
      refine Ev.ite (fun e => ?_) (fun e => ?_)
      · rw [if_pos (hb.1 e), wrap64_id (by omega) (by omega)]; exact Ev.ret rfl
      · rw [if_neg (fun h => e (hb.2 h))]
        refine Ev.ite (fun e3 => Ev.ite (fun e4 => ?_) (fun e4 => ?_)) (fun e3 => ?_)
        · rw [if_pos ⟨e3, e4⟩, wrap64_id (by omega) (by omega)]; exact Ev.ret rfl
        · rw [if_neg (fun h => e4 h.2)]; exact Ev.ret rfl
        · rw [if_neg (fun h => e3 h.1)]; exact Ev.ret rfl
    have j1 : ∀ b : Bool, (d ≠ 0 ∨ ¬ 0 < y) → (b = true ↔ d = 1 ∧ x < w - 1) → Ev (fun k => impl_Neighbor.j1 k c d x y b w h) (if d = 1 ∧ x < w - 1 then c + 1 else if d = 2 ∧ y < h - 1 then c + w else if d = 3 ∧ 0 < x then c - 1 else -1) := by
      intro b h0 hb
      refine Ev.step (fun _ => impl_Neighbor.j1.eq_2 ..) ?_
      refine Ev.ite (fun e => ?_) (fun e => ?_)
      · rw [if_pos (hb.1 e), wrap64_id (by omega) (by omega)]; exact Ev.ret rfl
      · have hn : ¬ (d = 1 ∧ x < w - 1) := fun h => e (hb.2 h)
        rw [if_neg hn]
        refine Ev.ite (fun e2 => ?_) (fun e2 => ?_)
        · refine j2 _ h0 (by omega) ?_
          rw [wrap64_id (by omega) (by omega)]
          simp [e2]
        · exact j2 _ h0 (by omega) (by simp [e2])
    have j0 : ∀ b : Bool, (b = true ↔ d = 0 ∧ 0 < y) → Ev (fun k => impl_Neighbor.j0 k c d x y b w h) (if d = 0 ∧ 0 < y then c - w else if d = 1 ∧ x < w - 1 then c + 1 else if d = 2 ∧ y < h - 1 then c + w else if d = 3 ∧ 0 < x then c - 1 else -1) := by
      intro b hb
      refine Ev.step (fun _ => impl_Neighbor.j0.eq_2 ..) ?_
      refine Ev.ite (fun e => ?_) (fun e => ?_)
      · rw [if_pos (hb.1 e), wrap64_id (by omega) (by omega)]; exact Ev.ret rfl
      · have hn : ¬ (d = 0 ∧ 0 < y) := fun h => e (hb.2 h)
        rw [if_neg hn]
        refine Ev.ite (fun e2 => ?_) (fun e2 => ?_)
        · refine j1 _ (by omega) ?_
          rw [wrap64_id (by omega) (by omega)]
          simp [e2]
        · exact j1 _ (by omega) (by simp [e2])
    refine Ev.ite (fun e => ?_) (fun e => ?_)
    · exact j0 _ (by simp [e])
    · exact j0 _ (by simp [e])
  · rw [if_neg hc]
    exact Ev.ff (by simpa using hc) (Ev.ret rfl)
theorem impl_MazeOk_eq (w h o : Int) : impl_MazeOk.f w h o = some (mazeOk w h o) := by
  have hc := gapsOf_range w h
  unfold impl_MazeOk.f mazeOk gapsN
  rw [impl_GridOk_eq, Option.bind_some]
  cases hg : gridOk w h
  · simp
  · rw [if_pos rfl, impl_CountGaps_eq, Option.bind_some, if_pos hc.1, shl_one hc.1 hc.2]
    simp only [Bool.true_and]
    split
    · congr 1; rw [decide_eq_decide]; omega
    · congr 1; symm; rw [decide_eq_false_iff_not]; omega
theorem impl_isOpen_eq (w h : Int) {n : Nat} (hn : n < 16777216) (g : Int) : impl_isOpen.f w h n g = some (openI n g) := by
  unfold impl_isOpen.f openI
  by_cases hg : g ≥ 0
  · rw [if_pos hg, if_pos hg]
    obtain ⟨m, rfl⟩ := Int.eq_ofNat_of_zero_le hg
    rw [bit_one (by omega)]
    simp
  · rw [if_neg hg]
    simp; omega
/-! Sixteen small graphs: facts that are looked through -/
theorem impl_GapAt_ev (w h c d : Int) : Ev (fun k => impl_GapAt.f k w h c d) (gapI w h c d) := by
  unfold impl_GapAt.f gapI
  refine Ev.bind (impl_Neighbor_ev w h c d) ?_
  by_cases hn : nbI w h c d < 0
  · rw [if_pos hn, if_pos hn]
    exact Ev.ret rfl
  · rw [if_neg hn, if_neg hn]
    obtain ⟨hd, h0, h1⟩ := nb_dir (by omega : 0 ≤ nbI w h c d)
    obtain ⟨hg, hcw⟩ := cellsOf_valid h0 h1
    have hcr := cellsOf_range w h
    have hgr := gridOk_iff.1 hg
    have hlt := nb_lt (w := w) (h := h) (c := c) (d := d)
    have hmn : mn c (nbI w h c d) = min c (nbI w h c d) := by unfold mn; omega
    rw [hmn]
    have hm0 : 0 ≤ min c (nbI w h c d) := by omega
    have hm1 : min c (nbI w h c d) ≤ 15 := by omega
    generalize min c (nbI w h c d) = m at *
    have ha0 : 0 ≤ m / w := Int.ediv_nonneg hm0 (by omega)
    have ha1 : m / w ≤ m := Int.ediv_le_self _ hm0
    have hb0 : 0 ≤ m % w := Int.emod_nonneg _ (by omega)
    have hb1 : m % w < w := Int.emod_lt_of_pos _ (by omega)
    have hp0 : 0 ≤ m / w * (w - 1) := Int.mul_nonneg ha0 (by omega)
    have hp1 : m / w * (w - 1) ≤ 15 * 3 := Int.mul_le_mul (by omega) (by omega) (by omega) (by omega)
    have hq0 : 0 ≤ (w - 1) * h := Int.mul_nonneg (by omega) (by omega)
    have hq1 : (w - 1) * h ≤ 3 * 4 := Int.mul_le_mul (by omega) (by omega) (by omega) (by omega)
    rw [Int.tmod_eq_emod_of_nonneg hm0, Int.tdiv_eq_ediv_of_nonneg hm0, wrap64_id (x := m / w) (by omega) (by omega), wrap64_id (x := w - 1) (by omega) (by omega), wrap64_id (x := m / w * (w - 1)) (by omega) (by omega), wrap64_id (x := m / w * (w - 1) + m % w) (by omega) (by omega)]
    refine Ev.ite (fun e => Ev.ff (by omega) ?_) (fun e => Ev.ite (fun e3 => Ev.ff (by omega) ?_) (fun e3 => ?_))
    · rw [if_pos (.inl e)]; exact Ev.ret rfl
    · rw [if_pos (.inr e3)]; exact Ev.ret rfl
    · rw [if_neg (by omega)]
      rw [wrap64_id (x := (w - 1) * h) (by omega) (by omega), wrap64_id (by omega) (by omega)]
      exact Ev.ret rfl
/-- The directions from d on in which s leads somewhere. -/
def waysFrom (s : Int → Int) (d : Nat) : List Int := ([0, 1, 2, 3].drop d).filter fun x => decide (0 ≤ s x)
theorem waysFrom_succ (s : Int → Int) {d : Nat} (hd : d < 4) : waysFrom s d = if 0 ≤ s d then (d : Int) :: waysFrom s (d + 1) else waysFrom s (d + 1) := by
  have : d = 0 ∨ d = 1 ∨ d = 2 ∨ d = 3 := by omega
  rcases this with rfl | rfl | rfl | rfl <;> simp [waysFrom, List.filter_cons]
def waysI (w h : Int) (n : Nat) (c : Int) : List Int := waysFrom (stepI w h n c) 0
theorem impl_Step_ev {w h : Int} {n : Nat} (hg : gridOk w h = true) (hn : n < 2 ^ gapsN w h) (c d : Int) : Ev (fun k => impl_Step.f k w h n c d) (stepI w h n c d) := by
  unfold impl_Step.f stepI
  refine Ev.bnd0 (impl_MazeOk_eq w h n) (Ev.tt (mazeOk_iff.2 ⟨hg, n, rfl, hn⟩) ?_)
  refine Ev.bind (impl_GapAt_ev w h c d) (Ev.bnd0 (impl_isOpen_eq w h (open_small hn) _) ?_)
  by_cases ho : openI n (gapI w h c d) = true
  · rw [if_pos ho]
    exact Ev.tt ho (Ev.bind (impl_Neighbor_ev w h c d) (Ev.ret rfl))
  · rw [if_neg ho]
    exact Ev.ff ho (Ev.ret rfl)
theorem impl_Ways_l0 (w h : Int) (o c : Int) (s : Int → Int) (hs : ∀ d, Ev (fun k => impl_Step.f k w h o c d) (s d)) : ∀ (e d : Nat) (out : List Int), 4 - d = e → d ≤ 4 → out.length ≤ d →
    Ev (fun k => impl_WaysFrom.l0 k c out d w h o) (out ++ waysFrom s d)
  | 0, d, out, he, hd, hl => by
    refine Ev.step (fun _ => impl_WaysFrom.l0.eq_2 ..) ?_
    refine Ev.ff (by omega) (Ev.ret ?_)
    obtain rfl : d = 4 := by omega
    simp [waysFrom]
  | e + 1, d, out, he, hd, hl => by
    refine Ev.step (fun _ => impl_WaysFrom.l0.eq_2 ..) ?_
    refine Ev.tt (by omega) (Ev.bind (hs d) ?_)
    rw [wsucc (by omega), waysFrom_succ s (show d < 4 by omega)]
    refine Ev.ite (fun h1 => Ev.tt (by omega) ?_) (fun h1 => ?_)
    · rw [if_pos (by omega)]
      have := impl_Ways_l0 w h o c s hs e (d + 1) (out ++ [(d : Int)]) (by omega) (by omega) (by simp; omega)
      simpa using this
    · rw [if_neg (by omega)]
      exact impl_Ways_l0 w h o c s hs e (d + 1) out (by omega) (by omega) (by omega)
theorem impl_Ways_ev {w h : Int} {n : Nat} (hg : gridOk w h = true) (hn : n < 2 ^ gapsN w h) (c : Int) : Ev (fun k => impl_WaysFrom.f k w h n c) (waysI w h n c) := by
  unfold impl_WaysFrom.f waysI
  have := impl_Ways_l0 w h n c _ (fun d => impl_Step_ev hg hn c d) 4 0 [] (by omega) (by omega) (by simp)
  simpa using this
end Go.Proofs.Ytbeajmcjfhbcjaa.P
namespace Go.Proofs.Ytbeajmcjfhbcjaa.P
open Go.RowKit Go.Proofs.YtbeajmcjfhbcjaaW.PrintWords Go.Proofs.YtbeajmcjfhbcjaaW.PrintLast Go.Proofs.YtbeajmcjfhbcjaaW.PrintMore
attribute [local go_sem] max2_int min2_int max_two min_two max_three min_three max_four min_four   -- for this text's walks alone
set_option linter.unusedVariables false
set_option linter.unusedSimpArgs false

/-! ### spec_GapAt: function 139 -/
/-! ### spec_IsPassage: function 164 -/
/-! ### spec_Step: function 158 -/
/-! ### spec_WaysFrom: function 136 -/
end Go.Proofs.Ytbeajmcjfhbcjaa.P
namespace Go.Proofs.Ytbeajmcjfhbcjaa.P
open Go.RowKit Go.Proofs.YtbeajmcjfhbcjaaW.PrintWords
set_option linter.unusedVariables false
set_option linter.unusedSimpArgs false

def ints (q : List Nat) : List Int := q.map fun (x : Nat) => (x : Int)
theorem ints_length (q : List Nat) : (ints q).length = q.length := by simp [ints]
theorem ints_app (q : List Nat) (y : Nat) : ints (q ++ [y]) = ints q ++ [(y : Int)] := by simp [ints]
theorem rd_ints {q : List Nat} {i x : Nat} (h : q[i]? = some x) : rd (ints q) (i : Int) = x := by
  rw [rd_nat, List.getD_eq_getElem?_getD]
  simp [ints, h]
/-- A function on the numbers under v as a list. -/
def dlist (v : Nat) (D : Nat → Int) : List Int := (List.range v).map D
theorem dlist_length (v : Nat) (D : Nat → Int) : (dlist v D).length = v := by simp [dlist]
theorem rd_dlist {v : Nat} {D : Nat → Int} {c : Nat} (h : c < v) : rd (dlist v D) (c : Int) = D c := by
  rw [rd_get (by rw [dlist_length]; exact h)]
  simp [dlist]
theorem dlist_set {v : Nat} {D : Nat → Int} {y : Nat} {a : Int} (h : y < v) : (dlist v D).set y a = dlist v (upd D y a) := by
  refine List.ext_getElem (by simp [dlist]) fun i h1 h2 => ?_
  rw [List.getElem_set]
  simp only [dlist, upd, List.getElem_map, List.getElem_range]
  by_cases e : y = i
  · rw [if_pos e, if_pos e.symm]
  · rw [if_neg e, if_neg (fun e' => e e'.symm)]
/-- What is kept while the search goes on. -/
structure SI (v : Nat) (S : (Nat → Int) × List Nat) : Prop where
  le : ∀ c, S.1 c ≤ S.2.length
  low : ∀ c, -1 ≤ S.1 c
  lt : ∀ c ∈ S.2, c < v
theorem SI.relax {v : Nat} {s : Nat → Nat → Int} (hs : Rng s v) {S : (Nat → Int) × List Nat} (I : SI v S) {x d : Nat} (hx : x < v) (hd : d < 4) : SI v (relax s x d S) ∧ (relax s x d S).2.length ≤ S.2.length + 1 ∧ ∀ (i z : Nat), S.2[i]? = some z → (relax s x d S).2[i]? = some z := by
  unfold Go.Proofs.Ytbeajmcjfhbcjaa.P.relax
  split
  · rename_i hc
    refine ⟨⟨fun c => ?_, fun c => ?_, fun c hcq => ?_⟩, by simp, fun i z hz => ?_⟩
    · have := I.le c
      have := I.le x
      show upd _ _ _ c ≤ _
      unfold upd
      simp only [List.length_append, List.length_singleton]
      split <;> omega
    · have := I.low c
      have := I.low x
      show _ ≤ upd _ _ _ c
      unfold upd
      split <;> omega
    · rcases List.mem_append.1 hcq with h | h
      · exact I.lt c h
      · simp at h
        have := hs x d hx hd
        omega
    · have hi := (List.getElem?_eq_some_iff.1 hz).1
      rw [List.getElem?_append_left hi]; exact hz
  · exact ⟨I, by omega, fun i z hz => hz⟩
def relaxL (s : Nat → Nat → Int) (x : Nat) : List Nat → (Nat → Int) × List Nat → (Nat → Int) × List Nat
  | [], S => S
  | d :: ds, S => relaxL s x ds (relax s x d S)
theorem relaxL_filter (s : Nat → Nat → Int) (x : Nat) : ∀ l S, relaxL s x (l.filter fun d => decide (0 ≤ s x d)) S = relaxL s x l S
  | [], S => rfl
  | d :: ds, S => by
    rw [List.filter_cons]
    by_cases h : 0 ≤ s x d
    · simp only [h, decide_true, if_true, relaxL]
      exact relaxL_filter s x ds _
    · simp only [h, decide_false, Bool.false_eq_true, if_false, relaxL]
      rw [relaxL_filter s x ds S, show relax s x d S = S from if_neg fun hc => h hc.1]
theorem bround_eq (s : Nat → Nat → Int) (x : Nat) (S : (Nat → Int) × List Nat) : bround s x S = relaxL s x [0, 1, 2, 3] S := rfl
theorem waysI_ints (w h : Int) (n c : Nat) : waysI w h n c = ints ([0, 1, 2, 3].filter fun d => decide (0 ≤ st w h n c d)) := by
  unfold waysI waysFrom st ints
  simp only [List.drop_zero, List.filter_cons, List.filter_nil]
  by_cases a : 0 ≤ stepI w h n c 0 <;> by_cases b : 0 ≤ stepI w h n c 1 <;> by_cases c' : 0 ≤ stepI w h n c 2 <;> by_cases d : 0 ≤ stepI w h n c 3 <;> simp [a, b, c', d]
section
variable {w h : Int} {n : Nat} (hg : gridOk w h = true) (hn : n < 2 ^ gapsN w h)
include hg hn
theorem impl_dist_l1 {x i : Nat} (W : List Nat) (hW : ∀ d ∈ W, d < 4 ∧ 0 ≤ st w h n x d) (hW4 : W.length ≤ 4) (res : List Int) :
    ∀ (e j : Nat) (S : (Nat → Int) × List Nat), j + e = W.length → SI (cellsN w h) S → S.2[i]? = some x → S.2.length ≤ 100 + j →
      (∀ S', S' = relaxL (st w h n) x (W.drop j) S → SI (cellsN w h) S' → Ev (fun k => impl_distances.l0 k (dlist (cellsN w h) S'.1) (ints S'.2) ((i + 1 : Nat) : Int) w h n) res) →
      Ev (fun k => impl_distances.l1 k (dlist (cellsN w h) S.1) (ints S.2) i (ints W) ((ints W).length : Int) j w h n) res
  | 0, j, S, hj, I, hx, hl, next => by
    have hi := (List.getElem?_eq_some_iff.1 hx).1
    refine Ev.step (fun _ => impl_distances.l1.eq_2 ..) (Ev.ff (by rw [ints_length]; omega) ?_)
    rw [wsucc (by omega)]
    exact next S (by rw [List.drop_eq_nil_of_le (by omega)]; rfl) I
  | e + 1, j, S, hj, I, hx, hl, next => by
    have hcast := cellsN_cast w h
    have hi := (List.getElem?_eq_some_iff.1 hx).1
    have hxv := I.lt x (List.mem_of_getElem? hx)
    have hjW : j < W.length := by omega
    obtain ⟨hd4, hd0⟩ := hW _ (List.getElem_mem hjW)
    have hdrop : W.drop j = W[j] :: W.drop (j + 1) := List.drop_eq_getElem_cons hjW
    have hwj : rd (ints W) (j : Int) = (W[j] : Nat) := rd_ints (List.getElem?_eq_getElem hjW)
    have hrng := (net_grid hn).rng x W[j] hxv hd4
    obtain ⟨y, hy⟩ : ∃ y : Nat, st w h n x W[j] = y := ⟨(st w h n x W[j]).toNat, by omega⟩
    have hyv : y < cellsN w h := by omega
    obtain ⟨I', hl', hk'⟩ := I.relax (net_grid hn).rng hxv hd4
    have ih := impl_dist_l1 W hW hW4 res e (j + 1) (relax (st w h n) x W[j] S) (by omega) I' (hk' i x hx) (by omega) (fun S' hS' I'' => next S' (by rw [hS', hdrop]; rfl) I'')
    refine Ev.step (fun _ => impl_distances.l1.eq_2 ..) ?_
    refine Ev.tt (by rw [ints_length]; omega) (Ev.tt (by omega) (Ev.tt (by rw [ints_length]; omega) (Ev.tt (by omega) (Ev.tt (by rw [ints_length]; omega) ?_))))
    rw [hwj, rd_ints hx]
    refine Ev.bind (impl_Step_ev hg hn x (W[j] : Nat)) ?_
    rw [show stepI w h n x (W[j] : Nat) = y from hy, wsucc (by omega)]
    refine Ev.tt (by omega) (Ev.tt (by rw [dlist_length]; omega) ?_)
    rw [rd_dlist hyv, rd_dlist hxv]
    refine Ev.ite (fun h1 => ?_) (fun h1 => ?_)
    · refine Ev.tt (by omega) (Ev.tt (by rw [dlist_length]; omega) (Ev.tt (by rw [ints_length]; omega) ?_))
      have hb1 := I.le x
      have hb2 : 0 ≤ S.1 x ∨ S.1 x < 0 := by omega
      have hrel : relax (st w h n) x W[j] S = (upd S.1 y (S.1 x + 1), S.2 ++ [y]) := by
        unfold relax
        rw [hy, Int.toNat_natCast, if_pos ⟨by omega, h1⟩]
      rw [hrel] at ih
      rw [Int.toNat_natCast, dlist_set hyv, ← ints_app]
      have := I.low x
      rw [wrap64_id (by omega) (by omega)]
      exact ih
    · have hrel : relax (st w h n) x W[j] S = S := by
        unfold relax
        rw [hy, Int.toNat_natCast, if_neg (fun hc => h1 hc.2)]
      rw [hrel] at ih
      exact ih
theorem impl_dist_l0 {src : Nat} (hs : src < cellsN w h) : ∀ (f i : Nat) (S : (Nat → Int) × List Nat), BInv (st w h n) (cellsN w h) src S i 0 → SI (cellsN w h) S → i ≤ S.2.length → cellsN w h + 1 - i ≤ f →
    Ev (fun k => impl_distances.l0 k (dlist (cellsN w h) S.1) (ints S.2) i w h n) (dlist (cellsN w h) (bfsF (st w h n) f S i))
  | 0, i, S, B, I, hi, hf => by have := B.len; omega
  | f + 1, i, S, B, I, hi, hf => by
    have h16 := cellsN_le w h
    have hlen := B.len
    refine Ev.step (fun _ => impl_distances.l0.eq_2 ..) ?_
    simp only [bfsF]
    cases hx : S.2[i]? with
    | none =>
      rw [List.getElem?_eq_none_iff] at hx
      exact Ev.ff (by rw [ints_length]; omega) (Ev.ret rfl)
    | some x =>
      have hil := (List.getElem?_eq_some_iff.1 hx).1
      have hxv := I.lt x (List.mem_of_getElem? hx)
      refine Ev.tt (by rw [ints_length]; omega) (Ev.tt (by omega) ?_)
      rw [rd_ints hx]
      refine Ev.bind (impl_Ways_ev hg hn _) ?_
      rw [waysI_ints]
      have hW : ∀ d ∈ ([0, 1, 2, 3].filter fun d => decide (0 ≤ st w h n x d)), d < 4 ∧ 0 ≤ st w h n x d := fun d hd => by
        rw [List.mem_filter] at hd
        refine ⟨?_, of_decide_eq_true hd.2⟩
        have := hd.1
        simp at this
        omega
      refine impl_dist_l1 hg hn (i := i) (x := x) _ hW (List.length_filter_le _ _) _ _ 0 S (Nat.zero_add _) I hx (by omega) (fun S' hS' I' => ?_)
      rw [List.drop_zero, relaxL_filter, ← bround_eq] at hS'
      subst hS'
      have B' := B.round (net_grid hn).rng hx
      refine impl_dist_l0 hs f (i + 1) _ B' I' ?_ (by omega)
      have h1 : ∀ m T, T.2.length ≤ (relax (st w h n) x m T).2.length := by
        intro m T
        unfold relax
        split <;> simp
      have := Nat.le_trans (h1 0 S) (Nat.le_trans (h1 1 _) (Nat.le_trans (h1 2 _) (h1 3 _)))
      show i + 1 ≤ (bround (st w h n) x S).2.length
      unfold bround
      omega
omit hg hn in
theorem SI.start {v src : Nat} (h : src < v) : SI v (upd (fun _ => -1) src 0, [src]) where
  le := fun c => by simp only [upd]; split <;> simp
  low := fun c => by simp only [upd]; split <;> omega
  lt := fun c hc => by simp at hc; omega
theorem impl_distances_ev {src : Nat} (hs : src < cellsN w h) : Ev (fun k => impl_distances.f k w h n src) (dlist (cellsN w h) (distN w h n src)) := by
  have h16 := cellsN_le w h
  have hcast := cellsN_cast w h
  unfold impl_distances.f
  refine Ev.bnd0 (impl_CountCells_eq w h) (Ev.bnd0 (a := dlist (cellsN w h) fun _ => -1) ?_ ?_)
  · unfold slices_Repeat_int_int.f
    rw [if_pos ⟨by simp, by omega, by omega⟩]
    congr 1
    refine List.ext_getElem (by simp [dlist]; omega) fun i h1 h2 => ?_
    simp [dlist, rd]
  · refine Ev.tt (by omega) (Ev.tt (by rw [dlist_length]; omega) ?_)
    rw [Int.toNat_natCast, dlist_set hs]
    exact impl_dist_l0 hg hn hs _ 0 _ (BInv.start hs) (SI.start hs) (by simp) (by omega)
end
end Go.Proofs.Ytbeajmcjfhbcjaa.P
namespace Go.Proofs.Ytbeajmcjfhbcjaa.P
open Go.RowKit Go.Proofs.YtbeajmcjfhbcjaaW.PrintWords Go.Proofs.Ytbeajmcjfhbcjaa.Sup
set_option linter.unusedVariables false
set_option linter.unusedSimpArgs false

theorem impl_isIn_one (w h o c : Int) : impl_isIn.f w h o [c] = some (mazeOk w h o && isCellI w h c) := by
  unfold impl_isIn.f
  rw [impl_MazeOk_eq, Option.bind_some]
  cases hm : mazeOk w h o
  · simp
  · rw [if_pos rfl]
    simp [impl_isCell_eq]
end Go.Proofs.Ytbeajmcjfhbcjaa.P
namespace Go.Proofs.Ytbeajmcjfhbcjaa.P
open Go.RowKit Go.Proofs.YtbeajmcjfhbcjaaW.PrintWords Go.Proofs.YtbeajmcjfhbcjaaW.PrintLast Go.Proofs.YtbeajmcjfhbcjaaW.PrintMore
attribute [local go_sem] max2_int min2_int max_two min_two max_three min_three max_four min_four   -- for this text's walks alone
set_option linter.unusedVariables false
set_option linter.unusedSimpArgs false

/-! ### spec_l04Has: function 160 -/
end Go.Proofs.Ytbeajmcjfhbcjaa.P
namespace Go.Proofs.Ytbeajmcjfhbcjaa.P
open Go.RowKit Go.Proofs.YtbeajmcjfhbcjaaW.PrintWords
set_option linter.unusedVariables false
set_option linter.unusedSimpArgs false

/-- i, i + 1, .. : d of them. -/
def run (i d : Nat) : List Int := (List.range d).map fun t => ((i + t : Nat) : Int)
theorem run_succ (i d : Nat) : run i (d + 1) = (i : Int) :: run (i + 1) d := by
  simp only [run, List.range_succ_eq_map, List.map_cons, List.map_map, Nat.add_zero]
  congr 1
  apply List.map_congr_left
  intro t _
  simp only [Function.comp, Nat.succ_eq_add_one]
  congr 1
  omega
theorem mem_run {i d : Nat} {x : Int} : x ∈ run i d ↔ (i : Int) ≤ x ∧ x < ((i + d : Nat) : Int) := by
  simp only [run, List.mem_map, List.mem_range]
  constructor
  · rintro ⟨t, ht, rfl⟩
    omega
  · intro ⟨h1, h2⟩
    exact ⟨(x - i).toNat, by omega, by omega⟩
theorem upTo_l0 (n : Nat) (hn : n ≤ 1000000) : ∀ (d i : Nat) (out : List Int), n - i = d → i ≤ n → out.length ≤ i → Ev (fun k => impl_upTo.l0 k n out i) (out ++ run i d)
  | 0, i, out, hd, hi, ho => by
    refine Ev.step (fun _ => impl_upTo.l0.eq_2 ..) (Ev.ff (by omega) (Ev.ret ?_))
    simp [run]
  | d + 1, i, out, hd, hi, ho => by
    refine Ev.step (fun _ => impl_upTo.l0.eq_2 ..) (Ev.tt (by omega) (Ev.tt (by omega) ?_))
    rw [wsucc (by omega), run_succ]
    have := upTo_l0 n hn d (i + 1) (out ++ [(i : Int)]) (by omega) (by omega) (by simp; omega)
    simpa using this
theorem impl_upTo_ev (n : Nat) (hn : n ≤ 1000000) : Ev (fun k => impl_upTo.f k n) (run 0 n) := by
  unfold impl_upTo.f
  have := upTo_l0 n hn n 0 [] (by omega) (by omega) (by simp)
  simpa using this
def p1 (x : Nat) : Nat := ((x / 2) &&& 6148914691236517205) + (x &&& 6148914691236517205)
def p2 (x : Nat) : Nat := ((x / 4) &&& 3689348814741910323) + (x &&& 3689348814741910323)
def p3 (x : Nat) : Nat := (x / 16 + x) &&& 1085102592571150095
theorem and_split {a m : Nat} (b M : Nat) (ha : a < 256) (hm : m < 256) : (256 * b + a) &&& (256 * M + m) = 256 * (b &&& M) + (a &&& m) := by
  apply Nat.eq_of_testBit_eq
  intro i
  have h1 := Nat.testBit_two_pow_mul_add b (i := 8) ha i
  have h2 := Nat.testBit_two_pow_mul_add M (i := 8) hm i
  have h3 := Nat.testBit_two_pow_mul_add (b &&& M) (i := 8) (b := a &&& m) (Nat.lt_of_le_of_lt Nat.and_le_left ha) i
  simp only [show (2 : Nat) ^ 8 = 256 from rfl] at h1 h2 h3
  rw [Nat.testBit_and, h1, h2, h3]
  split <;> simp [Nat.testBit_and]
theorem p1_split (b a : Nat) (ha : a < 256) : p1 (256 * b + a) = 256 * (((b / 2) &&& 24019198012642645) + (b &&& 24019198012642645)) + p1 a := by
  have e1 : (256 * b + a) / 2 = 256 * (b / 2) + (128 * (b % 2) + a / 2) := by omega
  have e2 : ∀ c, c < 2 → ∀ a, a < 256 → (128 * c + a / 2) &&& 85 = (a / 2) &&& 6148914691236517205 := by decide +kernel
  have e3 : ∀ a, a < 256 → a &&& 85 = a &&& 6148914691236517205 := by decide +kernel
  unfold p1
  rw [e1, show (6148914691236517205 : Nat) = 256 * 24019198012642645 + 85 from rfl, and_split _ _ (by omega) (by decide), and_split _ _ ha (by decide), ← show (6148914691236517205 : Nat) = 256 * 24019198012642645 + 85 from rfl, e2 _ (Nat.mod_lt _ (by decide)) a ha, e3 a ha]
  omega
theorem p2_split (b a : Nat) (ha : a < 256) : p2 (256 * b + a) = 256 * (((b / 4) &&& 14411518807585587) + (b &&& 14411518807585587)) + p2 a := by
  have e1 : (256 * b + a) / 4 = 256 * (b / 4) + (64 * (b % 4) + a / 4) := by omega
  have e2 : ∀ c, c < 4 → ∀ a, a < 256 → (64 * c + a / 4) &&& 51 = (a / 4) &&& 3689348814741910323 := by decide +kernel
  have e3 : ∀ a, a < 256 → a &&& 51 = a &&& 3689348814741910323 := by decide +kernel
  unfold p2
  rw [e1, show (3689348814741910323 : Nat) = 256 * 14411518807585587 + 51 from rfl, and_split _ _ (by omega) (by decide), and_split _ _ ha (by decide), ← show (3689348814741910323 : Nat) = 256 * 14411518807585587 + 51 from rfl, e2 _ (Nat.mod_lt _ (by decide)) a ha, e3 a ha]
  omega
theorem p3_split (b a : Nat) (ha : a < 72) (hb : b % 16 ≤ 4) : p3 (256 * b + a) = 256 * ((b / 16 + b) &&& 4238682002231055) + p3 a := by
  have e1 : (256 * b + a) / 16 + (256 * b + a) = 256 * (b / 16 + b) + (16 * (b % 16) + a / 16 + a) := by omega
  have e2 : ∀ c, c < 5 → ∀ a, a < 72 → (16 * c + a / 16 + a) &&& 15 = (a / 16 + a) &&& 1085102592571150095 := by decide +kernel
  unfold p3
  rw [e1, show (1085102592571150095 : Nat) = 256 * 4238682002231055 + 15 from rfl, and_split _ _ (by omega) (by decide), ← show (1085102592571150095 : Nat) = 256 * 4238682002231055 + 15 from rfl, e2 _ (by omega) a ha]
theorem byte : ∀ a, a < 256 → p1 a < 256 ∧ p1 a % 4 ≤ 2 ∧ p2 (p1 a) < 72 ∧ p2 (p1 a) % 16 ≤ 4 ∧ p3 (p2 (p1 a)) = pop 8 a := by decide +kernel
theorem and_low {b M : Nat} (hb : b < 65536) : b &&& M = b &&& (M % 65536) := by
  have h := Nat.and_mod_two_pow (a := b) (b := M) (n := 16)
  simp only [show (2 : Nat) ^ 16 = 65536 from rfl] at h
  rw [Nat.mod_eq_of_lt hb, Nat.mod_eq_of_lt (Nat.lt_of_le_of_lt Nat.and_le_left hb)] at h
  exact h
theorem p1_hi {b : Nat} (hb : b < 65536) : ((b / 2) &&& 24019198012642645) + (b &&& 24019198012642645) = p1 b := by
  unfold p1
  rw [and_low (show b / 2 < 65536 by omega), and_low hb, and_low (M := 6148914691236517205) (show b / 2 < 65536 by omega), and_low (M := 6148914691236517205) hb]
theorem p2_hi {b : Nat} (hb : b < 65536) : ((b / 4) &&& 14411518807585587) + (b &&& 14411518807585587) = p2 b := by
  unfold p2
  rw [and_low (show b / 4 < 65536 by omega), and_low hb, and_low (M := 3689348814741910323) (show b / 4 < 65536 by omega), and_low (M := 3689348814741910323) hb]
theorem p3_hi {b : Nat} (hb : b < 61680) : (b / 16 + b) &&& 4238682002231055 = p3 b := by
  unfold p3
  rw [and_low (show b / 16 + b < 65536 by omega), and_low (M := 1085102592571150095) (show b / 16 + b < 65536 by omega)]
theorem p3_three {a b c : Nat} (ha : a < 256) (hb : b < 256) (hc : c < 256) : p3 (p2 (p1 (256 * (256 * c + b) + a))) = 256 * (256 * pop 8 c + pop 8 b) + pop 8 a := by
  obtain ⟨a1, _, a2, a3, a4⟩ := byte a ha
  obtain ⟨b1, _, b2, b3, b4⟩ := byte b hb
  obtain ⟨c1, _, c2, c3, c4⟩ := byte c hc
  rw [p1_split _ _ ha, p1_hi (by omega), p1_split _ _ hb, p1_hi (by omega)]
  rw [p2_split _ _ a1, p2_hi (by omega), p2_split _ _ b1, p2_hi (by omega)]
  rw [p3_split _ _ a2 (by omega), p3_hi (by omega), p3_split _ _ b2 c3, p3_hi (by omega), a4, b4, c4]
theorem pop24 (a b c : Nat) (ha : a < 256) (hb : b < 256) (hc : c < 256) : pop 24 (256 * (256 * c + b) + a) = pop 8 a + pop 8 b + pop 8 c := by
  rw [show 24 = 8 + (8 + 8) from rfl, pop_add, pop_add, show (2 : Nat) ^ 8 = 256 from rfl, show (256 * (256 * c + b) + a) / 256 = 256 * c + b by omega, show (256 * c + b) / 256 = c by omega]
  rw [← pop_mod 8 (256 * (256 * c + b) + a), ← pop_mod 8 (256 * c + b), show (2 : Nat) ^ 8 = 256 from rfl, show (256 * (256 * c + b) + a) % 256 = a by omega, show (256 * c + b) % 256 = b by omega, Nat.add_assoc]
theorem u64_small {n : Nat} (h : n < 18446744073709551616) : IntKind.u64.wrap (n : Int) = n := by
  rw [IntKind.wrap_u64]; omega
theorem u64_and {a b : Nat} (ha : a < 9223372036854775808) (hb : b < 9223372036854775808) : Go.bits .and .u64 a b = ((a &&& b : Nat) : Int) :=
  (bits_nat .u64 63 (by decide) (fun n h0 h1 => by rw [IntKind.wrap_u64]; omega) a b (by simpa using ha) (by simpa using hb)).1
def s1 (a : Int) : Int := IntKind.u64.wrap ((Go.bits .and .u64 (a / 2) 6148914691236517205) + (Go.bits .and .u64 a 6148914691236517205))
def s2 (a : Int) : Int := IntKind.u64.wrap ((Go.bits .and .u64 (a / 4) 3689348814741910323) + (Go.bits .and .u64 a 3689348814741910323))
def s3 (a : Int) : Int := Go.bits .and .u64 (IntKind.u64.wrap (a / 16 + a)) 1085102592571150095
def s4 (a : Int) : Int := IntKind.u64.wrap (a + a / 256)
def s5 (a : Int) : Int := IntKind.u64.wrap (a + a / 65536)
def s6 (a : Int) : Int := IntKind.u64.wrap (a + a / 4294967296)
theorem ones_steps (a : Int) : bits_OnesCount.f a = some (Go.bits .and .i64 (wrap64 (s6 (s5 (s4 (s3 (s2 (s1 a))))))) 127) := rfl
theorem s1_nat {a : Nat} (h : a < 16777216) : s1 (a : Int) = (p1 a : Int) := by
  unfold s1 p1
  rw [show ((a : Int) / 2) = ((a / 2 : Nat) : Int) by omega, show (6148914691236517205 : Int) = ((6148914691236517205 : Nat) : Int) from rfl, u64_and (by omega) (by decide), u64_and (by omega) (by decide)]
  have h1 : (a / 2 &&& 6148914691236517205) ≤ a / 2 := Nat.and_le_left
  have h2 : (a &&& 6148914691236517205) ≤ a := Nat.and_le_left
  rw [← Int.natCast_add, u64_small (by omega)]
theorem s2_nat {a : Nat} (h : a < 67108864) : s2 (a : Int) = (p2 a : Int) := by
  unfold s2 p2
  rw [show ((a : Int) / 4) = ((a / 4 : Nat) : Int) by omega, show (3689348814741910323 : Int) = ((3689348814741910323 : Nat) : Int) from rfl, u64_and (by omega) (by decide), u64_and (by omega) (by decide)]
  have h1 : (a / 4 &&& 3689348814741910323) ≤ a / 4 := Nat.and_le_left
  have h2 : (a &&& 3689348814741910323) ≤ a := Nat.and_le_left
  rw [← Int.natCast_add, u64_small (by omega)]
theorem s3_nat {a : Nat} (h : a < 268435456) : s3 (a : Int) = (p3 a : Int) := by
  unfold s3 p3
  rw [show ((a : Int) / 16 + a) = ((a / 16 + a : Nat) : Int) by omega, u64_small (by omega), show (1085102592571150095 : Int) = ((1085102592571150095 : Nat) : Int) from rfl, u64_and (by omega) (by decide)]
/-- The library's count of bits. -/
theorem ones_eq {s : Nat} (h : s < 16777216) : bits_OnesCount.f (s : Int) = some (pop 24 s : Int) := by
  rw [ones_steps]
  have h1 : p1 s < 67108864 := by
    unfold p1
    have h1 : (s / 2 &&& 6148914691236517205) ≤ s / 2 := Nat.and_le_left
    have h2 : (s &&& 6148914691236517205) ≤ s := Nat.and_le_left
    omega
  have h2 : p2 (p1 s) < 268435456 := by
    unfold p2
    have h3 : (p1 s / 4 &&& 3689348814741910323) ≤ p1 s / 4 := Nat.and_le_left
    have h4 : (p1 s &&& 3689348814741910323) ≤ p1 s := Nat.and_le_left
    omega
  rw [s1_nat h, s2_nat h1, s3_nat h2]
  obtain ⟨a, b, c, ha, hb, hc, rfl⟩ : ∃ a b c, a < 256 ∧ b < 256 ∧ c < 256 ∧ s = 256 * (256 * c + b) + a := ⟨s % 256, s / 256 % 256, s / 65536, by omega, by omega, by omega, by omega⟩
  rw [p3_three ha hb hc, pop24 _ _ _ ha hb hc]
  have qa := pop_le 8 a
  have qb := pop_le 8 b
  have qc := pop_le 8 c
  generalize pop 8 a = x at *
  generalize pop 8 b = y at *
  generalize pop 8 c = z at *
  have e4 : s4 ((256 * (256 * z + y) + x : Nat) : Int) = ((65536 * z + 256 * (y + z) + (x + y) : Nat) : Int) := by
    unfold s4
    rw [show (((256 * (256 * z + y) + x : Nat) : Int) + ((256 * (256 * z + y) + x : Nat) : Int) / 256) = ((65536 * z + 256 * (y + z) + (x + y) : Nat) : Int) by omega, u64_small (by omega)]
  have e5 : s5 ((65536 * z + 256 * (y + z) + (x + y) : Nat) : Int) = ((65536 * z + 256 * (y + z) + (x + y + z) : Nat) : Int) := by
    unfold s5
    rw [show (((65536 * z + 256 * (y + z) + (x + y) : Nat) : Int) + ((65536 * z + 256 * (y + z) + (x + y) : Nat) : Int) / 65536) = ((65536 * z + 256 * (y + z) + (x + y + z) : Nat) : Int) by omega, u64_small (by omega)]
  have e6 : s6 ((65536 * z + 256 * (y + z) + (x + y + z) : Nat) : Int) = ((65536 * z + 256 * (y + z) + (x + y + z) : Nat) : Int) := by
    unfold s6
    rw [show (((65536 * z + 256 * (y + z) + (x + y + z) : Nat) : Int) + ((65536 * z + 256 * (y + z) + (x + y + z) : Nat) : Int) / 4294967296) = ((65536 * z + 256 * (y + z) + (x + y + z) : Nat) : Int) by omega, u64_small (by omega)]
  rw [e4, e5, e6, wrap64_id (by omega) (by omega), show (127 : Int) = ((127 : Nat) : Int) from rfl, bits_and (by omega) (by decide)]
  congr 2
  rw [show (127 : Nat) = 2 ^ 7 - 1 from rfl, Nat.and_two_pow_sub_one_eq_mod]
  omega
theorem ones_eq' {n s : Nat} (hn : n ≤ 24) (h : s < 2 ^ n) : bits_OnesCount.f (s : Int) = some (pop n s : Int) := by
  rw [ones_eq (Nat.lt_of_lt_of_le h (Nat.pow_le_pow_right (by decide) hn)), pop_big h hn]
end Go.Proofs.Ytbeajmcjfhbcjaa.P
namespace Go.Proofs.Ytbeajmcjfhbcjaa.P
open Go.RowKit Go.Proofs.YtbeajmcjfhbcjaaW.PrintWords Go.Proofs.YtbeajmcjfhbcjaaW.PrintLast Go.Proofs.YtbeajmcjfhbcjaaW.PrintMore
attribute [local go_sem] max2_int min2_int max_two min_two max_three min_three max_four min_four   -- for this text's walks alone
set_option linter.unusedVariables false
set_option linter.unusedSimpArgs false

/-! ### impl_DistanceOf: function 162 -/
end Go.Proofs.Ytbeajmcjfhbcjaa.P
namespace Go.Proofs.Ytbeajmcjfhbcjaa.P
open Go.RowKit Go.Proofs.YtbeajmcjfhbcjaaW.PrintWords
set_option linter.unusedVariables false
set_option linter.unusedSimpArgs false

theorem run_zero (v : Nat) : run 0 v = ints (List.range v) := by
  unfold run ints
  exact List.map_congr_left fun t _ => by omega
theorem isCellI_nat {w h : Int} {c : Nat} (hc : c < cellsN w h) : isCellI w h c = true := by
  have := cellsN_cast w h
  unfold isCellI
  rw [decide_eq_true_eq]; omega
section
variable {w h : Int} {n : Nat} (hg : gridOk w h = true) (hn : n < 2 ^ gapsN w h)
include hg hn
theorem mazeOk_nat : mazeOk w h n = true := mazeOk_iff.2 ⟨hg, n, rfl, hn⟩
theorem impl_Reached_ev {s : Nat} (hs : s < cellsN w h) : Ev (fun k => impl_Reached.f k w h n s) (ints (reachN w h n s)) := by
  have h16 := cellsN_le w h
  unfold impl_Reached.f
  refine Ev.bnd0 (impl_isIn_one w h n s) (Ev.tt (by rw [mazeOk_nat hg hn, isCellI_nat hs]; rfl) ?_)
  refine Ev.bind (impl_distances_ev hg hn hs) ?_
  rw [dlist_length]
  refine Ev.bind (impl_upTo_ev _ (by omega)) (Ev.tt ?_ (Ev.ret ?_))
  · rw [List.all_eq_true]
    intro c hc
    have := mem_run.1 hc
    rw [decide_eq_true_eq]
    omega
  · rw [run_zero]
    unfold reachN ints
    rw [List.filter_map]
    congr 1
    refine List.filter_congr fun c hc => ?_
    rw [List.mem_range] at hc
    simp only [Function.comp]
    rw [rd_dlist hc]
    by_cases h1 : distN w h n s c < 0
    · rw [decide_eq_true h1, decide_eq_false (show ¬ 0 ≤ distN w h n s c by omega)]; rfl
    · rw [decide_eq_false h1, decide_eq_true (show 0 ≤ distN w h n s c by omega)]; rfl
omit hg hn in
theorem head_is {s : Nat} (hn : n < 2 ^ gapsN w h) (hs : s < cellsN w h) : 0 < ((ints (reachN w h n s)).length : Int) ∧ rd (ints (reachN w h n s)) 0 = labN w h n s := by
  obtain ⟨t, ht⟩ := reachN_head hn hs
  rw [ht]
  exact ⟨by simp [ints], rfl⟩
theorem impl_parts_l0 : ∀ (d c m : Nat), c + d = cellsN w h → m ≤ c → Ev (fun k => impl_CountParts.l0 k m c w h n) (((m + (cnt (fun i => labN w h n i == i) (cellsN w h) - cnt (fun i => labN w h n i == i) c) : Nat)) : Int)
  | 0, c, m, hd, hm => by
    have hcast := cellsN_cast w h
    refine Ev.step (fun _ => impl_CountParts.l0.eq_2 ..) (Ev.bnd0 (impl_isIn_one w h n c) (Ev.ff ?_ (Ev.ret ?_)))
    · have : isCellI w h c = false := by unfold isCellI; rw [decide_eq_false_iff_not]; omega
      rw [this]; simp
    · rw [show c = cellsN w h by omega, Nat.sub_self, Nat.add_zero]
  | d + 1, c, m, hd, hm => by
    have h16 := cellsN_le w h
    have hcv : c < cellsN w h := by omega
    obtain ⟨e1, e2⟩ := head_is hn hcv
    refine Ev.step (fun _ => impl_CountParts.l0.eq_2 ..) (Ev.bnd0 (impl_isIn_one w h n c) (Ev.tt (by rw [mazeOk_nat hg hn, isCellI_nat hcv]; rfl) ?_))
    refine Ev.bind (impl_Reached_ev hg hn hcv) (Ev.tt e1 ?_)
    rw [e2, wsucc (by omega), wsucc (by omega)]
    have hle : cnt (fun i => labN w h n i == i) (c + 1) ≤ cnt (fun i => labN w h n i == i) (cellsN w h) := by
      obtain ⟨x, hx⟩ := Nat.exists_eq_add_of_le (show c + 1 ≤ cellsN w h by omega)
      rw [hx]
      have : ∀ x, cnt (fun i => labN w h n i == i) (c + 1) ≤ cnt (fun i => labN w h n i == i) (c + 1 + x) := by
        intro x
        induction x with
        | zero => exact Nat.le_refl _
        | succ x ih => rw [← Nat.add_assoc]; simp only [cnt]; simp only [cnt] at ih; omega
      exact this x
    simp only [cnt] at hle
    refine Ev.ite (fun h1 => ?_) (fun h1 => ?_)
    · refine Ev.eq (impl_parts_l0 d (c + 1) (m + 1) (by omega) (by omega)) ?_
      have : (labN w h n c == c) = true := by rw [beq_iff_eq]; omega
      simp only [cnt, this, Bool.toNat_true] at hle ⊢
      omega
    · refine Ev.eq (impl_parts_l0 d (c + 1) m (by omega) (by omega)) ?_
      have : (labN w h n c == c) = false := by rw [beq_eq_false_iff_ne]; omega
      simp only [cnt, this, Bool.toNat_false] at hle ⊢
      omega
theorem impl_CountParts_ev : Ev (fun k => impl_CountParts.f k w h n) (partsN w h n : Int) := by
  unfold impl_CountParts.f
  refine Ev.eq (impl_parts_l0 hg hn (cellsN w h) 0 0 (by omega) (by omega)) ?_
  simp only [cnt, Nat.zero_add, Nat.sub_zero]
  rfl
end
end Go.Proofs.Ytbeajmcjfhbcjaa.P
namespace Go.Proofs.Ytbeajmcjfhbcjaa.P
open Go.RowKit Go.Proofs.YtbeajmcjfhbcjaaW.PrintWords
set_option linter.unusedVariables false
set_option linter.unusedSimpArgs false

section
variable {w h : Int} {n : Nat} (hg : gridOk w h = true) (hn : n < 2 ^ gapsN w h)
include hg hn
theorem impl_CountPassages_eq : impl_CountPassages.f w h n = some (pop (gapsN w h) n : Int) := by
  have hs := open_small hn
  unfold impl_CountPassages.f
  rw [impl_MazeOk_eq, Option.bind_some, if_pos (mazeOk_nat hg hn), u64_small (by omega), ones_eq' (gapsN_le w h) hn, Option.bind_some]
omit hn in
theorem perf_value : (if (decide (((partsN w h n : Nat) : Int) = 1)) = true then decide (((pop (gapsN w h) n : Nat) : Int) = wrap64 (cellsOf w h - 1)) else false) = perfN w h n := by
  have h16 := cellsN_le w h
  have hpos := cells_pos hg
  have hcast := cellsN_cast w h
  have hpop := pop_le (gapsN w h) n
  rw [wrap64_id (by omega) (by omega)]
  unfold perfN perf
  by_cases h1 : partsN w h n = 1
  · have h1' := h1
    unfold partsN at h1'
    rw [h1, h1']
    simp only [Int.natCast_one, decide_true, if_true, true_and]
    rw [decide_eq_decide]
    omega
  · have h1' := h1
    unfold partsN at h1'
    rw [if_neg (by simp; omega)]
    symm
    rw [decide_eq_false_iff_not]
    exact fun h2 => h1' h2.1
theorem impl_IsPerfect_ev : Ev (fun k => impl_IsPerfect.f k w h n) (perfN w h n) := by
  unfold impl_IsPerfect.f impl_IsConnected.f
  rw [← perf_value hg]
  refine Ev.bind (Ev.bind (impl_CountParts_ev hg hn) (Ev.ret rfl)) ?_
  refine Ev.ite (fun h1 => Ev.bnd0 (impl_CountPassages_eq hg hn) (Ev.bnd0 (impl_CountCells_eq w h) (Ev.ret ?_))) (fun h1 => Ev.ret ?_)
  · rw [if_pos (by simpa using h1)]
    rw [Bool.eq_iff_iff]
    simp
  · rw [if_neg (by simpa using h1)]
end
end Go.Proofs.Ytbeajmcjfhbcjaa.P
namespace Go.Proofs.Ytbeajmcjfhbcjaa.P
open Go.RowKit Go.Proofs.YtbeajmcjfhbcjaaW.PrintWords
set_option linter.unusedVariables false
set_option linter.unusedSimpArgs false

/-- The parity of the edges of z for which f holds. -/
def lin (f : Nat → Bool) (z : Nat) : Nat → Bool
  | 0 => false
  | k + 1 => Bool.xor (lin f z k) (f k && z.testBit k)
theorem lin_xor_f (f g : Nat → Bool) (z k : Nat) : lin (fun i => Bool.xor (f i) (g i)) z k = Bool.xor (lin f z k) (lin g z k) := by
  induction k with
  | zero => rfl
  | succ k ih =>
    simp only [lin]; rw [ih]
    cases lin f z k <;> cases lin g z k <;> cases f k <;> cases g k <;> cases z.testBit k <;> rfl
theorem lin_xor_z (f : Nat → Bool) (y z k : Nat) : lin f (y ^^^ z) k = Bool.xor (lin f y k) (lin f z k) := by
  induction k with
  | zero => rfl
  | succ k ih =>
    simp only [lin]; rw [ih, Nat.testBit_xor]
    cases lin f y k <;> cases lin f z k <;> cases f k <;> cases y.testBit k <;> cases z.testBit k <;> rfl
theorem lin_congr {f g : Nat → Bool} {z k : Nat} (h : ∀ i, i < k → f i = g i) : lin f z k = lin g z k := by
  induction k with
  | zero => rfl
  | succ k ih => simp only [lin]; rw [ih (fun i hi => h i (by omega)), h k (by omega)]
theorem lin_zero (f : Nat → Bool) (k : Nat) : lin f 0 k = false := by
  induction k with
  | zero => rfl
  | succ k ih => simp only [lin]; rw [ih]; simp
theorem lin_pow (f : Nat → Bool) {j k : Nat} (h : j < k) : lin f (2 ^ j) k = f j := by
  have : ∀ k, lin f (2 ^ j) k = (decide (j < k) && f j) := by
    intro k
    induction k with
    | zero => rfl
    | succ k ih =>
      simp only [lin]
      rw [ih, Nat.testBit_two_pow]
      by_cases e : j = k
      · subst e; simp
      · by_cases h : j < k
        · simp [h, e, show j < k + 1 by omega]
        · simp [h, e, show ¬ j < k + 1 by omega]
  rw [this]; simp [h]
theorem lin_at {z j k : Nat} (h : j < k) : lin (fun i => i == j) z k = z.testBit j := by
  have : ∀ k, lin (fun i => i == j) z k = (decide (j < k) && z.testBit j) := by
    intro k
    induction k with
    | zero => rfl
    | succ k ih =>
      simp only [lin]
      rw [ih]
      by_cases e : k = j
      · subst e; simp
      · by_cases h : j < k
        · rw [show (k == j) = false by simpa using e]
          simp [h, show j < k + 1 by omega]
        · rw [show (k == j) = false by simpa using e]
          simp [h, show ¬ j < k + 1 by omega]
  rw [this]; simp [h]
theorem lin_false (z k : Nat) : lin (fun _ => false) z k = false := by
  induction k with
  | zero => rfl
  | succ k ih => simp only [lin]; rw [ih]; rfl
/-- The parity of f over v places. -/
def xsum (f : Nat → Bool) : Nat → Bool
  | 0 => false
  | v + 1 => Bool.xor (xsum f v) (f v)
theorem lin_xsum (f : Nat → Nat → Bool) (z k v : Nat) : lin (fun i => xsum (fun c => f c i) v) z k = xsum (fun c => lin (f c) z k) v := by
  induction v with
  | zero => simp only [xsum]; exact lin_false z k
  | succ v ih => simp only [xsum]; rw [lin_xor_f, ih]
theorem xsum_false {f : Nat → Bool} {v : Nat} (h : ∀ i, i < v → f i = false) : xsum f v = false := by
  induction v with
  | zero => rfl
  | succ v ih => simp only [xsum]; rw [ih (fun i hi => h i (by omega)), h v (by omega)]; rfl
theorem lin_and (b : Bool) (f : Nat → Bool) (z k : Nat) : lin (fun i => b && f i) z k = (b && lin f z k) := by
  cases b
  · simp only [Bool.false_and]; exact lin_false z k
  · simp only [Bool.true_and]
/-- Tells whether an edge has one end at c. -/
def inc (e : Nat → Nat × Nat) (c g : Nat) : Bool := Bool.xor ((e g).1 == c) ((e g).2 == c)
/-- A walk, as the set of the edges that it takes an odd number of times. -/
theorem Cn.chain {e : Nat → Nat × Nat} {n E x y : Nat} (hn : n < 2 ^ E) (h : Cn e n x y) :
    ∃ z, (∀ i, z.testBit i = true → n.testBit i = true) ∧ ∀ c, lin (inc e c) z E = Bool.xor (x == c) (y == c) := by
  induction h with
  | refl => exact ⟨0, fun i hi => by simp at hi, fun c => by rw [lin_zero]; cases x == c <;> rfl⟩
  | fwd k hk _ ih =>
    obtain ⟨z, h1, h2⟩ := ih
    refine ⟨z ^^^ 2 ^ k, fun i hi => ?_, fun c => ?_⟩
    · rw [Nat.testBit_xor, Nat.testBit_two_pow] at hi
      by_cases e1 : k = i
      · rw [← e1]; exact hk
      · simp [e1] at hi; exact h1 i hi
    · rw [lin_xor_z, h2, lin_pow _ (lt_of_testBit hn hk)]
      unfold inc
      cases x == c <;> cases (e k).1 == c <;> cases (e k).2 == c <;> rfl
  | bwd k hk _ ih =>
    obtain ⟨z, h1, h2⟩ := ih
    refine ⟨z ^^^ 2 ^ k, fun i hi => ?_, fun c => ?_⟩
    · rw [Nat.testBit_xor, Nat.testBit_two_pow] at hi
      by_cases e1 : k = i
      · rw [← e1]; exact hk
      · simp [e1] at hi; exact h1 i hi
    · rw [lin_xor_z, h2, lin_pow _ (lt_of_testBit hn hk)]
      unfold inc
      cases x == c <;> cases (e k).1 == c <;> cases (e k).2 == c <;> rfl
/-- The potentials that make f a dual of e. -/
def Potential (e f : Nat → Nat × Nat) (V E : Nat) (p q : Nat → Nat → Bool) : Prop :=
  ∀ k, k < E → ∀ g, g < E → Bool.xor (p (f k).1 g) (p (f k).2 g) = Bool.xor (g == k) (xsum (fun c => q k c && inc e c g) V)
/-- Where the ends of an edge are connected without it, its sides are not. -/
theorem dual_apart {e f : Nat → Nat × Nat} {V E : Nat} {p q : Nat → Nat → Bool} (H : Potential e f V E p q) {n m j : Nat} (hn : n < 2 ^ E) (hm : m < 2 ^ E) (hj : j < E) (hnj : n.testBit j = false) (hmj : m.testBit j = false)
    (hd : ∀ i, n.testBit i = true → m.testBit i = false) (hc : Cn e n (e j).1 (e j).2) : ¬ Cn f m (f j).1 (f j).2 := by
  intro hf
  obtain ⟨z0, h1, h2⟩ := hc.chain hn
  have hz0 : z0.testBit j = false := by
    cases h : z0.testBit j
    · rfl
    · rw [h1 j h] at hnj; cases hnj
  have hz : ∀ c, lin (inc e c) (z0 ^^^ 2 ^ j) E = false := fun c => by
    rw [lin_xor_z, h2, lin_pow _ hj]
    unfold inc
    cases (e j).1 == c <;> cases (e j).2 == c <;> rfl
  have hzj : (z0 ^^^ 2 ^ j).testBit j = true := by rw [Nat.testBit_xor, Nat.testBit_two_pow, hz0]; simp
  have key : ∀ k, k < E → Bool.xor (lin (p (f k).1) (z0 ^^^ 2 ^ j) E) (lin (p (f k).2) (z0 ^^^ 2 ^ j) E) = (z0 ^^^ 2 ^ j).testBit k := fun k hk => by
    rw [← lin_xor_f, lin_congr (fun g hg => H k hk g hg), lin_xor_f, lin_at hk, lin_xsum]
    rw [xsum_false (fun c hc => by rw [lin_and, hz, Bool.and_false])]
    simp
  have same : ∀ u v, Cn f m u v → lin (p u) (z0 ^^^ 2 ^ j) E = lin (p v) (z0 ^^^ 2 ^ j) E := by
    have off : ∀ k, m.testBit k = true → (z0 ^^^ 2 ^ j).testBit k = false := fun k hk => by
      have hne : j ≠ k := by rintro rfl; rw [hmj] at hk; cases hk
      rw [Nat.testBit_xor, Nat.testBit_two_pow]
      cases h : z0.testBit k
      · simp [hne]
      · rw [hd k (h1 k h)] at hk; cases hk
    intro u v h
    induction h with
    | refl => rfl
    | fwd k hk _ ih =>
      rw [ih]
      have := key k (lt_of_testBit hm hk)
      rw [off k hk] at this
      simpa using this
    | bwd k hk _ ih =>
      rw [ih]
      have := key k (lt_of_testBit hm hk)
      rw [off k hk] at this
      symm
      simpa using this
  have h3 := key j hj
  rw [same _ _ hf, hzj] at h3
  cases h4 : lin (p (f j).2) (z0 ^^^ 2 ^ j) E <;> rw [h4] at h3 <;> cases h3
/-- The other edges. -/
def compl (E n : Nat) : Nat := 2 ^ E - (n + 1)
theorem testBit_compl {E n : Nat} (hn : n < 2 ^ E) (i : Nat) : (compl E n).testBit i = (decide (i < E) && !n.testBit i) := Nat.testBit_two_pow_sub_succ hn i
theorem compl_lt {E n : Nat} : compl E n < 2 ^ E := by unfold compl; have := Nat.two_pow_pos E; omega
theorem compl_compl {E n : Nat} (hn : n < 2 ^ E) : compl E (compl E n) = n := by unfold compl; omega
theorem compl_set {E n j : Nat} (hn : n < 2 ^ E) (hj : j < E) (hb : n.testBit j = false) : setB (compl E (setB n j true)) j true = compl E n := by
  apply Nat.eq_of_testBit_eq
  intro i
  rw [testBit_setB, testBit_compl (setB_lt true hn hj), testBit_compl hn, testBit_setB]
  by_cases e : i = j
  · subst e; simp [hj, hb]
  · simp [e]
/-- Euler's count for two dual graphs: it holds for all, if it holds for none and for all edges. -/
theorem dual_count {e f : Nat → Nat × Nat} {V C E : Nat} {p q : Nat → Nat → Bool} (H : Potential e f V E p q) (he : Gr e V E) (hf : Gr f C E) {x y : Nat}
    (h0 : V + x = parts f C E (compl E 0) + y) (h1 : parts e V E (compl E 0) + E + x = C + y) : ∀ n, n < 2 ^ E → parts e V E n + pop E n + x = parts f C E (compl E n) + y := by
  have step : ∀ n j, n < 2 ^ E → j < E → n.testBit j = false → parts e V E (setB n j true) + pop E (setB n j true) + parts f C E (compl E n) ≤ parts e V E n + pop E n + parts f C E (compl E (setB n j true)) := by
    intro n j hn hj hb
    have hn' := setB_lt true hn hj
    have a := parts_add (e := e) hn hj (he j hj).1 (he j hj).2
    have hcb : (compl E (setB n j true)).testBit j = false := by rw [testBit_compl hn', setB_bit]; simp
    have b := parts_add (e := f) (v := C) (compl_lt (E := E) (n := setB n j true)) hj (hf j hj).1 (hf j hj).2
    rw [compl_set hn hj hb] at b
    rw [pop_setB hj hb]
    by_cases hc : Cn e n (e j).1 (e j).2
    · have hd := dual_apart H hn (compl_lt (E := E) (n := setB n j true)) hj hb hcb (fun i hi => by
        rw [testBit_compl hn', testBit_setB]
        split <;> simp [hi]) hc
      have := a.1 hc
      have := b.2 hd
      omega
    · have := a.2 hc
      by_cases hd : Cn f (compl E (setB n j true)) (f j).1 (f j).2
      · have := b.1 hd; omega
      · have := b.2 hd; omega
  have up : ∀ n, n < 2 ^ E → parts e V E n + pop E n + x ≤ parts f C E (compl E n) + y := by
    refine mask_induction ?_ ?_
    · rw [parts_zero]
      have : pop E 0 = 0 := by
        have : ∀ m, pop m 0 = 0 := by
          intro m
          induction m with
          | zero => rfl
          | succ m ih => simp only [pop]; rw [ih]; simp
        exact this E
      omega
    · intro n j hn hj hb ih
      have := step n j hn hj hb
      omega
  have down : ∀ m, m < 2 ^ E → parts f C E m + y ≤ parts e V E (compl E m) + pop E (compl E m) + x := by
    refine mask_induction ?_ ?_
    · rw [parts_zero]
      have : pop E (compl E 0) = E := by
        have : ∀ m, m ≤ E → pop m (compl E 0) = m := by
          intro m
          induction m with
          | zero => intro _; rfl
          | succ m ih =>
            intro hm
            simp only [pop]
            rw [ih (by omega), testBit_compl (Nat.two_pow_pos E)]
            simp; omega
        exact this E (Nat.le_refl E)
      omega
    · intro m j hm hj hb ih
      have hm' := setB_lt true hm hj
      have hb' : (compl E (setB m j true)).testBit j = false := by rw [testBit_compl hm', setB_bit]; simp
      have := step (compl E (setB m j true)) j compl_lt hj hb'
      rw [compl_set hm hj hb, compl_compl hm, compl_compl hm'] at this
      omega
  intro n hn
  have a := up n hn
  have b := down (compl E n) compl_lt
  rw [compl_compl hn] at b
  omega
/-- The corners on the edge count as one. -/
def zc (W H c : Nat) : Nat := if c % (W + 1) = 0 ∨ c % (W + 1) = W ∨ c / (W + 1) = 0 ∨ c / (W + 1) = H then 0 else c
def cornersN (W H g : Nat) : Nat × Nat :=
  let b := (ends W H g).2
  let first := b / W * (W + 1) + b % W
  if g < (W - 1) * H then (first, first + W + 1) else (first, first + 1)
def duals (W H g : Nat) : Nat × Nat := (zc W H (cornersN W H g).1, zc W H (cornersN W H g).2)
def ppm (W H u g : Nat) : Bool := decide (u ≠ 0 ∧ g < (W - 1) * H ∧ g % (W - 1) + 1 = u % (W + 1) ∧ g / (W - 1) < u / (W + 1))
def qpm (W H k c : Nat) : Bool :=
  if k < (W - 1) * H then decide (k / (W - 1) + 1 = H ∧ c % W ≤ k % (W - 1)) else decide (c % W = (k - (W - 1) * H) % W ∧ c / W ≤ (k - (W - 1) * H) / W)
def potB (W H : Nat) : Bool :=
  let V := cellsN W H
  let E := gapsN W H
  decide (∀ k, k < E → ∀ g, g < E → Bool.xor (ppm W H (duals W H k).1 g) (ppm W H (duals W H k).2 g) = Bool.xor (g == k) (xsum (fun c => qpm W H k c && inc (ends W H) c g) V))
theorem pot_all : ∀ W : Nat, W < 5 → ∀ H : Nat, H < 5 → potB W H = true := by decide +kernel
def cornN (W H : Nat) : Nat := (W + 1) * (H + 1)
def dgB (W H : Nat) : Bool := decide (∀ g, g < gapsN W H → (duals W H g).1 < cornN W H ∧ (duals W H g).2 < cornN W H ∧ (cornersN W H g).1 < cornN W H ∧ (cornersN W H g).2 < cornN W H)
theorem dg_all : ∀ W : Nat, W < 5 → ∀ H : Nat, H < 5 → gridOk W H = true → dgB W H = true := by decide +kernel
theorem dual_gr (W H : Nat) (hW : W < 5) (hH : H < 5) (hg : gridOk W H = true) (g : Nat) (h : g < gapsN W H) : (duals W H g).1 < cornN W H ∧ (duals W H g).2 < cornN W H ∧ (cornersN W H g).1 < cornN W H ∧ (cornersN W H g).2 < cornN W H := by
  have := dg_all W hW H hH hg
  unfold dgB at this
  exact of_decide_eq_true this g h
theorem dual_none : ∀ W : Nat, W < 5 → ∀ H : Nat, H < 5 → gridOk W H = true → cellsN W H + (cornN W H - 1 - (W - 1) * (H - 1)) = parts (duals W H) (cornN W H) (gapsN W H) (compl (gapsN W H) 0) + (cellsN W H - 1) := by decide +kernel
theorem dual_full : ∀ W : Nat, W < 5 → ∀ H : Nat, H < 5 → gridOk W H = true → parts (ends W H) (cellsN W H) (gapsN W H) (compl (gapsN W H) 0) + gapsN W H + (cornN W H - 1 - (W - 1) * (H - 1)) = cornN W H + (cellsN W H - 1) := by decide +kernel
/-- Euler's count of a maze and its walls. -/
theorem euler {W H n : Nat} (hW : W < 5) (hH : H < 5) (hg : gridOk W H = true) (hn : n < 2 ^ gapsN W H) :
    parts (ends W H) (cellsN W H) (gapsN W H) n + pop (gapsN W H) n + (cornN W H - 1 - (W - 1) * (H - 1)) = parts (duals W H) (cornN W H) (gapsN W H) (compl (gapsN W H) n) + (cellsN W H - 1) := by
  have hp := pot_all W hW H hH
  unfold potB at hp
  simp only [decide_eq_true_eq] at hp
  refine dual_count (p := ppm W H) (q := qpm W H) hp (gr_grid W H) (fun j hj => ?_) (dual_none W hW H hH hg) (dual_full W hW H hH hg) n hn
  have := gapsN_le W H
  have := dual_gr W H hW hH hg j hj
  omega
end Go.Proofs.Ytbeajmcjfhbcjaa.P
namespace Go.Proofs.Ytbeajmcjfhbcjaa.P
open Go.RowKit Go.Proofs.YtbeajmcjfhbcjaaW.PrintWords
set_option linter.unusedVariables false
set_option linter.unusedSimpArgs false

theorem icI_all : ∀ W : Nat, W < 5 → ∀ H : Nat, H < 5 → gridOk W H = true → ∀ c : Nat, c < cornN W H → impl_IsEdgeCorner.f W H c = some (decide (zc W H c = 0)) := by decide +kernel
theorem coI_all' : ∀ W : Nat, W < 5 → ∀ H : Nat, H < 5 → gridOk W H = true → ∀ g : Nat, g < gapsN W H → (impl_CornersOf.f W H g).map (fun p => p.1) = some ((cornersN W H g).1 : Int) ∧ (impl_CornersOf.f W H g).map (fun p => p.2) = some ((cornersN W H g).2 : Int) := by decide +kernel
theorem coI_all (W : Nat) (hW : W < 5) (H : Nat) (hH : H < 5) (hg : gridOk W H = true) (g : Nat) (h : g < gapsN W H) : impl_CornersOf.f W H g = some (((cornersN W H g).1 : Int), ((cornersN W H g).2 : Int)) := by
  obtain ⟨h1, h2⟩ := coI_all' W hW H hH hg g h
  cases e : impl_CornersOf.f W H g with
  | none => rw [e] at h1; cases h1
  | some p =>
    obtain ⟨a, b⟩ := p
    rw [e] at h1 h2
    simp only [Option.map_some, Option.some.injEq] at h1 h2
    rw [h1, h2]
theorem ccI_all : ∀ W : Nat, W < 5 → ∀ H : Nat, H < 5 → gridOk W H = true → impl_CountCorners.f W H = some (cornN W H : Int) := by decide +kernel
theorem cornN_le {W H : Nat} (hW : W < 5) (hH : H < 5) : 1 ≤ cornN W H ∧ cornN W H ≤ 25 := by
  unfold cornN
  have h1 : (W + 1) * (H + 1) ≤ 5 * 5 := Nat.mul_le_mul (by omega) (by omega)
  have h2 : 1 * 1 ≤ (W + 1) * (H + 1) := Nat.mul_le_mul (by omega) (by omega)
  omega
theorem zc_or (W H c : Nat) : zc W H c = 0 ∨ zc W H c = c := by unfold zc; split <;> simp
theorem zc_zero (W H : Nat) : zc W H 0 = 0 := by rcases zc_or W H 0 with h | h <;> exact h
theorem zc_idem (W H c : Nat) : zc W H (zc W H c) = zc W H c := by
  rcases zc_or W H c with h | h
  · rw [h, zc_zero]
  · rw [h, h]
theorem zc_le (W H c : Nat) : zc W H c ≤ c := by rcases zc_or W H c with h | h <;> omega
/-- The edge corners under i, but the first. -/
def eg (W H i : Nat) : Nat := cnt (fun c => decide (zc W H c = 0) && decide (c ≠ 0)) i
theorem eg_le (W H i : Nat) : eg W H i ≤ i := cnt_le _ _
theorem eg0_all : ∀ W : Nat, W < 5 → ∀ H : Nat, H < 5 → gridOk W H = true → eg W H (cornN W H) = cornN W H - 1 - (W - 1) * (H - 1) := by decide +kernel
/-- What the labels say. -/
def Lb (W H m : Nat) (L : Nat → Nat) : Prop := ∀ x y, x < cornN W H → y < cornN W H → (L x = L y ↔ Cn (duals W H) m (zc W H x) (zc W H y))
def jn (L : Nat → Nat) (a b : Nat) : Nat → Nat := fun i => if L i = L b then L a else L i
theorem Lb_join {W H m j a b : Nat} {L : Nat → Nat} (h : Lb W H m L) (ha : a < cornN W H) (hb : b < cornN W H) (e1 : (duals W H j).1 = zc W H a) (e2 : (duals W H j).2 = zc W H b) : Lb W H (setB m j true) (jn L a b) := by
  intro x y hx hy
  rw [Cn_add, e1, e2, ← h x y hx hy, ← h x a hx ha, ← h b y hb hy, ← h x b hx hb, ← h a y ha hy]
  unfold jn
  split <;> split <;> omega
def Lw (W H n : Nat) : Nat → Nat → Nat
  | 0 => zc W H
  | i + 1 => if n.testBit i = true then Lw W H n i else jn (Lw W H n i) (cornersN W H i).1 (cornersN W H i).2
section
variable {W H n : Nat} (hW : W < 5) (hH : H < 5) (hg : gridOk W H = true) (hn : n < 2 ^ gapsN W H)
include hn in
theorem mod_next {i : Nat} (hi : i < gapsN W H) : (n.testBit i = true → compl (gapsN W H) n % 2 ^ (i + 1) = compl (gapsN W H) n % 2 ^ i) ∧ (n.testBit i = false → compl (gapsN W H) n % 2 ^ (i + 1) = setB (compl (gapsN W H) n % 2 ^ i) i true) := by
  have hc := testBit_compl hn i
  rw [decide_eq_true hi, Bool.true_and] at hc
  constructor
  · intro h
    refine Nat.eq_of_testBit_eq fun t => ?_
    rw [Nat.testBit_mod_two_pow, Nat.testBit_mod_two_pow]
    by_cases e : t = i
    · subst e
      rw [hc, h]; simp
    · congr 1
      rw [decide_eq_decide]
      omega
  · intro h
    refine Nat.eq_of_testBit_eq fun t => ?_
    rw [testBit_setB, Nat.testBit_mod_two_pow, Nat.testBit_mod_two_pow]
    by_cases e : t = i
    · subst e
      rw [hc, h]; simp
    · rw [if_neg e]
      congr 1
      rw [decide_eq_decide]
      omega
include hW hH hg hn in
theorem Lw_lb : ∀ i, i ≤ gapsN W H → Lb W H (compl (gapsN W H) n % 2 ^ i) (Lw W H n i)
  | 0, _ => by
    intro x y _ _
    rw [show compl (gapsN W H) n % 2 ^ 0 = 0 from Nat.mod_one _, Cn_zero]
    rfl
  | i + 1, hi => by
    have ih := Lw_lb i (by omega)
    have hd := dual_gr W H hW hH hg i (by omega)
    have hm := mod_next hn (show i < gapsN W H by omega)
    unfold Lw
    cases hb : n.testBit i with
    | true => rw [if_pos rfl, hm.1 hb]; exact ih
    | false =>
      rw [if_neg (by decide), hm.2 hb]
      exact Lb_join ih hd.2.2.1 hd.2.2.2 rfl rfl
/-- What the count of walls' parts is while gaps are gone through. -/
def pw (W H n i : Nat) : Nat := parts (duals W H) (cornN W H) (gapsN W H) (compl (gapsN W H) n % 2 ^ i)
include hW hH hg hn in
theorem pw_next {i : Nat} (hi : i < gapsN W H) : (n.testBit i = true → pw W H n (i + 1) = pw W H n i) ∧ (n.testBit i = false → (Lw W H n i (cornersN W H i).1 = Lw W H n i (cornersN W H i).2 → pw W H n (i + 1) = pw W H n i) ∧ (Lw W H n i (cornersN W H i).1 ≠ Lw W H n i (cornersN W H i).2 → pw W H n i = pw W H n (i + 1) + 1)) := by
  have hd := dual_gr W H hW hH hg i (by omega)
  have hm := mod_next hn hi
  have hl := Lw_lb hW hH hg hn i (by omega) _ _ hd.2.2.1 hd.2.2.2
  have hlt : compl (gapsN W H) n % 2 ^ i < 2 ^ gapsN W H := Nat.lt_of_le_of_lt (Nat.mod_le _ _) compl_lt
  have hp := parts_add (e := duals W H) (v := cornN W H) hlt hi hd.1 hd.2.1
  refine ⟨fun h => ?_, fun h => ⟨fun e => ?_, fun e => ?_⟩⟩
  · unfold pw; rw [hm.1 h]
  · unfold pw; rw [hm.2 h]; exact hp.1 (hl.1 e)
  · unfold pw; rw [hm.2 h]; exact hp.2 fun q => e (hl.2 q)
theorem dlist_congr {v : Nat} {D E : Nat → Int} (h : ∀ i, i < v → D i = E i) : dlist v D = dlist v E := List.map_congr_left fun i hi => h i (List.mem_range.1 hi)
/-- A list of labels. -/
def nl (v : Nat) (L : Nat → Nat) : List Int := dlist v fun i => (L i : Int)
theorem nl_length (v : Nat) (L : Nat → Nat) : (nl v L).length = v := dlist_length _ _
theorem rd_nl {v : Nat} {L : Nat → Nat} {c : Nat} (h : c < v) : rd (nl v L) (c : Int) = L c := rd_dlist h
theorem joinL_nl {v : Nat} {L : Nat → Nat} {a b : Nat} : impl_WallParts.joinL (L a) (L b) (nl v L) = nl v (jn L a b) := by
  unfold impl_WallParts.joinL nl dlist
  rw [List.map_map]
  refine List.map_congr_left fun i _ => ?_
  simp only [Function.comp, jn]
  by_cases e : L i = L b
  · rw [if_pos e, if_pos (by omega)]
  · rw [if_neg e, if_neg (by omega)]
theorem join_nl {v : Nat} {L : Nat → Nat} {a b : Nat} {n : Int} (ha : a < v) (hb : b < v) : impl_WallParts.join (nl v L) n a b = some (nl v (jn L a b), if L a = L b then n else wrap64 (n - 1)) := by
  unfold impl_WallParts.join
  rw [if_pos (by rw [nl_length]; omega), rd_nl ha, rd_nl hb]
  by_cases e : L a = L b
  · rw [if_pos (by omega), if_pos e]
    congr 2
    refine dlist_congr fun i _ => ?_
    unfold jn
    split <;> omega
  · rw [if_neg (by omega), if_neg e, joinL_nl]
def zb (W H i : Nat) : Nat → Nat := fun x => if x < i then zc W H x else x
include hW hH hg in
theorem impl_c0 : ∀ d i : Nat, i + d = cornN W H → impl_WallParts.c0 W H d i (nl (cornN W H) (zb W H i)) ((cornN W H : Int) - eg W H i) = some (nl (cornN W H) (zc W H), (cornN W H : Int) - eg W H (cornN W H))
  | 0, i, hd => by
    unfold impl_WallParts.c0
    rw [show i = cornN W H by omega]
    congr 2
    refine dlist_congr fun x hx => ?_
    unfold zb
    rw [if_pos hx]
  | d + 1, i, hd => by
    have hN := cornN_le hW hH
    have he := eg_le W H i
    have ih := impl_c0 d (i + 1) (by omega)
    unfold impl_WallParts.c0
    rw [icI_all W hW H hH hg i (by omega), Option.bind_some]
    by_cases hz : zc W H i = 0
    · rw [if_pos (by rw [hz]; rfl), show (0 : Int) = ((0 : Nat) : Int) from rfl, join_nl (by omega) (by omega), Option.bind_some]
      have e1 : nl (cornN W H) (jn (zb W H i) 0 i) = nl (cornN W H) (zb W H (i + 1)) := by
        refine dlist_congr fun x hx => ?_
        have h0 : zb W H i 0 = 0 := by unfold zb; split
                                       · exact zc_zero W H
                                       · rfl
        have hi : zb W H i i = i := by unfold zb; rw [if_neg (by omega)]
        unfold jn
        rw [h0, hi]
        unfold zb
        by_cases hx1 : x < i
        · rw [if_pos hx1, if_pos (show x < i + 1 by omega)]
          rcases zc_or W H x with q | q <;> rw [q] <;> split <;> omega
        · rw [if_neg hx1]
          by_cases hx2 : x = i
          · subst hx2; rw [if_pos rfl, if_pos (by omega), hz]
          · rw [if_neg hx2, if_neg (by omega)]
      have e2 : (if zb W H i 0 = zb W H i i then ((cornN W H : Int) - eg W H i) else wrap64 ((cornN W H : Int) - eg W H i - 1)) = (cornN W H : Int) - eg W H (i + 1) := by
        have h0 : zb W H i 0 = 0 := by unfold zb; split
                                       · exact zc_zero W H
                                       · rfl
        have hi : zb W H i i = i := by unfold zb; rw [if_neg (by omega)]
        rw [h0, hi]
        by_cases q : i = 0
        · subst q
          rw [if_pos rfl]
          simp [eg, cnt]
        · rw [if_neg (by omega), wrap64_id (by omega) (by omega)]
          have : eg W H (i + 1) = eg W H i + 1 := by
            unfold eg; simp only [cnt]; rw [hz]; simp [q]
          omega
      simp only [e1, e2]
      exact ih
    · rw [if_neg (by simp [hz])]
      have e1 : nl (cornN W H) (zb W H i) = nl (cornN W H) (zb W H (i + 1)) := by
        refine dlist_congr fun x hx => ?_
        unfold zb
        by_cases hx1 : x < i
        · rw [if_pos hx1, if_pos (by omega)]
        · rw [if_neg hx1]
          by_cases hx2 : x = i
          · subst hx2
            rw [if_pos (by omega)]
            rcases zc_or W H x with q | q
            · exact absurd q hz
            · rw [q]
          · rw [if_neg (by omega)]
      have e2 : eg W H i = eg W H (i + 1) := by unfold eg; simp only [cnt]; simp [hz]
      rw [e1, e2]
      exact ih
include hW hH hg hn in
theorem impl_c1 : ∀ d i : Nat, i + d = gapsN W H → impl_WallParts.c1 W H n d i (nl (cornN W H) (Lw W H n i)) ((pw W H n i : Int) - eg W H (cornN W H)) = some (nl (cornN W H) (Lw W H n (gapsN W H)), (pw W H n (gapsN W H) : Int) - eg W H (cornN W H))
  | 0, i, hd => by
    unfold impl_WallParts.c1
    rw [show i = gapsN W H by omega]
  | d + 1, i, hd => by
    have hN := cornN_le hW hH
    have he := eg_le W H (cornN W H)
    have hp : pw W H n i ≤ cornN W H := cnt_le _ _
    have ih := impl_c1 d (i + 1) (by omega)
    have hd2 := dual_gr W H hW hH hg i (by omega)
    have hx := pw_next hW hH hg hn (show i < gapsN W H by omega)
    unfold impl_WallParts.c1
    rw [impl_isOpen_eq W H (open_small hn), Option.bind_some, openI_nat']
    cases hb : n.testBit i with
    | true =>
      rw [if_pos rfl]
      have e1 : Lw W H n (i + 1) = Lw W H n i := by rw [Lw]; rw [if_pos hb]
      rw [e1, hx.1 hb] at ih
      exact ih
    | false =>
      rw [if_neg (by decide), coI_all W hW H hH hg i (by omega), Option.bind_some, join_nl hd2.2.2.1 hd2.2.2.2, Option.bind_some]
      have e1 : Lw W H n (i + 1) = jn (Lw W H n i) (cornersN W H i).1 (cornersN W H i).2 := by rw [Lw]; rw [if_neg (by rw [hb]; decide)]
      have e2 : (if Lw W H n i (cornersN W H i).1 = Lw W H n i (cornersN W H i).2 then ((pw W H n i : Int) - eg W H (cornN W H)) else wrap64 ((pw W H n i : Int) - eg W H (cornN W H) - 1)) = (pw W H n (i + 1) : Int) - eg W H (cornN W H) := by
        by_cases q : Lw W H n i (cornersN W H i).1 = Lw W H n i (cornersN W H i).2
        · rw [if_pos q, (hx.2 hb).1 q]
        · have := (hx.2 hb).2 q
          rw [if_neg q, wrap64_id (by omega) (by omega)]
          omega
      simp only [← e1, e2]
      exact ih
end
end Go.Proofs.Ytbeajmcjfhbcjaa.P
namespace Go.Proofs.Ytbeajmcjfhbcjaa.P
open Go.RowKit Go.Proofs.YtbeajmcjfhbcjaaW.PrintWords
set_option linter.unusedVariables false
set_option linter.unusedSimpArgs false

theorem cnt_two {p q r : Nat → Bool} : ∀ v, (∀ i, i < v → p i = (q i || r i)) → (∀ i, i < v → ¬ (q i = true ∧ r i = true)) → cnt p v = cnt q v + cnt r v
  | 0, _, _ => rfl
  | v + 1, h1, h2 => by
    have ih := cnt_two v (fun i hi => h1 i (by omega)) (fun i hi => h2 i (by omega))
    have a := h1 v (by omega)
    have b := h2 v (by omega)
    simp only [cnt]
    rw [ih, a]
    cases hq : q v <;> cases hr : r v <;> simp [hq, hr] at b ⊢ <;> omega
section
variable {W H n : Nat} (hW : W < 5) (hH : H < 5) (hg : gridOk W H = true) (hn : n < 2 ^ gapsN W H)
def firstB (L : Nat → Nat) (c : Nat) : Bool := decide (∀ j, j < c → L j ≠ L c)
theorem Cn_touch {e : Nat → Nat × Nat} {m x y : Nat} (h : Cn e m x y) : x = y ∨ ∃ k, (e k).1 = x ∨ (e k).2 = x := by
  induction h with
  | refl => exact .inl rfl
  | fwd k hk _ ih =>
    rcases ih with ih | ih
    · exact .inr ⟨k, .inl ih.symm⟩
    · exact .inr ih
  | bwd k hk _ ih =>
    rcases ih with ih | ih
    · exact .inr ⟨k, .inr ih.symm⟩
    · exact .inr ih
theorem touch_zc {k x : Nat} (h : (duals W H k).1 = x ∨ (duals W H k).2 = x) : zc W H x = x := by
  unfold duals at h
  rcases h with h | h <;> rw [← h] <;> exact zc_idem _ _ _
theorem Cn_sym {e : Nat → Nat × Nat} {m x y : Nat} (h : Cn e m x y) : Cn e m y x := by
  induction h with
  | refl => exact .refl _
  | fwd k hk _ ih => exact (Cn.bwd k hk (.refl _)).trans ih
  | bwd k hk _ ih => exact (Cn.fwd k hk (.refl _)).trans ih
theorem firsts {m : Nat} {L : Nat → Nat} (hm : m < 2 ^ gapsN W H) (hL : Lb W H m L) : parts (duals W H) (cornN W H) (gapsN W H) m = cnt (firstB L) (cornN W H) + eg W H (cornN W H) := by
  unfold parts eg
  refine cnt_two _ (fun c hc => ?_) (fun c hc => ?_)
  · rw [Bool.eq_iff_iff, rep_iff hm, Bool.or_eq_true, Bool.and_eq_true]
    simp only [firstB, decide_eq_true_eq]
    constructor
    · intro h
      by_cases hz : zc W H c = 0 ∧ c ≠ 0
      · exact .inr hz
      · left
        intro j hj e
        have hc0 : zc W H c = c := by rcases zc_or W H c with q | q <;> omega
        have := (hL j c (by omega) hc).1 e
        rw [hc0] at this
        have h1 := h _ (Cn_sym this)
        have h2 := zc_le W H j
        omega
    · rintro (h | ⟨h1, h2⟩)
      · intro y hy
        have hc0 : zc W H c = c := by
          rcases zc_or W H c with q | q
          · by_cases e : c = 0
            · rw [e]; exact zc_zero W H
            · exfalso
              refine h 0 (by omega) ((hL 0 c (by omega) hc).2 ?_)
              rw [zc_zero, q]
              exact .refl _
          · exact q
        rcases Nat.lt_or_ge y c with hlt | hge
        · exfalso
          refine h y hlt ((hL y c (by omega) hc).2 ?_)
          rcases Cn_touch (Cn_sym hy) with q | ⟨k, q⟩
          · omega
          · rw [touch_zc q, hc0]
            exact Cn_sym hy
        · exact hge
      · intro y hy
        rcases Cn_touch hy with q | ⟨k, q⟩
        · omega
        · have := touch_zc q
          omega
  · simp only [firstB, Bool.and_eq_true, decide_eq_true_eq]
    rintro ⟨h1, h2, h3⟩
    refine h1 0 (by omega) ((hL 0 c (by omega) hc).2 ?_)
    rw [zc_zero, h2]
    exact .refl _
/-- The parts of the walls. -/
def wpN (W H n : Nat) : Nat := partsN W H n + pop (gapsN W H) n - (cellsN W H - 1)
include hW hH hg hn in
theorem wp_value : (pw W H n (gapsN W H) : Int) - eg W H (cornN W H) = (wpN W H n : Nat) ∧ cellsN W H - 1 ≤ partsN W H n + pop (gapsN W H) n ∧ cnt (firstB (Lw W H n (gapsN W H))) (cornN W H) = wpN W H n := by
  have he := euler hW hH hg hn
  have hc : compl (gapsN W H) n % 2 ^ gapsN W H = compl (gapsN W H) n := Nat.mod_eq_of_lt compl_lt
  have hf := firsts (compl_lt (E := gapsN W H) (n := n)) (by have := Lw_lb hW hH hg hn _ (Nat.le_refl _); rwa [hc] at this)
  have h0 := eg0_all W hW H hH hg
  unfold pw wpN partsN
  rw [hc]
  generalize parts (duals W H) (cornN W H) (gapsN W H) (compl (gapsN W H) n) = A at *
  generalize parts (ends W H) (cellsN W H) (gapsN W H) n = B at *
  rw [← h0] at he
  generalize cnt (firstB (Lw W H n (gapsN W H))) (cornN W H) = F at *
  omega
include hW hH hg hn in
theorem impl_WallParts_ev : Ev (fun k => impl_WallParts.f k W H n) (wpN W H n : Int) := by
  have hN := cornN_le hW hH
  have hgc := gapsN_cast W H
  have h24 := gapsN_le W H
  unfold impl_WallParts.f
  refine Ev.bnd0 (impl_MazeOk_eq W H n) (Ev.tt (mazeOk_nat hg hn) (Ev.bnd0 (ccI_all W hW H hH hg) (Ev.bind (impl_upTo_ev (cornN W H) (by omega)) ?_)))
  have e0 : run 0 (cornN W H) = nl (cornN W H) (zb W H 0) := by
    unfold run nl dlist
    refine List.map_congr_left fun i _ => ?_
    unfold zb
    rw [if_neg (by omega), Nat.zero_add]
  rw [e0]
  refine Ev.tt (by rw [nl_length]; omega) ?_
  have h0 := impl_c0 hW hH hg (cornN W H) 0 (by omega)
  rw [show ((cornN W H : Nat) : Int) - (eg W H 0 : Nat) = ((nl (cornN W H) (zb W H 0)).length : Int) by rw [nl_length]; simp [eg, cnt]] at h0
  rw [nl_length] at h0 ⊢
  refine Ev.bnd0 h0 (Ev.bnd0 (impl_CountGaps_eq W H) (Ev.tt (by omega) ?_))
  have h1 := impl_c1 hW hH hg hn (gapsN W H) 0 (by omega)
  have e1 : pw W H n 0 = cornN W H := by
    unfold pw
    rw [show compl (gapsN W H) n % 2 ^ 0 = 0 from Nat.mod_one _, parts_zero]
  rw [e1] at h1
  rw [show (gapsOf (W : Int) (H : Int)).toNat = gapsN W H by omega]
  refine Ev.bnd0 h1 (Ev.ret ?_)
  exact (wp_value hW hH hg hn).1
include hW hH hg in
def md (L : Nat → Nat) (a b t : Nat) : Nat → Nat := fun x => if x < t then jn L a b x else L x
include hW hH hn in
include hW hH hg hn in
include hW hH hg hn in
end
end Go.Proofs.Ytbeajmcjfhbcjaa.P
namespace Go.Proofs.Ytbeajmcjfhbcjaa.P
open Go.RowKit Go.Proofs.YtbeajmcjfhbcjaaW.PrintWords
set_option linter.unusedVariables false
set_option linter.unusedSimpArgs false

theorem gc_all : ∀ W : Nat, W < 5 → ∀ H : Nat, H < 5 → gridOk W H = true → gapsN W H + 1 = cellsN W H + (W - 1) * (H - 1) ∧ (W - 1) * (H - 1) ≤ 9 ∧ ((W : Int) - 1) * ((H : Int) - 1) = ((W - 1) * (H - 1) : Nat) := by decide +kernel
def wtB (W H n : Nat) : Bool := if wpN W H n = 1 then partsN W H n == 1 else false
section
variable {W H n : Nat} (hW : W < 5) (hH : H < 5) (hg : gridOk W H = true) (hn : n < 2 ^ gapsN W H)
include hW hH hg hn
theorem loops_val : wrap64 (wrap64 (wrap64 (wrap64 ((gapsOf (W : Int) (H : Int)) - (pop (gapsN W H) n : Nat)) - wrap64 (wrap64 ((W : Int) - 1) * wrap64 ((H : Int) - 1))) - 1) + (wpN W H n : Nat)) = (partsN W H n : Int) - 1 := by
  have hgr := gridOk_iff.1 hg
  have hgc := gapsN_cast W H
  have h24 := gapsN_le W H
  have h16 := cellsN_le W H
  have hc := gc_all W hW H hH hg
  have hp := partsN_le W H n
  have hpo := pop_le (gapsN W H) n
  have hw := (wp_value hW hH hg hn).2.1
  have hV := cells_pos hg
  have e : wpN W H n = partsN W H n + pop (gapsN W H) n - (cellsN W H - 1) := rfl
  rw [wrap64_id (x := (W : Int) - 1) (by omega) (by omega), wrap64_id (x := (H : Int) - 1) (by omega) (by omega), hc.2.2, wrap64_id (x := (((W - 1) * (H - 1) : Nat) : Int)) (by omega) (by omega)]
  generalize (W - 1) * (H - 1) = q at *
  rw [wrap64_id (x := gapsOf (W : Int) (H : Int) - (pop (gapsN W H) n : Nat)) (by omega) (by omega), wrap64_id (x := gapsOf (W : Int) (H : Int) - (pop (gapsN W H) n : Nat) - (q : Nat)) (by omega) (by omega), wrap64_id (x := gapsOf (W : Int) (H : Int) - (pop (gapsN W H) n : Nat) - (q : Nat) - 1) (by omega) (by omega), wrap64_id (by omega) (by omega)]
  omega
theorem impl_WallLoops_ev : Ev (fun k => impl_WallLoops.f k W H n) ((partsN W H n : Int) - 1) := by
  unfold impl_WallLoops.f
  exact Ev.bnd0 (impl_MazeOk_eq ..) (Ev.tt (mazeOk_nat hg hn) (Ev.bnd0 (impl_CountGaps_eq ..) (Ev.bnd0 (impl_CountPassages_eq hg hn) (Ev.bind (impl_WallParts_ev hW hH hg hn) (Ev.ret (loops_val hW hH hg hn))))))
omit hW hH hg hn in
theorem wt_last (h : wpN W H n = 1) : (((partsN W H n : Int) - 1) == 0) = wtB W H n := by
  unfold wtB
  rw [if_pos h, Bool.eq_iff_iff, beq_iff_eq, beq_iff_eq]
  omega
theorem impl_IsWallTree_ev : Ev (fun k => impl_IsWallTree.f k W H n) (wtB W H n) := by
  unfold impl_IsWallTree.f
  refine Ev.bnd0 (impl_MazeOk_eq ..) (Ev.tt (mazeOk_nat hg hn) (Ev.bind (impl_WallParts_ev hW hH hg hn) (Ev.ite (fun h => ?_) (fun h => Ev.ret ?_))))
  · exact Ev.bind (impl_WallLoops_ev hW hH hg hn) (Ev.ret (wt_last (by omega)))
  · unfold wtB; rw [if_neg (by omega)]
theorem wt_perf : wtB W H n = perfN W H n := by
  have hw := (wp_value hW hH hg hn).2.1
  have hV := cells_pos hg
  have e : wpN W H n = partsN W H n + pop (gapsN W H) n - (cellsN W H - 1) := rfl
  have hp : perfN W H n = true ↔ partsN W H n = 1 ∧ pop (gapsN W H) n + 1 = cellsN W H := perf_iff
  rw [Bool.eq_iff_iff, hp]
  unfold wtB
  by_cases q : wpN W H n = 1
  · rw [if_pos q, beq_iff_eq]; omega
  · rw [if_neg q]
    constructor
    · intro h; cases h
    · intro h; omega
end
end Go.Proofs.Ytbeajmcjfhbcjaa.P
namespace Go.Proofs.Ytbeajmcjfhbcjaa.P
open Go.RowKit Go.Proofs.YtbeajmcjfhbcjaaW.PrintWords Go.Proofs.YtbeajmcjfhbcjaaW.PrintLast Go.Proofs.YtbeajmcjfhbcjaaW.PrintMore
attribute [local go_sem] max2_int min2_int max_two min_two max_three min_three max_four min_four   -- for this text's walks alone
set_option linter.unusedVariables false
set_option linter.unusedSimpArgs false

/-! ### laws_szIntS: function 79 -/
/-! ### laws_toIntS: function 30 -/
/-! ### laws_eqIntS: function 33 -/
/-! ### laws_szIntSS: function 23 -/
/-! ### laws_toIntSS: function 26 -/
/-! ### laws_eqIntSS: function 28 -/
end Go.Proofs.Ytbeajmcjfhbcjaa.P
namespace Go.Proofs.Ytbeajmcjfhbcjaa.P
open Go.RowKit Go.Proofs.YtbeajmcjfhbcjaaW.PrintWords
set_option linter.unusedVariables false
set_option linter.unusedSimpArgs false

/-- One entry changed. -/
def put (f : Nat → Nat → Int) (a b : Nat) (v : Int) : Nat → Nat → Int := fun r => if r = a then upd (f a) b v else f r
/-- Bounded entries. -/
def Bd (f : Nat → Nat → Int) (B : Int) : Prop := ∀ i j, -B ≤ f i j ∧ f i j ≤ B
theorem Bd.mono {f : Nat → Nat → Int} {B C : Int} (h : Bd f B) (hc : B ≤ C) : Bd f C := fun i j => by have := h i j; omega
end Go.Proofs.Ytbeajmcjfhbcjaa.P
namespace Go.Proofs.Ytbeajmcjfhbcjaa.P
open Go.RowKit Go.Proofs.YtbeajmcjfhbcjaaW.PrintWords
set_option linter.unusedVariables false
set_option linter.unusedSimpArgs false

section
variable {e : Nat → Nat × Nat} {V E : Nat}
/-- Below k = E - d all is decided, from k on nothing. -/
structure Dec (E d c b : Nat) : Prop where
  cl : c < 2 ^ E
  bl : b < 2 ^ E
  dis : ∀ i, c.testBit i = true → b.testBit i = false
  done : ∀ i, i < E - d → c.testBit i = false → b.testBit i = true
  todo : ∀ i, E - d ≤ i → c.testBit i = false ∧ b.testBit i = false
theorem Dec.start : Dec E E 0 0 := ⟨Nat.two_pow_pos E, Nat.two_pow_pos E, fun i h => by simp at h, fun i h => by omega, fun i _ => by simp⟩
theorem Dec.on {d c b : Nat} (h : Dec E (d + 1) c b) (hd : d + 1 ≤ E) : Dec E d (setB c (E - (d + 1)) true) b where
  cl := setB_lt true h.cl (by omega)
  bl := h.bl
  dis := fun i hi => by
    rw [testBit_setB] at hi
    split at hi
    · rename_i e1; rw [e1]; exact (h.todo _ (Nat.le_refl _)).2
    · exact h.dis i hi
  done := fun i hi hc => by
    rw [testBit_setB] at hc
    split at hc
    · cases hc
    · exact h.done i (by omega) hc
  todo := fun i hi => by
    rw [testBit_setB, if_neg (by omega)]
    exact h.todo i (by omega)
theorem Dec.off {d c b : Nat} (h : Dec E (d + 1) c b) (hd : d + 1 ≤ E) : Dec E d c (setB b (E - (d + 1)) true) where
  cl := h.cl
  bl := setB_lt true h.bl (by omega)
  dis := fun i hi => by
    rw [testBit_setB]
    split
    · rename_i e1; rw [e1, (h.todo _ (Nat.le_refl _)).1] at hi; cases hi
    · exact h.dis i hi
  done := fun i hi hc => by
    rw [testBit_setB]
    split
    · rfl
    · exact h.done i (by omega) hc
  todo := fun i hi => by
    rw [testBit_setB, if_neg (by omega)]
    exact h.todo i (by omega)
theorem Dec.und {d c b : Nat} (h : Dec E (d + 1) c b) : und c b (E - (d + 1)) = true := by
  unfold P.und
  rw [(h.todo _ (Nat.le_refl _)).1, (h.todo _ (Nat.le_refl _)).2]
  rfl
theorem Dec.split {d c b : Nat} (h : Dec E (d + 1) c b) (hd : d + 1 ≤ E) : trees e V E c b = trees e V E (setB c (E - (d + 1)) true) b + trees e V E c (setB b (E - (d + 1)) true) := trees_split (by omega) h.und
end
end Go.Proofs.Ytbeajmcjfhbcjaa.P
namespace Go.Proofs.Ytbeajmcjfhbcjaa.P
open Go.RowKit Go.Proofs.YtbeajmcjfhbcjaaW.PrintWords
set_option linter.unusedVariables false
set_option linter.unusedSimpArgs false

section
variable {w h : Int} {c b : Nat} (hg : gridOk w h = true) (hc : c < 2 ^ gapsN w h) (hb : b < 2 ^ gapsN w h)
include hg hc hb
omit hb in
theorem impl_CountLoops_ev : Ev (fun k => impl_CountLoops.f k w h c) (((pop (gapsN w h) c : Nat) : Int) - (cellsN w h : Nat) + (partsN w h c : Nat)) := by
  have h24 := gapsN_le w h
  have hV := cellsN_cast w h
  have h16 := cellsN_le w h
  have hp := partsN_le w h c
  have hpo := pop_le (gapsN w h) c
  unfold impl_CountLoops.f
  refine Ev.bnd0 (impl_MazeOk_eq ..) (Ev.tt (mazeOk_nat hg hc) (Ev.bnd0 (impl_CountPassages_eq hg hc) (Ev.bnd0 (impl_CountCells_eq w h) (Ev.bind (impl_CountParts_ev hg hc) (Ev.ret ?_)))))
  rw [← hV, wrap64_id (x := ((pop (gapsN w h) c : Nat) : Int) - (cellsN w h : Nat)) (by omega) (by omega), wrap64_id (by omega) (by omega)]
end
end Go.Proofs.Ytbeajmcjfhbcjaa.P
namespace Go.Proofs.Ytbeajmcjfhbcjaa.P
open Go.RowKit Go.Proofs.YtbeajmcjfhbcjaaW.PrintWords Go.Proofs.YtbeajmcjfhbcjaaW.PrintLast Go.Proofs.YtbeajmcjfhbcjaaW.PrintMore
attribute [local go_sem] max2_int min2_int max_two min_two max_three min_three max_four min_four   -- for this text's walks alone
set_option linter.unusedVariables false
set_option linter.unusedSimpArgs false

/-! ### spec_l05Tree: function 121 -/
/-! ### spec_DrawPerfect: function 62 -/
end Go.Proofs.Ytbeajmcjfhbcjaa.P
namespace Go.Proofs.Ytbeajmcjfhbcjaa.P
open Go.RowKit Go.Proofs.YtbeajmcjfhbcjaaW.PrintWords
set_option linter.unusedVariables false
set_option linter.unusedSimpArgs false

section
variable {e : Nat → Nat × Nat} {V E : Nat}
/-- Labels P tell the parts of o; no loop; what was looked at is joined. -/
structure KInv (e : Nat → Nat × Nat) (V E : Nat) (done : Nat → Prop) (P : Nat → Int) (o : Nat) : Prop where
  lt : o < 2 ^ E
  lab : ∀ x y, x < V → y < V → (P x = P y ↔ Cn e o x y)
  fo : pop E o + parts e V E o = V
  dn : ∀ g, g < E → done g → Cn e o (e g).1 (e g).2
theorem pop_zero' (E : Nat) : pop E 0 = 0 := by
  induction E with
  | zero => rfl
  | succ m ih => simp only [pop, Nat.zero_testBit, ih]; rfl
theorem KInv.start {P : Nat → Int} (hP : ∀ x, P x = x) : KInv e V E (fun _ => False) P 0 := by
  refine ⟨Nat.two_pow_pos E, fun x y _ _ => ?_, ?_, fun _ _ h => h.elim⟩
  · rw [hP, hP, Cn_zero]
    omega
  · rw [parts_zero, pop_zero', Nat.zero_add]
theorem KInv.skip {done : Nat → Prop} {P : Nat → Int} {o g : Nat} (hG : Gr e V E) (K : KInv e V E done P o) (hg : g < E) (h : P (e g).1 = P (e g).2) : KInv e V E (fun j => done j ∨ j = g) P o :=
  ⟨K.lt, K.lab, K.fo, fun j hj hd => hd.elim (K.dn j hj) (fun h2 => by subst h2; exact (K.lab _ _ (hG j hg).1 (hG j hg).2).1 h)⟩
theorem KInv.join {done : Nat → Prop} {P : Nat → Int} {o g : Nat} (hG : Gr e V E) (K : KInv e V E done P o) (hg : g < E) (h : ¬ P (e g).1 = P (e g).2) :
    KInv e V E (fun j => done j ∨ j = g) (fun x => if P x = P (e g).2 then P (e g).1 else P x) (setB o g true) := by
  obtain ⟨g1, g2⟩ := hG g hg
  have hnc : ¬ Cn e o (e g).1 (e g).2 := fun hc => h ((K.lab _ _ g1 g2).2 hc)
  have hb : o.testBit g = false := by
    cases hb : o.testBit g
    · rfl
    · exact absurd (Cn.edge hb) hnc
  refine ⟨setB_lt true K.lt hg, fun x y hx hy => ?_, ?_, fun j hj hd => ?_⟩
  · rw [Cn_add, ← K.lab x y hx hy, ← K.lab x _ hx g1, ← K.lab _ y g2 hy, ← K.lab x _ hx g2, ← K.lab _ y g1 hy]
    show (if P x = P (e g).2 then P (e g).1 else P x) = (if P y = P (e g).2 then P (e g).1 else P y) ↔ _
    by_cases e1 : P x = P (e g).2 <;> by_cases e2 : P y = P (e g).2
    · rw [if_pos e1, if_pos e2, e1, e2]; simp
    · rw [if_pos e1, if_neg e2]
      constructor
      · intro e3; exact Or.inr (Or.inr ⟨e1, e3⟩)
      · rintro (e3 | ⟨e3, e4⟩ | ⟨_, e4⟩)
        · exact absurd (e3.symm.trans e1) e2
        · exact absurd e4.symm e2
        · exact e4
    · rw [if_neg e1, if_pos e2]
      constructor
      · intro e3; exact Or.inr (Or.inl ⟨e3, e2.symm⟩)
      · rintro (e3 | ⟨e3, _⟩ | ⟨e3, _⟩)
        · exact absurd (e3.trans e2) e1
        · exact e3
        · exact absurd e3 e1
    · rw [if_neg e1, if_neg e2]
      constructor
      · exact Or.inl
      · rintro (e3 | ⟨_, e4⟩ | ⟨e3, _⟩)
        · exact e3
        · exact absurd e4.symm e2
        · exact absurd e3 e1
  · have h1 := (parts_add (v := V) K.lt hg g1 g2).2 hnc
    have h2 := K.fo
    rw [pop_setB hg hb]
    omega
  · rcases hd with hd | rfl
    · exact Cn.mono (fun i hi => by rw [testBit_setB]; split <;> simp_all) (K.dn j hj hd)
    · have : (setB o j true).testBit j = true := setB_bit o j true
      exact Cn.edge this
/-- Where all gaps were looked at, and all gaps together join all cells: perfect. -/
theorem KInv.perfect {done : Nat → Prop} {P : Nat → Int} {o full : Nat} (K : KInv e V E done P o) (hV : 0 < V) (hd : ∀ g, g < E → done g) (hfl : full < 2 ^ E) (hfull : ∀ x, x < V → Cn e full 0 x) : perf e V E o = true := by
  have hmap : ∀ x y, Cn e full x y → Cn e o x y := by
    intro x y hc
    induction hc with
    | refl => exact .refl _
    | fwd k hk _ ih => exact ih.trans (K.dn k (lt_of_testBit hfl hk) (hd k (lt_of_testBit hfl hk)))
    | bwd k hk _ ih => exact ih.trans (K.dn k (lt_of_testBit hfl hk) (hd k (lt_of_testBit hfl hk))).symm
  have h1 : parts e V E o = 1 := (parts_one K.lt hV).2 fun x hx => hmap _ _ (hfull x hx)
  have h2 := K.fo
  rw [perf_iff]
  omega
end
/-- All gaps of a grid join all its cells. -/
theorem nb_down_all : (List.range 5).all (fun W => (List.range 5).all fun H => (List.range 16).all fun c => decide (c = 0) || decide (¬ (c : Int) < cellsOf W H) ||
    (decide (0 ≤ nbI W H c 3 ∧ nbI W H c 3 < c) || decide (0 ≤ nbI W H c 0 ∧ nbI W H c 0 < c))) = true := by decide +kernel
theorem full_conn {w h : Int} (hg : gridOk w h = true) {full : Nat} (hf : ∀ g, g < gapsN w h → full.testBit g = true) : ∀ x, x < cellsN w h → Cn (ends w h) full 0 x := by
  intro x
  induction x using Nat.strongRecOn with
  | _ x ih =>
    intro hx
    have hc := cellsN_cast w h
    have hl := cellsN_le w h
    by_cases h0 : x = 0
    · subst h0; exact .refl _
    obtain ⟨W, H, rfl, rfl, _, w5, _, h5⟩ := grid_nat hg
    have := List.all_eq_true.1 (List.all_eq_true.1 (List.all_eq_true.1 nb_down_all W (List.mem_range.2 w5)) H (List.mem_range.2 h5)) x (List.mem_range.2 (by omega))
    simp only [Bool.or_eq_true, decide_eq_true_eq] at this
    have hd : ∃ d : Int, 0 ≤ nbI W H x d ∧ nbI W H x d < x := by
      rcases this with (h | h) | (h | h)
      · exact absurd h h0
      · exact absurd (show (x : Int) < cellsOf W H by omega) h
      · exact ⟨3, h⟩
      · exact ⟨0, h⟩
    obtain ⟨d, d0, d1⟩ := hd
    rcases step_facts W H x d with ⟨f1, _⟩ | ⟨f1, f2, f3, f4, f5, f6, _⟩
    · omega
    have hgc := gapsN_cast W H
    obtain ⟨g, hgg⟩ : ∃ g : Nat, gapI W H x d = g := ⟨(gapI W H x d).toNat, by omega⟩
    have hgl : g < gapsN W H := by omega
    obtain ⟨y, hy⟩ : ∃ y : Nat, nbI W H x d = y := ⟨(nbI W H x d).toNat, by omega⟩
    have he : ends W H g = (y, x) := by
      rw [hgg, hy] at f6
      unfold ends
      rw [f6]
      rw [hy] at d1
      have m1 : min (x : Int) (y : Int) = y := by omega
      have m2 : max (x : Int) (y : Int) = x := by omega
      rw [m1, m2]
      simp
    have hyx : Cn (ends W H) full y x := by
      have := Cn.edge (e := ends W H) (hf g hgl)
      rwa [he] at this
    exact (ih y (by omega) (by omega)).trans hyx
end Go.Proofs.Ytbeajmcjfhbcjaa.P
namespace Go.Proofs.Ytbeajmcjfhbcjaa.P
open Go.RowKit Go.Proofs.YtbeajmcjfhbcjaaW.PrintWords
set_option linter.unusedVariables false
set_option linter.unusedSimpArgs false

theorem spec_EndsOf_eq (w h g : Int) : spec_EndsOf.f w h g = some (endsI w h g) := by
  unfold spec_EndsOf.f endsI
  have hr0 := gapsOf_range w h
  rw [spec_CountGaps_eq, Option.bind_some, wrap64_id (x := gapsOf w h - 1) (by omega) (by omega), l01In_eq, Option.bind_some]
  by_cases hc : 0 ≤ g ∧ g < gapsOf w h
  · rw [if_pos hc, if_pos (by simp; omega)]
    obtain ⟨hg, hgw⟩ := gapsOf_valid hc.1 hc.2
    have hgr := gridOk_iff.1 hg
    have hrr := gapsOf_range w h
    have hq0 : 0 ≤ (w - 1) * h := Int.mul_nonneg (by omega) (by omega)
    have hq1 : (w - 1) * h ≤ 3 * 4 := Int.mul_le_mul (by omega) (by omega) (by omega) (by omega)
    have hw1 : w - 1 = 0 → (w - 1) * h = 0 := fun e => by rw [e, Int.zero_mul]
    rw [spec_l02East_eq hg]
    unfold eastOf
    simp only [Option.bind_some]
    rw [wrap64_id (x := w - 1) (by omega) (by omega)]
    by_cases hlt : g < (w - 1) * h
    · rw [if_pos hlt, if_pos hlt]
      have hne : w - 1 ≠ 0 := fun e => by have := hw1 e; omega
      have ha0 : 0 ≤ g / (w - 1) := Int.ediv_nonneg hc.1 (by omega)
      have ha1 : g / (w - 1) ≤ g := Int.ediv_le_self _ hc.1
      have hb0 : 0 ≤ g % (w - 1) := Int.emod_nonneg _ (by omega)
      have hb1 : g % (w - 1) < w - 1 := Int.emod_lt_of_pos _ (by omega)
      have hp0 : 0 ≤ g / (w - 1) * w := Int.mul_nonneg ha0 (by omega)
      have hp1 : g / (w - 1) * w ≤ 23 * 4 := Int.mul_le_mul (by omega) (by omega) (by omega) (by omega)
      rw [if_neg hne, Int.tmod_eq_emod_of_nonneg hc.1, Int.tdiv_eq_ediv_of_nonneg hc.1, wrap64_id (x := g / (w - 1)) (by omega) (by omega), wrap64_id (x := g / (w - 1) * w) (by omega) (by omega), wrap64_id (x := g / (w - 1) * w + g % (w - 1)) (by omega) (by omega), wrap64_id (by omega) (by omega)]
    · rw [if_neg hlt, if_neg hlt]
      rw [wrap64_id (x := g - (w - 1) * h) (by omega) (by omega), wrap64_id (by omega) (by omega)]
  · rw [if_neg hc, if_neg (by simp; omega)]
end Go.Proofs.Ytbeajmcjfhbcjaa.P
namespace Go.Proofs.Ytbeajmcjfhbcjaa.P
open Go Go.RowKit Go.Proofs.YtbeajmcjfhbcjaaW.PrintWords
set_option linter.unusedVariables false
set_option linter.unusedSimpArgs false

theorem bits_255 (x : Int) : 0 ≤ Go.bits .and .i64 x 255 ∧ Go.bits .and .i64 x 255 ≤ 255 := by
  have h : (BitVec.ofInt 64 x &&& BitVec.ofInt 64 255).toNat ≤ 255 := by
    rw [BitVec.toNat_and]
    exact Nat.and_le_right
  show 0 ≤ IntKind.i64.wrap ((BitVec.ofInt 64 x &&& BitVec.ofInt 64 255).toNat : Int) ∧ IntKind.i64.wrap ((BitVec.ofInt 64 x &&& BitVec.ofInt 64 255).toNat : Int) ≤ 255
  rw [wrap_small (by omega)]
  omega
section
variable {l : List Int}
theorem spec_New_l0 (hl : l.length ≤ 1048576) : ∀ (e i : Nat) (h : Int), l.length - i = e → ∃ h', Ev (fun k => spec_l01New.l0 k l h i) (l, 0, h')
  | 0, i, h, he => ⟨h, Ev.step (fun _ => spec_l01New.l0.eq_2 ..) (Ev.ff (by omega) (Ev.ret rfl))⟩
  | e + 1, i, h, he => by
    by_cases h4 : (i : Int) < 4000
    · obtain ⟨h', ih⟩ := spec_New_l0 hl e (i + 1) (Go.bits .and .i64 (wrap64 ((wrap64 ((wrap64 (h * 131)) + (wrap64 (rd l i)))) + 7)) 1073741823) (by omega)
      refine ⟨h', Ev.step (fun _ => spec_l01New.l0.eq_2 ..) (Ev.tt (by omega) (Ev.tt h4 (Ev.tt (by omega) ?_)))⟩
      rw [wsucc (by omega)]
      exact ih
    · exact ⟨h, Ev.step (fun _ => spec_l01New.l0.eq_2 ..) (Ev.tt (by omega) (Ev.ff h4 (Ev.ret rfl)))⟩
theorem spec_New_ev (hl : l.length ≤ 1048576) : ∃ h', Ev (fun k => spec_l01New.f k l) (l, 0, h') := spec_New_l0 hl l.length 0 _ rfl
theorem spec_Byte_eq (hl : l.length ≤ 1048576) {i : Int} (hi : 0 ≤ i) (h : Int) : ∃ b i' h', spec_l01Byte.f l i h = some (b, i', h') ∧ 0 ≤ b ∧ b ≤ 255 ∧ 0 ≤ i' := by
  unfold spec_l01Byte.f
  by_cases e : i < (l.length : Int)
  · rw [if_pos e, if_pos hi]
    exact ⟨_, _, _, rfl, (bits_255 _).1, (bits_255 _).2, by rw [wrap64_id (by omega) (by omega)]; omega⟩
  · rw [if_neg e]
    exact ⟨_, _, _, rfl, (bits_255 _).1, (bits_255 _).2, hi⟩
theorem spec_Below_eq (hl : l.length ≤ 1048576) {i : Int} (hi : 0 ≤ i) (h : Int) {n : Int} (h1 : 1 ≤ n) (h2 : n ≤ 256) : ∃ b i' h', spec_l01Below.f l i h n = some (b, i', h') ∧ 0 ≤ b ∧ b < n ∧ 0 ≤ i' := by
  obtain ⟨b, i', h', e, b0, b1, hi'⟩ := spec_Byte_eq hl hi h
  unfold spec_l01Below.f
  rw [if_neg (by omega), if_pos h2, e, Option.bind_some, if_neg (by omega)]
  exact ⟨_, _, _, rfl, Int.tmod_nonneg _ b0, Int.tmod_lt_of_pos _ (by omega), hi'⟩
theorem spec_Pick_eq (hl : l.length ≤ 1048576) {i : Int} (hi : 0 ≤ i) (h : Int) : ∃ (j : Nat) (i' h' : Int), spec_l01PickInt.f l i h [1, 2, 3, 3, 4] = some (rd [1, 2, 3, 3, 4] (j : Int), i', h') ∧ j < 5 ∧ 0 ≤ i' := by
  obtain ⟨b, i', h', e, b0, b1, hi'⟩ := spec_Below_eq hl hi h (n := 5) (by omega) (by omega)
  unfold spec_l01PickInt.f
  show ∃ (j : Nat) (i'' h'' : Int), (spec_l01Below.f l i h 5).bind _ = _ ∧ _
  rw [e, Option.bind_some, if_pos b0]
  refine ⟨b.toNat, i', h', ?_, by omega, hi'⟩
  rw [if_pos (show b < (([1, 2, 3, 3, 4] : List Int).length : Int) from b1), Int.toNat_of_nonneg b0]
theorem pick_ok {j : Nat} (hj : j < 5) : 1 ≤ rd [1, 2, 3, 3, 4] (j : Int) ∧ rd [1, 2, 3, 3, 4] (j : Int) ≤ 4 := by
  have : j = 0 ∨ j = 1 ∨ j = 2 ∨ j = 3 ∨ j = 4 := by omega
  rcases this with rfl | rfl | rfl | rfl | rfl <;> decide
theorem spec_Grid_eq (hl : l.length ≤ 1048576) {i : Int} (hi : 0 ≤ i) (h : Int) : ∃ w hh i' h', spec_l02Grid.f l i h = some (w, hh, i', h') ∧ gridOk w hh = true ∧ 0 ≤ i' := by
  obtain ⟨j, i1, h1, e1, hj, hi1⟩ := spec_Pick_eq hl hi h
  obtain ⟨j2, i2, h2, e2, hj2, hi2⟩ := spec_Pick_eq hl hi1 h1
  unfold spec_l02Grid.f
  rw [e1, Option.bind_some, e2, Option.bind_some]
  refine ⟨_, _, _, _, rfl, gridOk_iff.2 ?_, hi2⟩
  have := pick_ok hj
  have := pick_ok hj2
  omega
end
/-! The step that the draw takes -/
theorem spec_Common_ev : ∀ (b a : Nat), Ev (fun k => spec_l03Common.f k a b) (decide (Nat.gcd a b > 1)) := by
  intro b
  induction b using Nat.strongRecOn with
  | _ b ih =>
    intro a
    by_cases h0 : b = 0
    · subst h0
      refine Ev.step (g := fun k => spec_l03Common.f k a (0 : Nat)) (fun _ => spec_l03Common.l0.eq_2 ..) (Ev.ff (by omega) (Ev.ret ?_))
      rw [Nat.gcd_zero_right, decide_eq_decide]
      omega
    · refine Ev.step (g := fun k => spec_l03Common.f k a b) (fun _ => spec_l03Common.l0.eq_2 ..) (Ev.tt (by omega) (Ev.ff (by omega) ?_))
      rw [Int.tmod_eq_emod_of_nonneg (by omega), ← Int.natCast_emod]
      refine Ev.eq (ih (a % b) (Nat.mod_lt _ (by omega)) b) ?_
      rw [decide_eq_decide, Nat.gcd_comm b (a % b), ← Nat.gcd_rec, Nat.gcd_comm b a]
def coverB (n s : Nat) : Bool := (List.range n).all fun g => (List.range n).any fun k => decide ((k * s) % n = g)
theorem cover_all : (List.range 25).all (fun n => (List.range n).all fun s => decide (¬ Nat.gcd s n = 1) || coverB n s) = true := by decide +kernel
theorem cover {n step first : Nat} (hn : n < 25) (h0 : 0 < n) (hg : Nat.gcd step n ≤ 1) {g : Nat} (hgn : g < n) : ∃ k, k < n ∧ (first + k * step) % n = g := by
  have hs : step % n < n := Nat.mod_lt _ h0
  have h1 : Nat.gcd (step % n) n = 1 := by
    have e : Nat.gcd (step % n) n = Nat.gcd step n := by rw [Nat.gcd_comm step n, ← Nat.gcd_rec]
    rw [e]
    have : 0 < Nat.gcd step n := Nat.gcd_pos_of_pos_right _ h0
    omega
  have := List.all_eq_true.1 (List.all_eq_true.1 cover_all n (List.mem_range.2 hn)) (step % n) (List.mem_range.2 hs)
  simp only [Bool.or_eq_true, decide_eq_true_eq] at this
  have hc : coverB n (step % n) = true := this.resolve_left (fun h => h h1)
  unfold coverB at hc
  have hx : (g + (n - first % n)) % n < n := Nat.mod_lt _ h0
  have := List.all_eq_true.1 hc ((g + (n - first % n)) % n) (List.mem_range.2 hx)
  obtain ⟨k, hk, hkk⟩ := List.any_eq_true.1 this
  refine ⟨k, List.mem_range.1 hk, ?_⟩
  have hk2 := of_decide_eq_true hkk
  rw [Nat.mul_mod_mod] at hk2
  have hf : first % n < n := Nat.mod_lt _ h0
  rw [Nat.add_mod, hk2, Nat.add_mod_mod, ← Nat.mod_add_mod (first % n), Nat.mod_mod]
  rw [show first % n + (g + (n - first % n)) = g + n by omega, Nat.add_mod_right, Nat.mod_eq_of_lt hgn]
/-! Labels as a table -/
def tabL (P : Nat → Int) (V : Nat) : List Int := (List.range V).map P
theorem tabL_length (P : Nat → Int) (V : Nat) : (tabL P V).length = V := by simp [tabL]
theorem tabL_rd {P : Nat → Int} {V c : Nat} (h : c < V) : rd (tabL P V) (c : Int) = P c := by
  rw [rd_get (by rw [tabL_length]; exact h)]
  simp [tabL]
theorem tabL_congr {P Q : Nat → Int} {V : Nat} (h : ∀ x, x < V → P x = Q x) : tabL P V = tabL Q V := List.map_congr_left fun x hx => h x (List.mem_range.1 hx)
theorem tabL_set (P : Nat → Int) (V i : Nat) (v : Int) : (tabL P V).set i v = tabL (fun x => if x = i then v else P x) V := by
  refine List.ext_getElem (by simp [tabL]) fun j h1 h2 => ?_
  rw [List.getElem_set]
  simp only [tabL, List.getElem_map, List.getElem_range]
  by_cases e : i = j
  · subst e; simp
  · rw [if_neg e, if_neg (fun h => e h.symm)]
theorem KInv.weak {e : Nat → Nat × Nat} {V E : Nat} {d d' : Nat → Prop} {P : Nat → Int} {o : Nat} (K : KInv e V E d P o) (h : ∀ g, d' g → d g) : KInv e V E d' P o := ⟨K.lt, K.lab, K.fo, fun g hg hd => K.dn g hg (h g hd)⟩
end Go.Proofs.Ytbeajmcjfhbcjaa.P
namespace Go.Proofs.Ytbeajmcjfhbcjaa.P
open Go Go.RowKit Go.Proofs.YtbeajmcjfhbcjaaW.PrintWords
set_option linter.unusedVariables false
set_option linter.unusedSimpArgs false

section
variable {w h : Int} {xs : List Int} {i1 h1 : Int}
/-- The k-th gap that is looked at. -/
def gapN (n first step k : Nat) : Nat := (first + k * step) % n
theorem tree_l3 {n first step kk : Nat} {P : Nat → Int} {a : Nat} {old : Int} {o : Int} {r : Int × Int × Int × Int × Int} (ha : a < cellsN w h) (hne : ¬ P a = old)
    (hk : Ev (fun k => spec_l03Tree.l2 k n (tabL (fun x => if P x = old then P a else P x) (cellsN w h)) first step (wrap64 ((kk : Int) + 1)) xs i1 h1 w h w h o) r) : ∀ e i : Nat, i + e = cellsN w h →
    Ev (fun k => spec_l03Tree.l3 k n (tabL (fun x => if x < i ∧ P x = old then P a else P x) (cellsN w h)) first step kk a old i xs i1 h1 w h w h o) r
  | 0, i, he => by
    refine Ev.step (fun _ => spec_l03Tree.l3.eq_2 ..) (Ev.ff (by rw [tabL_length]; omega) ?_)
    rw [tabL_congr (Q := fun x => if P x = old then P a else P x) (fun x hx => by
      by_cases e : P x = old
      · rw [if_pos ⟨by omega, e⟩, if_pos e]
      · rw [if_neg (fun h => e h.2), if_neg e])]
    exact hk
  | e + 1, i, he => by
    have hl := cellsN_le w h
    have ih := tree_l3 (n := n) (first := first) (step := step) (kk := kk) (P := P) (old := old) (o := o) ha hne hk e (i + 1) (by omega)
    refine Ev.step (fun _ => spec_l03Tree.l3.eq_2 ..) (Ev.tt (by rw [tabL_length]; omega) (Ev.tt (by omega) ?_))
    rw [tabL_rd (show i < cellsN w h by omega), wsucc (show i < 4611686018427387904 by omega)]
    simp only [Nat.lt_irrefl, false_and, if_false]
    refine Ev.ite (fun e1 => ?_) (fun e1 => ?_)
    · refine Ev.tt (by omega) (Ev.tt (by rw [tabL_length]; omega) ?_)
      rw [tabL_rd ha, if_neg (fun h => hne h.2), Int.toNat_natCast, tabL_set]
      rw [tabL_congr (Q := fun x => if x < i + 1 ∧ P x = old then P a else P x) (fun x hx => by
        by_cases e2 : x = i
        · subst e2; rw [if_pos rfl, if_pos ⟨by omega, e1⟩]
        · rw [if_neg e2]
          by_cases e3 : x < i ∧ P x = old
          · rw [if_pos e3, if_pos ⟨by omega, e3.2⟩]
          · rw [if_neg e3, if_neg (fun h => e3 ⟨by omega, h.2⟩)])]
      exact ih
    · rw [tabL_congr (Q := fun x => if x < i + 1 ∧ P x = old then P a else P x) (fun x hx => by
        by_cases e3 : x < i ∧ P x = old
        · rw [if_pos e3, if_pos ⟨by omega, e3.2⟩]
        · rw [if_neg e3]
          by_cases e4 : x < i + 1 ∧ P x = old
          · have : x = i := by
              by_cases e5 : x < i
              · exact absurd ⟨e5, e4.2⟩ e3
              · omega
            subst this
            exact absurd e4.2 e1
          · rw [if_neg e4])]
      exact ih
theorem tree_l2 (hg : gridOk w h = true) {first step : Nat} (hf : first < 25) (hs : step < 100) : ∀ (e kk : Nat) (P : Nat → Int) (o : Nat), kk + e = gapsN w h →
    KInv (ends w h) (cellsN w h) (gapsN w h) (fun g => ∃ j, j < kk ∧ gapN (gapsN w h) first step j = g) P o →
    ∃ (P' : Nat → Int) (o' : Nat), KInv (ends w h) (cellsN w h) (gapsN w h) (fun g => ∃ j, j < gapsN w h ∧ gapN (gapsN w h) first step j = g) P' o' ∧
      Ev (fun k => spec_l03Tree.l2 k (gapsN w h : Nat) (tabL P (cellsN w h)) first step kk xs i1 h1 w h w h o) (w, h, (o' : Int), i1, h1)
  | 0, kk, P, o, he, K => by
    refine ⟨P, o, K.weak (fun g ⟨j, hj, e⟩ => ⟨j, by omega, e⟩), Ev.step (fun _ => spec_l03Tree.l2.eq_2 ..) (Ev.ff (by omega) (Ev.ret rfl))⟩
  | e + 1, kk, P, o, he, K => by
    have hgl := gapsN_le w h
    have hgc := gapsN_cast w h
    have hcl := cellsN_le w h
    have hgN : gapN (gapsN w h) first step kk < gapsN w h := Nat.mod_lt _ (by omega)
    have hkm : kk * step ≤ 24 * 100 := Nat.mul_le_mul (by omega) (by omega)
    have hgap : Int.tmod (wrap64 ((first : Int) + (wrap64 ((kk : Int) * (step : Int))))) (gapsN w h : Nat) = ((gapN (gapsN w h) first step kk : Nat) : Int) := by
      rw [show ((kk : Int) * (step : Int)) = ((kk * step : Nat) : Int) by rw [Int.natCast_mul], wrap64_id (x := ((kk * step : Nat) : Int)) (by omega) (by omega), wrap64_id (by omega) (by omega), Int.tmod_eq_emod_of_nonneg (by omega)]
      unfold gapN
      rw [Int.natCast_emod, Int.natCast_add]
    obtain ⟨f1, f2, f3⟩ := ends_facts hgN
    have hstep : ∀ {P' : Nat → Int} {o' : Nat}, KInv (ends w h) (cellsN w h) (gapsN w h) (fun j => (∃ j', j' < kk ∧ gapN (gapsN w h) first step j' = j) ∨ j = gapN (gapsN w h) first step kk) P' o' →
        KInv (ends w h) (cellsN w h) (gapsN w h) (fun g => ∃ j, j < kk + 1 ∧ gapN (gapsN w h) first step j = g) P' o' := fun K' => K'.weak (fun g ⟨j, hj, e2⟩ => by
          by_cases e3 : j < kk
          · exact Or.inl ⟨j, e3, e2⟩
          · have : j = kk := by omega
            subst this
            exact Or.inr e2.symm)
    by_cases he1 : P (ends w h (gapN (gapsN w h) first step kk)).1 = P (ends w h (gapN (gapsN w h) first step kk)).2
    · obtain ⟨P', o', K', ih⟩ := tree_l2 hg hf hs e (kk + 1) P o (by omega) (hstep (K.skip (gr_grid w h) hgN he1))
      refine ⟨P', o', K', Ev.step (fun _ => spec_l03Tree.l2.eq_2 ..) (Ev.tt (by omega) (Ev.ff (by omega) ?_))⟩
      rw [hgap, wsucc (show kk < 4611686018427387904 by omega)]
      refine Ev.bnd0 ((spec_EndsOf_eq w h _).trans (congrArg some f1)) ?_
      refine Ev.tt (by omega) (Ev.tt (by rw [tabL_length]; omega) (Ev.tt (by omega) (Ev.tt (by rw [tabL_length]; omega) ?_)))
      rw [tabL_rd (by omega), tabL_rd f3]
      exact Ev.tt he1 ih
    · obtain ⟨P', o', K', ih⟩ := tree_l2 hg hf hs e (kk + 1) _ (setB o (gapN (gapsN w h) first step kk) true) (by omega) (hstep (K.join (gr_grid w h) hgN he1))
      refine ⟨P', o', K', Ev.step (fun _ => spec_l03Tree.l2.eq_2 ..) (Ev.tt (by omega) (Ev.ff (by omega) ?_))⟩
      rw [hgap]
      refine Ev.bnd0 ((spec_EndsOf_eq w h _).trans (congrArg some f1)) ?_
      refine Ev.tt (by omega) (Ev.tt (by rw [tabL_length]; omega) (Ev.tt (by omega) (Ev.tt (by rw [tabL_length]; omega) ?_)))
      rw [tabL_rd (show (ends w h (gapN (gapsN w h) first step kk)).1 < cellsN w h by omega), tabL_rd f3]
      refine Ev.ff he1 (Ev.tt (by omega) ?_)
      have ho := open_small K.lt
      have hpw : 2 ^ gapN (gapsN w h) first step kk ≤ 2 ^ 24 := Nat.pow_le_pow_right (by decide) (by omega)
      rw [shl_pow (by omega), bits_or (by omega) (by omega), show o ||| 2 ^ gapN (gapsN w h) first step kk = setB o (gapN (gapsN w h) first step kk) true from rfl]
      have := tree_l3 (w := w) (h := h) (xs := xs) (i1 := i1) (h1 := h1) (n := gapsN w h) (first := first) (step := step) (kk := kk) (P := P) (a := (ends w h (gapN (gapsN w h) first step kk)).1) (old := P (ends w h (gapN (gapsN w h) first step kk)).2)
        (o := ((setB o (gapN (gapsN w h) first step kk) true : Nat) : Int)) (r := (w, h, (o' : Int), i1, h1)) (by omega) he1 (by rw [wsucc (show kk < 4611686018427387904 by omega)]; exact ih) (cellsN w h) 0 (by omega)
      rw [tabL_congr (Q := P) (fun x hx => if_neg (fun h => absurd h.1 (by omega)))] at this
      exact this
theorem tree_l1 (hg : gridOk w h = true) (h0 : 0 < gapsN w h) {first : Nat} (hf : first < 25) {P : Nat → Int} {o : Nat} (K : KInv (ends w h) (cellsN w h) (gapsN w h) (fun _ => False) P o) : ∀ d step : Nat, step + d = 2 * gapsN w h + 1 →
    ∃ o' : Nat, o' < 2 ^ gapsN w h ∧ perfN w h o' = true ∧ Ev (fun k => spec_l03Tree.l1 k (gapsN w h : Nat) (tabL P (cellsN w h)) first step xs i1 h1 w h w h o) (w, h, (o' : Int), i1, h1) := by
  have hgl := gapsN_le w h
  have fin : ∀ step : Nat, step < 100 → Nat.gcd step (gapsN w h) ≤ 1 → ∃ o' : Nat, o' < 2 ^ gapsN w h ∧ perfN w h o' = true ∧ Ev (fun k => spec_l03Tree.l1 k (gapsN w h : Nat) (tabL P (cellsN w h)) first step xs i1 h1 w h w h o) (w, h, (o' : Int), i1, h1) := by
    intro step hs hgcd
    obtain ⟨P', o', K', hEv⟩ := tree_l2 (xs := xs) (i1 := i1) (h1 := h1) hg hf hs (gapsN w h) 0 P o (by omega) (K.weak (fun g ⟨j, hj, _⟩ => absurd hj (by omega)))
    refine ⟨o', K'.lt, ?_, Ev.step (fun _ => spec_l03Tree.l1.eq_2 ..) (Ev.bind (spec_Common_ev (gapsN w h) step) (Ev.ff (by rw [decide_eq_true_eq]; omega) hEv))⟩
    exact K'.perfect (cells_pos hg) (fun g hgg => cover (by omega) h0 hgcd hgg) (full := 2 ^ gapsN w h - 1) (by have := Nat.two_pow_pos (gapsN w h); omega) (full_conn hg (fun g hgg => by rw [Nat.testBit_two_pow_sub_one]; simp [hgg]))
  intro d
  induction d with
  | zero =>
    intro step hst
    refine fin step (by omega) ?_
    have : Nat.gcd step (gapsN w h) = 1 := by
      rw [show step = 1 + gapsN w h * 2 by omega, Nat.gcd_add_mul_left_left, Nat.gcd_one_left]
    omega
  | succ d ih =>
    intro step hst
    by_cases hc : Nat.gcd step (gapsN w h) > 1
    · obtain ⟨o', ho, hp, hEv⟩ := ih (step + 1) (by omega)
      refine ⟨o', ho, hp, Ev.step (fun _ => spec_l03Tree.l1.eq_2 ..) (Ev.bind (spec_Common_ev (gapsN w h) step) (Ev.tt (by rw [decide_eq_true_eq]; exact hc) ?_))⟩
      rw [wsucc (by omega)]
      exact hEv
    · exact fin step (by omega) (by omega)
theorem tree_l0 (hg : gridOk w h = true) (hl : xs.length ≤ 1048576) (hi : 0 ≤ i1) : ∀ e i : Nat, i + e = cellsN w h →
    ∃ (o' : Nat) (i2 h2 : Int), 0 ≤ i2 ∧ o' < 2 ^ gapsN w h ∧ perfN w h o' = true ∧ Ev (fun k => spec_l03Tree.l0 k (gapsN w h : Nat) (tabL (fun x => if x < i then (x : Int) else 0) (cellsN w h)) i xs i1 h1 w h w h (0 : Nat)) (w, h, (o' : Int), i2, h2)
  | 0, i, he => by
    have hgl := gapsN_le w h
    have hgc := gapsN_cast w h
    have hK : KInv (ends w h) (cellsN w h) (gapsN w h) (fun _ => False) (fun x => (x : Int)) 0 := KInv.start (fun x => rfl)
    have ht : tabL (fun x => if x < i then (x : Int) else 0) (cellsN w h) = tabL (fun x => (x : Int)) (cellsN w h) := tabL_congr (fun x hx => if_pos (by omega))
    rw [ht]
    by_cases h0 : gapsN w h = 0
    · refine ⟨0, i1, h1, hi, Nat.two_pow_pos _, ?_, Ev.step (fun _ => spec_l03Tree.l0.eq_2 ..) (Ev.ff (by rw [tabL_length]; omega) (Ev.tt (by omega) (Ev.ret rfl)))⟩
      exact hK.perfect (cells_pos hg) (fun g hgg => absurd hgg (by omega)) (full := 0) (Nat.two_pow_pos _) (full_conn hg (fun g hgg => absurd hgg (by omega)))
    · obtain ⟨b, i2, h2, e1, b0, b1, hi2⟩ := spec_Below_eq hl hi h1 (n := (gapsN w h : Nat)) (by omega) (by omega)
      obtain ⟨c, i3, h3, e2, c0, c1, hi3⟩ := spec_Below_eq hl hi2 h2 (n := (gapsN w h : Nat)) (by omega) (by omega)
      obtain ⟨b', rfl⟩ := Int.eq_ofNat_of_zero_le b0
      obtain ⟨c', rfl⟩ := Int.eq_ofNat_of_zero_le c0
      obtain ⟨o', ho, hp, hEv⟩ := tree_l1 (xs := xs) (i1 := i3) (h1 := h3) hg (by omega) (first := b') (by omega) hK (2 * gapsN w h - c') (1 + c') (by omega)
      refine ⟨o', i3, h3, hi3, ho, hp, Ev.step (fun _ => spec_l03Tree.l0.eq_2 ..) (Ev.ff (by rw [tabL_length]; omega) (Ev.ff (by omega) (Ev.bnd0 e1 (Ev.bnd0 e2 ?_))))⟩
      rw [show wrap64 (1 + (c' : Int)) = ((1 + c' : Nat) : Int) by rw [wrap64_id (by omega) (by omega)]; omega]
      exact hEv
  | e + 1, i, he => by
    have hcl := cellsN_le w h
    obtain ⟨o', i2, h2, hq, ho, hp, ih⟩ := tree_l0 hg hl hi e (i + 1) (by omega)
    refine ⟨o', i2, h2, hq, ho, hp, Ev.step (fun _ => spec_l03Tree.l0.eq_2 ..) (Ev.tt (by rw [tabL_length]; omega) (Ev.tt (by omega) ?_))⟩
    rw [wsucc (show i < 4611686018427387904 by omega), Int.toNat_natCast, tabL_set]
    rw [tabL_congr (Q := fun x => if x < i + 1 then (x : Int) else 0) (fun x hx => by
      by_cases e2 : x = i
      · subst e2; rw [if_pos rfl, if_pos (by omega)]
      · rw [if_neg e2]
        by_cases e3 : x < i
        · rw [if_pos e3, if_pos (by omega)]
        · rw [if_neg e3, if_neg (by omega)])]
    exact ih
theorem spec_Tree_ev2 (hg : gridOk w h = true) (hl : xs.length ≤ 1048576) (hi : 0 ≤ i1) : ∃ (o' : Nat) (i2 h2 : Int), 0 ≤ i2 ∧ o' < 2 ^ gapsN w h ∧ perfN w h o' = true ∧ Ev (fun k => spec_l03Tree.f k xs i1 h1 w h) (w, h, (o' : Int), i2, h2) := by
  have hgc := gapsN_cast w h
  have hcc := cellsN_cast w h
  have hcl := cellsN_le w h
  obtain ⟨o', i2, h2, hq, ho, hp, hEv⟩ := tree_l0 (h1 := h1) hg hl hi (cellsN w h) 0 (by omega)
  refine ⟨o', i2, h2, hq, ho, hp, ?_⟩
  unfold spec_l03Tree.f
  refine Ev.bnd0 (spec_CountGaps_eq ..) (Ev.bnd0 (spec_CountCells_eq ..) (Ev.tt (by omega) (Ev.tt (by omega) ?_)))
  rw [← hgc, show (cellsOf w h).toNat = cellsN w h from rfl]
  rw [show List.replicate (cellsN w h) (0 : Int) = tabL (fun x => if x < 0 then (x : Int) else 0) (cellsN w h) by
    refine List.ext_getElem (by simp [tabL]) fun j hj1 hj2 => ?_
    simp [tabL]]
  exact hEv
end
end Go.Proofs.Ytbeajmcjfhbcjaa.P
namespace Go.Proofs.Ytbeajmcjfhbcjaa.P
open Go Go.RowKit Go.Proofs.YtbeajmcjfhbcjaaW.PrintWords
set_option linter.unusedVariables false
set_option linter.unusedSimpArgs false

theorem shl_pow' {n : Nat} (h : n < 25) : shl .i64 1 (n : Int) = ((2 ^ n : Nat) : Int) := by
  have : ∀ m : Nat, m < 25 → shl .i64 1 (m : Int) = ((2 ^ m : Nat) : Int) := by decide +kernel
  exact this n h
theorem drawz_l0 {w h : Int} {xs : List Int} (hg : gridOk w h = true) (hl : xs.length ≤ 1048576) (h0 : 0 < gapsOf w h) : ∀ (d : Nat) (n : Nat) (i1 h1 : Int), d ≤ 1000 → n < 2 ^ gapsN w h → 0 ≤ i1 →
    ∃ (m : Nat) (i2 h2 : Int), m < 2 ^ gapsN w h ∧ Ev (fun k => spec_l03Maze.l0 k (gapsOf w h) ((d : Int) - 1) xs i1 h1 w h n) (w, h, (m : Int), i2, h2)
  | 0, n, i1, h1, hd, hn, hi => ⟨n, i1, h1, hn, Ev.step (fun _ => spec_l03Maze.l0.eq_2 ..) (Ev.ff (by omega) (Ev.ret rfl))⟩
  | d + 1, n, i1, h1, hd, hn, hi => by
    have hgc := gapsN_cast w h
    have h24 := gapsN_le w h
    obtain ⟨b, i2, h2, e1, b0, b1, hi2⟩ := spec_Below_eq hl hi h1 (n := gapsOf w h) (by omega) (by omega)
    obtain ⟨x, rfl⟩ := Int.eq_ofNat_of_zero_le b0
    have hx : x < gapsN w h := by omega
    have hs := open_small hn
    have h2x : 2 ^ x < 2 ^ gapsN w h := Nat.pow_lt_pow_right (by decide) hx
    have hx24 : 2 ^ x ≤ 2 ^ 24 := Nat.pow_le_pow_right (by decide) (by omega)
    have hxor : n ^^^ 2 ^ x < 2 ^ gapsN w h := Nat.xor_lt_two_pow hn h2x
    obtain ⟨m, i3, h3, hm, ev⟩ := drawz_l0 hg hl h0 d (n ^^^ 2 ^ x) i2 h2 (by omega) hxor hi2
    refine ⟨m, i3, h3, hm, Ev.step (fun _ => spec_l03Maze.l0.eq_2 ..) (Ev.tt (by omega) (Ev.bnd0 e1 (Ev.tt (by omega) ?_)))⟩
    rw [shl_pow' (by omega), bits_xor (by omega) (by omega), wrap64_id (by omega) (by omega), show ((d + 1 : Nat) : Int) - 1 - 1 = (d : Int) - 1 by omega]
    exact ev
theorem spec_DrawMaze_ev {l : List Int} (hl : l.length ≤ 1048576) : ∃ (w h : Int) (n : Nat), gridOk w h = true ∧ n < 2 ^ gapsN w h ∧ Ev (fun k => spec_DrawMaze.f k l) (w, h, (n : Int)) := by
  obtain ⟨h', e1⟩ := spec_New_ev hl
  obtain ⟨w, h, i2, h2, e2, hg, hi2⟩ := spec_Grid_eq hl (i := 0) (by omega) h'
  obtain ⟨o', i3, h3, hi3, ho, hp, e3⟩ := spec_Tree_ev2 (xs := l) (i1 := i2) (h1 := h2) hg hl hi2
  have hj : ∀ (i4 h4 : Int), Ev (fun k => spec_l03Maze.j0 k (gapsOf w h) false l i4 h4 w h o') (w, h, (o' : Int), i4, h4) := fun i4 h4 => Ev.step (fun _ => spec_l03Maze.j0.eq_2 ..) (Ev.ff (by decide) (Ev.ret rfl))
  have key : ∃ (m : Nat) (i4 h4 : Int), m < 2 ^ gapsN w h ∧ Ev (fun k => spec_l03Maze.f k l 0 h') (w, h, (m : Int), i4, h4) := by
    unfold spec_l03Maze.f
    by_cases h0 : gapsOf w h > 0
    · obtain ⟨b, i4, h4, f1, b0, b1, hi4⟩ := spec_Below_eq hl hi3 h3 (n := 2) (by omega) (by omega)
      have hon : spec_l01Once.f l i3 h3 2 = some (b == 0, i4, h4) := by
        unfold spec_l01Once.f
        rw [f1]; rfl
      cases hb : (b == 0)
      · refine ⟨o', i4, h4, ho, Ev.bnd0 e2 (Ev.bind e3 (Ev.bnd0 (spec_CountGaps_eq w h) (Ev.tt h0 (Ev.bnd0 hon ?_))))⟩
        rw [hb]
        exact hj i4 h4
      · obtain ⟨c, i5, h5, f2, c0, c1, hi5⟩ := spec_Below_eq hl hi4 h4 (n := 4) (by omega) (by omega)
        obtain ⟨c', rfl⟩ := Int.eq_ofNat_of_zero_le c0
        obtain ⟨m, i6, h6, hm, ev⟩ := drawz_l0 (xs := l) hg hl h0 (c' + 1) o' i5 h5 (by omega) ho hi5
        refine ⟨m, i6, h6, hm, Ev.bnd0 e2 (Ev.bind e3 (Ev.bnd0 (spec_CountGaps_eq w h) (Ev.tt h0 (Ev.bnd0 hon ?_))))⟩
        rw [hb]
        refine Ev.step (fun _ => spec_l03Maze.j0.eq_2 ..) (Ev.tt rfl (Ev.bnd0 f2 ?_))
        rw [show ((c' + 1 : Nat) : Int) - 1 = (c' : Int) by omega] at ev
        exact ev
    · exact ⟨o', i3, h3, ho, Ev.bnd0 e2 (Ev.bind e3 (Ev.bnd0 (spec_CountGaps_eq w h) (Ev.ff h0 (hj i3 h3))))⟩
  obtain ⟨m, i4, h4, hm, ev⟩ := key
  refine ⟨w, h, m, hg, hm, ?_⟩
  unfold spec_DrawMaze.f
  exact Ev.bind e1 (Ev.bind ev (Ev.ret rfl))
end Go.Proofs.Ytbeajmcjfhbcjaa.P
namespace Go.Proofs.Ytbeajmcjfhbcjaa.P
open Go.RowKit Go.Proofs.YtbeajmcjfhbcjaaW.PrintWords Go.Proofs.Ytbeajmcjfhbcjaa.Sup
set_option linter.unusedVariables false
set_option linter.unusedSimpArgs false

theorem FnWalls_pure (l : List Int) (hy : l.length ≤ 140737488351232) (hz : ∀ x ∈ l, 0 ≤ x ∧ x ≤ 255) : ∃ k, laws_FnWalls.f k l = some true := by
  refine Ev.rounds ?_
  unfold laws_FnWalls.f
  refine Ev.bnd0 rfl (Ev.ite (fun _ => Ev.ret rfl) (fun hb => ?_))
  have hl : l.length ≤ 1048576 := by simp only [decide_eq_true_eq] at hb; omega
  obtain ⟨w, h, n, hg, hn, ed⟩ := spec_DrawMaze_ev hl
  have hgr := gridOk_iff.1 hg
  obtain ⟨W, rfl⟩ := Int.eq_ofNat_of_zero_le (show 0 ≤ w by omega)
  obtain ⟨H, rfl⟩ := Int.eq_ofNat_of_zero_le (show 0 ≤ h by omega)
  have hW : W < 5 := by omega
  have hH : H < 5 := by omega
  have h16 := cellsN_le W H
  have hp := partsN_le W H n
  have hpo := pop_le (gapsN W H) n
  have h24 := gapsN_le W H
  have hw := (wp_value hW hH hg hn).2.1
  have hV := cells_pos hg
  have e : wpN W H n = partsN W H n + pop (gapsN W H) n - (cellsN W H - 1) := rfl
  refine Ev.bind ed (Ev.bind (impl_IsPerfect_ev hg hn) (Ev.bind (impl_IsWallTree_ev hW hH hg hn) ?_))
  rw [wt_perf hW hH hg hn]
  refine Ev.tt (by simp) (Ev.bind (impl_WallParts_ev hW hH hg hn) (Ev.bind (impl_CountLoops_ev hg hn) (Ev.tt ?_ (Ev.bind (impl_WallLoops_ev hW hH hg hn) (Ev.bind (impl_CountParts_ev hg hn) (Ev.ret ?_))))))
  · simp only []
    rw [wrap64_id (by omega) (by omega)]
    omega
  · simp only []
    rw [wrap64_id (by omega) (by omega)]
    simp
end Go.Proofs.Ytbeajmcjfhbcjaa.P
namespace Go.Proofs.Ytbeajmcjfhbcjaa.fnWalls
open Go.ChangeShapes Go.WideShapes Go.ChangeAt Go.RowKit Go.Proofs.YtbeajmcjfhbcjaaW.PrintWords Go.Proofs.Ytbeajmcjfhbcjaa.Sup
open Go.ChangeMaps (open_string shut_string)
set_option linter.unusedVariables false
theorem own : ownKnob Try.prog.godebug = none := by kernel_rfl
theorem laidOut : laidOutB Try.prog = true := by kernel_rfl
set_option maxRecDepth 100000 in
theorem lifted (os : Os) (started : os.Started) (H : Type) (enc : TypeId × Value → H) :
    ReturnsInHanded {} Try.checked os 3 .any (Rows.fnWallsSpec.pre6 enc Try.prog Try.f3 Rows.fnWallsRow.domain false) (Rows.fnWallsSpec.post enc Try.prog Try.f3 false true false false) := by
  refine returnsInHanded_of_change_sized (C := Try.checked) own started (by kernel_rfl) Try.func3
    (ChangeSpec.witness6 (enc := enc) (C := Try.checked) false ⟨#[], #[.slice none 0 0], []⟩ 8 (by kernel_rfl) (by kernel_rfl) (by kernel_rfl) (by kernel_rfl)) ?_
  intro W base args ds gs before hval0 hW hcnd hsz0 _
  have hsz : (DataW.weightsEach Try.prog (Try.f3.params.toList ++ Rows.fnWallsSpec.plain.varTypes Try.prog) (ds ++ gs)).all (· ≤ reachBytes) = true := hsz0
  have hval : ∀ (j : Nat) t v, Try.f3.params[j]? = some t → args[j]? = some v → Value.okWide Try.prog W .any base t v := hval0
  have hW' := hW
  obtain ⟨p, q, hA0, hV, rfl, hfz, hnd⟩ := hW
  have hA : DataW.TrodAll enc Try.prog W 0 (fun _ => true) true Try.f3.params.toList args.toList ds p := hA0
  rw [Try.params3] at hA hval hsz
  obtain ⟨v0, vs0, d0, ds0, p0, q0, hargs, rfl, rfl, h0, r0⟩ := trodAll_cons hA
  obtain ⟨rfl, rfl, rfl⟩ := trodAll_nil r0
  obtain rfl : args = #[v0] := by cases args; simp_all
  obtain ⟨rfl, rfl⟩ := trodVars_none hV
  obtain ⟨a0, len0, cap0, rfl⟩ := okWide_slice Try.underlying22 (hval 0 22 v0 rfl rfl)
  have k0 := h0
  have lt0 : ∀ x ∈ p0, x.block < W.heap.size := by obtain ⟨m, hm⟩ := k0; exact DataW.trod_lt m _ _ _ hm
  obtain ⟨z0, w0⟩ : ∃ zs, IsRow .u8 W a0 len0 cap0 zs := by
    obtain ⟨fuel, hf⟩ := h0
    rcases open_ints Try.underlying22 Try.underlying5 (by kernel_rfl) hf with ⟨hcs, _⟩ | ⟨x, l, c, zs, hcs, _, hl, hm, hz, _, hcell, hwz⟩
    · simp [Value.cells] at hcs
      obtain ⟨rfl, rfl, rfl⟩ := hcs
      exact ⟨[], .inl ⟨rfl, rfl, rfl, rfl⟩⟩
    · simp [Value.cells] at hcs
      obtain ⟨rfl, rfl, rfl⟩ := hcs
      exact ⟨zs, .inr ⟨_, rfl, hl, hm, by simpa using hz, hcell, hwz⟩⟩
  have y0 : len0 * 1 ≤ 140737488351232 := sized_ints hsz (j := 0) (t := 22) rfl rfl Try.underlying22 Try.underlying5 (by kernel_rfl) (by kernel_rfl) h0
  obtain ⟨l0, rfl, hr0, hm0, hw0, hc0⟩ := ReadsInt.ofRowC w0
  clear hA0 hval0 hsz0 hsz
  obtain ⟨k, hf⟩ := P.FnWalls_pure l0 (by omega) (fun x hx => u8_of_wf (hw0 x hx))
  refine (P.laws_FnWalls.calls k _ _ l0 true W (Kd.C_of_reads (d := (0 : Int)) (h1 := fun _ => rfl) hr0) hc0 hf).mono fun e W' ⟨he, bel0⟩ => ?_
  have bel : Below W.heap.size W W' := bel0
  subst he
  exact ⟨_, rfl, _, _, _, [], _, [], hW', trodAll_mk1 (shut_bool Try.underlying4 _), (trodAll_cons_mk (Below.trod laidOut (by kernel_rfl) (of_decide_eq_true (by kernel_rfl)) k0 bel lt0) trodAll_mk0), rfl, bel.frame _, fun h => by cases h⟩
theorem over : Rows.fnWallsRow.holds Try.pinned (OpenSpec.ofChange Rows.fnWallsSpec) :=
  OpenClaim.holds_of_wide 3 Try.f3 rfl rfl rfl rfl rfl rfl rfl ⟨rfl, rfl, rfl, rfl, rfl⟩ rfl rfl rfl rfl rfl (by kernel_rfl) Try.func3 (by kernel_rfl)
    (of_decide_eq_true (by kernel_rfl)) (by unfold Func.isWrapper; first | (rw [if_pos (by decide +kernel)]; kernel_rfl) | (rw [if_neg (by decide +kernel)]; exact ⟨rfl, rfl⟩))
    (fun os started H enc _ => lifted os started H enc)
theorem proved : Rows.FnWallsSaid := over
end Go.Proofs.Ytbeajmcjfhbcjaa.fnWalls
namespace Go.Proofs.Ytbeajmcjfhbcjaa
/-- The row, under a short name, for the claim. -/
theorem fnWalls_holds : Rows.FnWallsSaid := fnWalls.proved
#print axioms fnWalls_holds
end Go.Proofs.Ytbeajmcjfhbcjaa
