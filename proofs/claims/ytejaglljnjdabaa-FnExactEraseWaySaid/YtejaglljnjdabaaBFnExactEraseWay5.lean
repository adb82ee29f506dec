/- The statement FnExactEraseWay of the seat, out of its plain form (FnExactEraseWay_pure) and the walk of its Go function. Part 5 of 5: each Go function's walk, then the plain lemmas, then the row. No condition: it holds for every input. -/
import Derived.Test.YtejaglljnjdabaaBFnExactEraseWay4
import Derived.Test.YtejaglljnjdabaaRows
import Derived.Below
import Derived.ChangeOld
import Derived.Deep.Matrix
import Derived.Lib.SmallJoins
import Derived.OpenShut
import Derived.ProofKit
import Derived.ShutString
import Derived.SizedLaws
import Derived.WalkKit
namespace Go.Proofs.Ytejaglljnjdabaa.Sup
open Go.ChangeShapes Go.WideShapes Go.ChangeAt Go.RowKit Go.Joins Go.Proofs.YtejaglljnjdabaaW.PrintWords
set_option linter.unusedVariables false
set_option linter.unusedSimpArgs false

/-- The range of an int. -/
def InR (a : Int) : Prop := -9223372036854775808 ≤ a ∧ a ≤ 9223372036854775807
theorem inR_of_wf {a : Int} (h : (Lit.int .i64 a).wf = true) : InR a := by
  simp only [Lit.wf, IntKind.min, IntKind.max, IntKind.signed, IntKind.bits, Bool.and_eq_true, decide_eq_true_eq, if_true] at h
  unfold InR
  omega
section
variable {H : Type} {enc : TypeId × Value → H} {P : Program} {w : World} {base : Nat} {spare : Nat → Bool} {held : Bool}

theorem open3 {r : Reach} {b0 : Nat} {t : TypeId} {f0 f1 g0 g1 : Field} {v : Value} {d : DataW H} {p : List MemPlace} (hs : P.underlying t = some (.struct #[f0, f1])) (hs0 : P.underlying f0.type = some (.struct #[g0, g1]))
    (hg0 : P.underlying g0.type = some (.int .i64)) (hg1 : P.underlying g1.type = some (.int .i64)) (h1 : P.underlying f1.type = some (.int .i64))
    (o0 : f0.offset = 0) (o1 : f1.offset = 2) (p0 : g0.offset = 0) (p1 : g1.offset = 1) (c0 : P.cellsOf f0.type = 2) (c1 : P.cellsOf f1.type = 1) (e0 : P.cellsOf g0.type = 1) (e1 : P.cellsOf g1.type = 1) (hC : P.cellsOf t = 3)
    (hv : Value.okWide P w r b0 t v) (h : DataW.Trod enc P w base spare held t v d p) :
    ∃ a b c : Int, v = .agg #[.int .i64 a, .int .i64 b, .int .i64 c] ∧ InR a ∧ InR b ∧ InR c := by
  obtain ⟨cs, rfl, hsz⟩ := okWide_struct hs hv
  obtain ⟨x0, x1, x2, rfl⟩ := array3 (hsz.trans hC)
  obtain ⟨fuel, hf⟩ := h
  obtain ⟨y0, y1, n, hx, _, k0, k1⟩ := trod_struct2 hs hf
  simp only [Value.cells, o0, o1, c0, c1, List.drop_zero, List.take_succ_cons, List.take_zero, List.drop_succ_cons] at k0 k1
  obtain ⟨z0, z1, n', hx', _, j0, j1⟩ := trod_struct2 hs0 k0
  simp only [p0, p1, e0, e1, List.drop_zero, List.take_succ_cons, List.take_zero, List.drop_succ_cons] at j0 j1
  obtain ⟨a, q0, _, w0⟩ := DataW.trod_int hg0 j0
  obtain ⟨b, q1, _, w1⟩ := DataW.trod_int hg1 j1
  obtain ⟨c, q2, _, w2⟩ := DataW.trod_int h1 k1
  simp at q0 q1 q2
  subst q0 q1 q2
  exact ⟨a, b, c, rfl, inR_of_wf w0, inR_of_wf w1, inR_of_wf w2⟩
end

def IsRow (k : IntKind) (w : World) (a : Option Addr) (len cap : Nat) (zs : List Int) : Prop :=
  (a = none ∧ len = 0 ∧ cap = 0 ∧ zs = []) ∨
  ∃ x, a = some x ∧ len ≤ cap ∧ cap ≤ maxLen ∧ zs.length = cap ∧ (∀ i, i < zs.length → w.cell? (x.add i) = some (.int k (zs.getD i 0))) ∧ ∀ n ∈ zs, (Lit.int k n).wf = true

end Go.Proofs.Ytejaglljnjdabaa.Sup
namespace Go.Proofs.Ytejaglljnjdabaa.P
open Go.RowKit Go.Proofs.YtejaglljnjdabaaW.PrintWords
set_option linter.unusedVariables false
set_option linter.unusedSimpArgs false

theorem l01In_eq (a b c : Int) : spec_l01In.f a b c = some (decide (b ≤ a ∧ a ≤ c)) := by
  unfold spec_l01In.f
  by_cases h : a ≥ b
  · rw [if_pos h]; congr 1; simp; omega
  · rw [if_neg h]; congr 1; simp; omega

end Go.Proofs.Ytejaglljnjdabaa.P
namespace Go.Proofs.Ytejaglljnjdabaa.P
open Go.RowKit Go.Proofs.YtejaglljnjdabaaW.PrintWords Go.Proofs.Ytejaglljnjdabaa.Sup
set_option linter.unusedVariables false
set_option linter.unusedSimpArgs false

theorem spec_GridOk_eq (w h : Int) : spec_GridOk.f w h = some (gridOk w h) := by
  unfold spec_GridOk.f
  simp only [l01In_eq, Option.bind_some]
  unfold gridOk
  by_cases h1 : 1 ≤ w ∧ w ≤ 4
  · simp only [h1, and_self, decide_true, if_true, true_and]
  · have : ¬ (1 ≤ w ∧ w ≤ 4 ∧ 1 ≤ h ∧ h ≤ 4) := by omega
    rw [decide_eq_false h1, decide_eq_false this]; simp
theorem impl_GridOk_eq (w h : Int) : impl_GridOk.f w h = some (gridOk w h) := by
  unfold impl_GridOk.f gridOk
  repeat' split
  all_goals congr 1
  all_goals first | (rw [decide_eq_decide]; omega) | (symm; rw [decide_eq_false_iff_not]; omega)

theorem impl_CountCells_eq (w h : Int) : impl_CountCells.f w h = some (cellsOf w h) := by
  unfold impl_CountCells.f
  rw [impl_GridOk_eq, Option.bind_some]
  have := cellsOf_range w h
  unfold cellsOf at *
  by_cases hg : gridOk w h = true
  · rw [if_pos hg] at *
    rw [if_pos hg, wrap64_id (by omega) (by omega)]
  · rw [if_neg hg, if_neg hg]
theorem spec_CountCells_eq (w h : Int) : spec_CountCells.f w h = some (cellsOf w h) := by
  unfold spec_CountCells.f
  rw [spec_GridOk_eq, Option.bind_some]
  have := cellsOf_range w h
  unfold cellsOf at *
  by_cases hg : gridOk w h = true
  · rw [if_pos hg] at *
    rw [if_pos hg, wrap64_id (by omega) (by omega)]
  · rw [if_neg hg, if_neg hg]
theorem impl_CountGaps_eq (w h : Int) : impl_CountGaps.f w h = some (gapsOf w h) := by
  unfold impl_CountGaps.f
  rw [impl_GridOk_eq, Option.bind_some]
  unfold gapsOf
  by_cases hg : gridOk w h = true
  · rw [if_pos hg, if_pos hg]
    obtain ⟨h1 | h1 | h1 | h1, h2 | h2 | h2 | h2⟩ := grid_cases hg <;> subst h1 <;> subst h2 <;> simp [wrap64, eastOf]
  · rw [if_neg hg, if_neg hg]
theorem spec_l02East_eq {w h : Int} (hg : gridOk w h = true) : spec_l02East.f w h = some (eastOf w h) := by
  unfold spec_l02East.f eastOf
  obtain ⟨h1 | h1 | h1 | h1, h2 | h2 | h2 | h2⟩ := grid_cases hg <;> subst h1 <;> subst h2 <;> simp [wrap64, eastOf]
theorem spec_CountGaps_eq (w h : Int) : spec_CountGaps.f w h = some (gapsOf w h) := by
  unfold spec_CountGaps.f
  rw [spec_GridOk_eq, Option.bind_some]
  unfold gapsOf
  by_cases hg : gridOk w h = true
  · rw [if_pos hg, if_pos hg, spec_l02East_eq hg, Option.bind_some]
    obtain ⟨h1 | h1 | h1 | h1, h2 | h2 | h2 | h2⟩ := grid_cases hg <;> subst h1 <;> subst h2 <;> simp [wrap64, eastOf]
  · rw [if_neg hg, if_neg hg]

/-- 2 to the power of a small number. -/
theorem shl_one {n : Int} (h0 : 0 ≤ n) (h1 : n ≤ 24) : shl .i64 1 n = 2 ^ n.toNat := by
  obtain ⟨m, rfl⟩ := Int.eq_ofNat_of_zero_le h0
  have : m ≤ 24 := by omega
  clear h0 h1
  revert m
  decide +kernel
end Go.Proofs.Ytejaglljnjdabaa.P
namespace Go.Proofs.Ytejaglljnjdabaa.P
open Go.RowKit Go.Proofs.YtejaglljnjdabaaW.PrintWords
set_option linter.unusedVariables false
set_option linter.unusedSimpArgs false

theorem impl_isCell_eq (w h c : Int) : impl_isCell.f w h c = some (isCellI w h c) := by
  unfold impl_isCell.f isCellI
  rw [impl_CountCells_eq]
  by_cases hc : c ≥ 0
  · rw [if_pos hc, Option.bind_some]; congr 1; rw [decide_eq_decide]; omega
  · rw [if_neg hc]; congr 1; symm; rw [decide_eq_false_iff_not]; omega
theorem impl_Neighbor_ev (w h c d : Int) : Ev (fun k => impl_Neighbor.f k w h c d) (nbI w h c d) := by
  unfold impl_Neighbor.f nbI
  refine Ev.bnd0 (impl_isCell_eq w h c) ?_
  unfold isCellI
  by_cases hc : 0 ≤ c ∧ c < cellsOf w h
  · rw [if_pos hc]
    obtain ⟨hg, hcw⟩ := cellsOf_valid hc.1 hc.2
    have hcr := cellsOf_range w h
    have hgr := gridOk_iff.1 hg
    refine Ev.tt (by simpa using hc) (Ev.ff (by omega) ?_)
    have hx0 : 0 ≤ c % w := Int.emod_nonneg _ (by omega)
    have hx1 : c % w < w := Int.emod_lt_of_pos _ (by omega)
    have hy0 : 0 ≤ c / w := Int.ediv_nonneg hc.1 (by omega)
    have hy1 : c / w ≤ c := Int.ediv_le_self _ hc.1
    rw [Int.tmod_eq_emod_of_nonneg hc.1, Int.tdiv_eq_ediv_of_nonneg hc.1, wrap64_id (x := c / w) (by omega) (by omega)]
    generalize c % w = x at *
    generalize c / w = y at *
    have j2 : ∀ b : Bool, (d ≠ 0 ∨ ¬ 0 < y) → (d ≠ 1 ∨ ¬ x < w - 1) → (b = true ↔ d = 2 ∧ y < h - 1) → Ev (fun k => impl_Neighbor.j2 k c d x b w h) (if d = 2 ∧ y < h - 1 then c + w else if d = 3 ∧ 0 < x then c - 1 else -1) := by
      intro b _ _ hb
      refine Ev.step (fun _ => impl_Neighbor.j2.eq_2 ..) ?_
      refine Ev.ite (fun e => ?_) (fun e => ?_)
      · rw [if_pos (hb.1 e), wrap64_id (by omega) (by omega)]; exact Ev.ret rfl
      · rw [if_neg (fun h => e (hb.2 h))]
        refine Ev.ite (fun e3 => Ev.ite (fun e4 => ?_) (fun e4 => ?_)) (fun e3 => ?_)
        · rw [if_pos ⟨e3, e4⟩, wrap64_id (by omega) (by omega)]; exact Ev.ret rfl
        · rw [if_neg (fun h => e4 h.2)]; exact Ev.ret rfl
        · rw [if_neg (fun h => e3 h.1)]; exact Ev.ret rfl
    have j1 : ∀ b : Bool, (d ≠ 0 ∨ ¬ 0 < y) → (b = true ↔ d = 1 ∧ x < w - 1) → Ev (fun k => impl_Neighbor.j1 k c d x y b w h) (if d = 1 ∧ x < w - 1 then c + 1 else if d = 2 ∧ y < h - 1 then c + w else if d = 3 ∧ 0 < x then c - 1 else -1) := by
      intro b h0 hb
      refine Ev.step (fun _ => impl_Neighbor.j1.eq_2 ..) ?_
      refine Ev.ite (fun e => ?_) (fun e => ?_)
      · rw [if_pos (hb.1 e), wrap64_id (by omega) (by omega)]; exact Ev.ret rfl
      · have hn : ¬ (d = 1 ∧ x < w - 1) := fun h => e (hb.2 h)
        rw [if_neg hn]
        refine Ev.ite (fun e2 => ?_) (fun e2 => ?_)
        · refine j2 _ h0 (by omega) ?_
          rw [wrap64_id (by omega) (by omega)]
          simp [e2]
        · exact j2 _ h0 (by omega) (by simp [e2])
    have j0 : ∀ b : Bool, (b = true ↔ d = 0 ∧ 0 < y) → Ev (fun k => impl_Neighbor.j0 k c d x y b w h) (if d = 0 ∧ 0 < y then c - w else if d = 1 ∧ x < w - 1 then c + 1 else if d = 2 ∧ y < h - 1 then c + w else if d = 3 ∧ 0 < x then c - 1 else -1) := by
      intro b hb
      refine Ev.step (fun _ => impl_Neighbor.j0.eq_2 ..) ?_
      refine Ev.ite (fun e => ?_) (fun e => ?_)
      · rw [if_pos (hb.1 e), wrap64_id (by omega) (by omega)]; exact Ev.ret rfl
      · have hn : ¬ (d = 0 ∧ 0 < y) := fun h => e (hb.2 h)
        rw [if_neg hn]
        refine Ev.ite (fun e2 => ?_) (fun e2 => ?_)
        · refine j1 _ (by omega) ?_
          rw [wrap64_id (by omega) (by omega)]
          simp [e2]
        · exact j1 _ (by omega) (by simp [e2])
    refine Ev.ite (fun e => ?_) (fun e => ?_)
    · exact j0 _ (by simp [e])
    · exact j0 _ (by simp [e])
  · rw [if_neg hc]
    exact Ev.ff (by simpa using hc) (Ev.ret rfl)
theorem spec_Neighbor_ev (w h c d : Int) : Ev (fun k => spec_Neighbor.f k w h c d) (nbI w h c d) := by
  unfold spec_Neighbor.f nbI
  refine Ev.bnd0 (spec_CountCells_eq w h) ?_
  have hcr := cellsOf_range w h
  rw [wrap64_id (by omega) (by omega)]
  refine Ev.bnd0 (l01In_eq ..) ?_
  by_cases hc : 0 ≤ c ∧ c < cellsOf w h
  · rw [if_pos hc]
    obtain ⟨hg, hcw⟩ := cellsOf_valid hc.1 hc.2
    have hgr := gridOk_iff.1 hg
    refine Ev.tt (by simp; omega) (Ev.ff (by omega) ?_)
    have hx0 : 0 ≤ c % w := Int.emod_nonneg _ (by omega)
    have hx1 : c % w < w := Int.emod_lt_of_pos _ (by omega)
    have hy0 : 0 ≤ c / w := Int.ediv_nonneg hc.1 (by omega)
    have hy1 : c / w ≤ c := Int.ediv_le_self _ hc.1
    have hxy : c / w * w + c % w = c := by rw [Int.mul_comm]; exact Int.mul_ediv_add_emod c w
    have hy2 : c / w < h := by
      rw [hcw] at hc
      exact Int.ediv_lt_of_lt_mul (by omega) (by rw [Int.mul_comm]; exact hc.2)
    rw [Int.tmod_eq_emod_of_nonneg hc.1, Int.tdiv_eq_ediv_of_nonneg hc.1, wrap64_id (x := c / w) (by omega) (by omega)]
    generalize c % w = x at *
    generalize c / w = y at *
    have j0 : ∀ (a b r : Int), (r = if 0 ≤ a ∧ a ≤ w - 1 ∧ 0 ≤ b ∧ b ≤ h - 1 then b * w + a else -1) → Ev (fun k => spec_Neighbor.j0 k a b w h) r := by
      intro a b r hr
      subst hr
      refine Ev.step (fun _ => spec_Neighbor.j0.eq_2 ..) ?_
      refine Ev.bnd0 (l01In_eq ..) ?_
      rw [wrap64_id (x := w - 1) (by omega) (by omega), wrap64_id (x := h - 1) (by omega) (by omega)]
      by_cases h1 : 0 ≤ a ∧ a ≤ w - 1
      · refine Ev.tt (by simpa using h1) (Ev.bnd0 (l01In_eq ..) ?_)
        by_cases h2 : 0 ≤ b ∧ b ≤ h - 1
        · refine Ev.tt (by simpa using h2) (Ev.ret ?_)
          rw [if_pos (by omega)]
          have hb4 : b * w ≤ 3 * 4 := Int.mul_le_mul (by omega) (by omega) (by omega) (by omega)
          have hb0 : 0 ≤ b * w := Int.mul_nonneg (by omega) (by omega)
          rw [wrap64_id (x := b * w) (by omega) (by omega), wrap64_id (by omega) (by omega)]
        · refine Ev.ff (by simpa using h2) (Ev.ret ?_)
          rw [if_neg (by omega)]
      · refine Ev.ff (by simpa using h1) (Ev.ret ?_)
        rw [if_neg (by omega)]
    have hm1 : (y - 1) * w + x = c - w := by rw [Int.sub_mul]; omega
    have hp1 : (y + 1) * w + x = c + w := by rw [Int.add_mul]; omega
    refine Ev.ite (fun e => ?_) (fun e => Ev.ite (fun e => ?_) (fun e => Ev.ite (fun e => ?_) (fun e => Ev.ite (fun e => ?_) (fun e => Ev.ret ?_))))
    · rw [wrap64_id (by omega) (by omega)]
      refine j0 _ _ _ ?_
      subst e
      by_cases h0 : 0 < y
      · rw [if_pos ⟨rfl, h0⟩, if_pos (by omega), hm1]
      · rw [if_neg (by omega), if_neg (by omega), if_neg (by omega), if_neg (by omega), if_neg (by omega)]
    · rw [wrap64_id (by omega) (by omega)]
      refine j0 _ _ _ ?_
      subst e
      rw [if_neg (by omega)]
      by_cases h0 : x < w - 1
      · rw [if_pos ⟨rfl, h0⟩, if_pos (by omega)]; omega
      · rw [if_neg (by omega), if_neg (by omega), if_neg (by omega), if_neg (by omega)]
    · rw [wrap64_id (by omega) (by omega)]
      refine j0 _ _ _ ?_
      subst e
      rw [if_neg (by omega), if_neg (by omega)]
      by_cases h0 : y < h - 1
      · rw [if_pos ⟨rfl, h0⟩, if_pos (by omega), hp1]
      · rw [if_neg (by omega), if_neg (by omega), if_neg (by omega)]
    · rw [wrap64_id (by omega) (by omega)]
      refine j0 _ _ _ ?_
      subst e
      rw [if_neg (by omega), if_neg (by omega), if_neg (by omega)]
      by_cases h0 : 0 < x
      · rw [if_pos ⟨rfl, h0⟩, if_pos (by omega)]; omega
      · rw [if_neg (by omega), if_neg (by omega)]
    · rw [if_neg (by omega), if_neg (by omega), if_neg (by omega), if_neg (by omega)]
  · rw [if_neg hc]
    exact Ev.ff (by simp; omega) (Ev.ret rfl)
end Go.Proofs.Ytejaglljnjdabaa.P
namespace Go.Proofs.Ytejaglljnjdabaa.P
open Go.RowKit Go.Proofs.YtejaglljnjdabaaW.PrintWords Go.Proofs.YtejaglljnjdabaaW.PrintLast Go.Proofs.YtejaglljnjdabaaW.PrintMore
attribute [local go_sem] max2_int min2_int max_two min_two max_three min_three max_four min_four   -- for this text's walks alone
set_option linter.unusedVariables false
set_option linter.unusedSimpArgs false

/-! ### impl_isGap: function 153 -/
def impl_isGap.f (a0_0 : Int) (a0_1 : Int) (a1 : Int) : Option (Bool) := if a1 ≥ 0 then ((impl_CountGaps.f a0_0 a0_1).bind fun t102 => (some (decide (a1 < t102)))) else (some false)
set_option maxHeartbeats 8000000 in
set_option maxRecDepth 100000 in
theorem impl_isGap.calls (a0_0 : Int) (a0_1 : Int) (a1 : Int) (r : Bool) (w : World) (h : impl_isGap.f a0_0 a0_1 a1 = some r) :
    Calls Try.prog 153 #[.agg #[.int .i64 a0_0, .int .i64 a0_1], .int .i64 a1] w fun e w' => e = .returned (.bool r) ∧ Below w.heap.size w w' := by
  have hu26 := Try.underlying26
  have HB := Aside0.mk (Below.refl w.heap.size w)
  have H : (if a1 ≥ 0 then ((impl_CountGaps.f a0_0 a0_1).bind fun t102 => (some (decide (a1 < t102)))) else (some false)) = some r := h
  clear h
  by_cases c3 : a1 ≥ 0
  · rw [if_pos c3] at H
    have c3b0 : decide (0 ≤ a1) = true := decide_eq_true c3
    clear c3
    obtain ⟨t102, A40, H⟩ := Option.bind_eq_some_iff.mp H
    (try dsimp only at H); have A4 := Aside0.mk A40; clear A40
    obtain rfl := Option.some.inj H
    go_enter Try.func153, Try.ntmps153
    go_wp2_with (first | ((with_reducible refine gate_dst (N := 2) rfl ?_); refine box_event ?hg (N := 2) ?hd (cs := #[.int .i64 a0_0, .int .i64 a0_1]) (t := 26) ?hr ?_; (case hd => rfl); (case hg => rfl); (case hr => first | (go_simp; done) | (go_simp; rfl)); intro gb101 hg w5 hbox hb; have n0_ := Aside0.mk (below_step (by repeat first | exact HB.1 | apply bA_ | apply bB_ | apply bC_) hb); have n1_ := Aside0.mk (hbox); have n2_ := Aside0.mk ((by rw [hg]; exact (below_size (by repeat first | exact HB.1 | apply bA_ | apply bB_ | apply bC_)) : w.heap.size ≤ gb101)); have n3_ := n2_; clear HB; have HB := n0_; have BK101 := n1_; have GW101 := n2_; have GE101 := n3_; clear n0_ n1_ n2_ n3_; clear hb hbox hg; obtain ⟨hcz6_0, hcz6_1⟩ := kk2_ BK101.1; have hfz6_0 := blk_frozen BK101.out 0; have hfz6_1 := blk_frozen BK101.out 1) | (go_at_call 93; (with_reducible refine (impl_CountGaps.calls a0_0 a0_1 t102 _ A4.out).mono ?_); rintro e w7 ⟨rfl, hb⟩; have n0_ := Aside0.mk (blk_below (g := gb101) (o := .cells #[.int .i64 a0_0, .int .i64 a0_1] 26 (0, 0)) (by (with_reducible repeat first | refine cA_ ?_ _ | refine cB_ ?_ | refine cC_ ?_ _); exact BK101.1) hb); have n1_ := Aside0.mk (below_step (by repeat first | exact HB.1 | apply bA_ | apply bB_ | apply bC_ | refine below_set ?_ GE101.out) hb); clear BK101; clear HB; have BK101 := n0_; have HB := n1_; clear n0_ n1_; (try clear hb); (try clear hb2); (try clear hk); (try clear hi)))
    go_ret
    exact ⟨by first | rfl | (simp [errW_none, errW_some] <;> rfl) | (simp [*, errW_none, errW_some] <;> rfl), by repeat (first | (with_reducible first | exact HB.out | apply below_alloc | apply pw_below_drewN | apply below_drew1 | refine below_set ?_ GE101.out) | exact HB.out)⟩
  · rw [if_neg c3] at H
    have c3b0 : decide (0 ≤ a1) = false := decide_eq_false c3
    clear c3
    obtain rfl := Option.some.inj H
    go_enter Try.func153, Try.ntmps153
    go_wp2_with (first | ((with_reducible refine gate_dst (N := 2) rfl ?_); refine box_event ?hg (N := 2) ?hd (cs := #[.int .i64 a0_0, .int .i64 a0_1]) (t := 26) ?hr ?_; (case hd => rfl); (case hg => rfl); (case hr => first | (go_simp; done) | (go_simp; rfl)); intro gb101 hg w8 hbox hb; have n0_ := Aside0.mk (below_step (by repeat first | exact HB.1 | apply bA_ | apply bB_ | apply bC_) hb); have n1_ := Aside0.mk (hbox); have n2_ := Aside0.mk ((by rw [hg]; exact (below_size (by repeat first | exact HB.1 | apply bA_ | apply bB_ | apply bC_)) : w.heap.size ≤ gb101)); have n3_ := n2_; clear HB; have HB := n0_; have BK101 := n1_; have GW101 := n2_; have GE101 := n3_; clear n0_ n1_ n2_ n3_; clear hb hbox hg))
    go_ret
    exact ⟨by first | rfl | (simp [errW_none, errW_some] <;> rfl) | (simp [*, errW_none, errW_some] <;> rfl), by repeat (first | (with_reducible first | exact HB.out | apply below_alloc | apply pw_below_drewN | apply below_drew1 | refine below_set ?_ GE101.out) | exact HB.out)⟩

end Go.Proofs.Ytejaglljnjdabaa.P
namespace Go.Proofs.Ytejaglljnjdabaa.P
open Go.RowKit Go.Proofs.YtejaglljnjdabaaW.PrintWords
set_option linter.unusedVariables false
set_option linter.unusedSimpArgs false

theorem spec_MazeOk_eq (w h o : Int) : spec_MazeOk.f w h o = some (mazeOk w h o) := by
  have hc := gapsOf_range w h
  have hp := pow_le hc.1 hc.2
  unfold spec_MazeOk.f mazeOk gapsN
  rw [spec_GridOk_eq, Option.bind_some]
  cases hg : gridOk w h
  · simp
  · rw [if_pos rfl, spec_CountGaps_eq, Option.bind_some, if_pos hc.1, shl_one hc.1 hc.2, l01In_eq, Option.bind_some, wrap64_id (by omega) (by omega)]
    simp only [Bool.true_and]
    congr 1
    rw [decide_eq_decide]
    omega
theorem impl_MazeOk_eq (w h o : Int) : impl_MazeOk.f w h o = some (mazeOk w h o) := by
  have hc := gapsOf_range w h
  unfold impl_MazeOk.f mazeOk gapsN
  rw [impl_GridOk_eq, Option.bind_some]
  cases hg : gridOk w h
  · simp
  · rw [if_pos rfl, impl_CountGaps_eq, Option.bind_some, if_pos hc.1, shl_one hc.1 hc.2]
    simp only [Bool.true_and]
    split
    · congr 1; rw [decide_eq_decide]; omega
    · congr 1; symm; rw [decide_eq_false_iff_not]; omega
theorem impl_isOpen_eq (w h : Int) {n : Nat} (hn : n < 16777216) (g : Int) : impl_isOpen.f w h n g = some (openI n g) := by
  unfold impl_isOpen.f openI
  by_cases hg : g ≥ 0
  · rw [if_pos hg, if_pos hg]
    obtain ⟨m, rfl⟩ := Int.eq_ofNat_of_zero_le hg
    rw [bit_one (by omega)]
    simp
  · rw [if_neg hg]
    simp; omega
theorem spec_l03Bit_eq {n : Nat} (hn : n < 16777216) {g : Int} (hg : 0 ≤ g) : spec_l03Bit.f n g = some (openI n g) := by
  unfold spec_l03Bit.f openI
  rw [if_pos hg]
  obtain ⟨m, rfl⟩ := Int.eq_ofNat_of_zero_le hg
  rw [bit_one (by omega)]
  simp
/-! Sixteen small graphs: facts that are looked through -/
end Go.Proofs.Ytejaglljnjdabaa.P
namespace Go.Proofs.Ytejaglljnjdabaa.P
open Go.RowKit Go.Proofs.YtejaglljnjdabaaW.PrintWords Go.Proofs.Ytejaglljnjdabaa.Sup
set_option linter.unusedVariables false
set_option linter.unusedSimpArgs false

theorem impl_isIn_one (w h o c : Int) : impl_isIn.f w h o [c] = some (mazeOk w h o && isCellI w h c) := by
  unfold impl_isIn.f
  rw [impl_MazeOk_eq, Option.bind_some]
  cases hm : mazeOk w h o
  · simp
  · rw [if_pos rfl]
    simp [impl_isCell_eq]
theorem spec_l04Has_eq (w h o c : Int) : spec_l04Has.f w h o c = some (mazeOk w h o && isCellI w h c) := by
  have hr := cellsOf_range w h
  unfold spec_l04Has.f isCellI
  rw [spec_MazeOk_eq, Option.bind_some]
  cases hm : mazeOk w h o
  · simp
  · rw [if_pos rfl, spec_CountCells_eq, Option.bind_some, wrap64_id (by omega) (by omega), l01In_eq, Option.bind_some]
    simp only [Bool.true_and]
    congr 1
    rw [decide_eq_decide]
    omega
end Go.Proofs.Ytejaglljnjdabaa.P
namespace Go.Proofs.Ytejaglljnjdabaa.P
open Go.RowKit Go.Proofs.YtejaglljnjdabaaW.PrintWords
set_option linter.unusedVariables false
set_option linter.unusedSimpArgs false

theorem impl_GapAt_ev (w h c d : Int) : Ev (fun k => impl_GapAt.f k w h c d) (gapI w h c d) := by
  unfold impl_GapAt.f gapI
  refine Ev.bind (impl_Neighbor_ev w h c d) ?_
  by_cases hn : nbI w h c d < 0
  · rw [if_pos hn, if_pos hn]
    exact Ev.ret rfl
  · rw [if_neg hn, if_neg hn]
    obtain ⟨hd, h0, h1⟩ := nb_dir (by omega : 0 ≤ nbI w h c d)
    obtain ⟨hg, hcw⟩ := cellsOf_valid h0 h1
    have hcr := cellsOf_range w h
    have hgr := gridOk_iff.1 hg
    have hlt := nb_lt (w := w) (h := h) (c := c) (d := d)
    have hmn : mn c (nbI w h c d) = min c (nbI w h c d) := by unfold mn; omega
    rw [hmn]
    have hm0 : 0 ≤ min c (nbI w h c d) := by omega
    have hm1 : min c (nbI w h c d) ≤ 15 := by omega
    generalize min c (nbI w h c d) = m at *
    have ha0 : 0 ≤ m / w := Int.ediv_nonneg hm0 (by omega)
    have ha1 : m / w ≤ m := Int.ediv_le_self _ hm0
    have hb0 : 0 ≤ m % w := Int.emod_nonneg _ (by omega)
    have hb1 : m % w < w := Int.emod_lt_of_pos _ (by omega)
    have hp0 : 0 ≤ m / w * (w - 1) := Int.mul_nonneg ha0 (by omega)
    have hp1 : m / w * (w - 1) ≤ 15 * 3 := Int.mul_le_mul (by omega) (by omega) (by omega) (by omega)
    have hq0 : 0 ≤ (w - 1) * h := Int.mul_nonneg (by omega) (by omega)
    have hq1 : (w - 1) * h ≤ 3 * 4 := Int.mul_le_mul (by omega) (by omega) (by omega) (by omega)
    rw [Int.tmod_eq_emod_of_nonneg hm0, Int.tdiv_eq_ediv_of_nonneg hm0, wrap64_id (x := m / w) (by omega) (by omega), wrap64_id (x := w - 1) (by omega) (by omega), wrap64_id (x := m / w * (w - 1)) (by omega) (by omega), wrap64_id (x := m / w * (w - 1) + m % w) (by omega) (by omega)]
    refine Ev.ite (fun e => Ev.ff (by omega) ?_) (fun e => Ev.ite (fun e3 => Ev.ff (by omega) ?_) (fun e3 => ?_))
    · rw [if_pos (.inl e)]; exact Ev.ret rfl
    · rw [if_pos (.inr e3)]; exact Ev.ret rfl
    · rw [if_neg (by omega)]
      rw [wrap64_id (x := (w - 1) * h) (by omega) (by omega), wrap64_id (by omega) (by omega)]
      exact Ev.ret rfl
end Go.Proofs.Ytejaglljnjdabaa.P
namespace Go.Proofs.Ytejaglljnjdabaa.P
open Go.RowKit Go.Proofs.YtejaglljnjdabaaW.PrintWords Go.Proofs.YtejaglljnjdabaaW.PrintLast Go.Proofs.YtejaglljnjdabaaW.PrintMore
attribute [local go_sem] max2_int min2_int max_two min_two max_three min_three max_four min_four   -- for this text's walks alone
set_option linter.unusedVariables false
set_option linter.unusedSimpArgs false

/-! ### impl_WaysFrom: function 60 -/
def impl_WaysFrom.l0 : Nat → Int → List Int → Int → Int → Int → Int → Option (List Int)
  | 0, _, _, _, _, _, _ => none
  | k + 1, x1, x5, x6, x102000, x102001, x102002 => if x6 ≤ 3 then ((impl_Step.f k x102000 x102001 x102002 x1 x6).bind fun t102 => (if t102 ≥ 0 then (if x5.length < 17592186044416 then (impl_WaysFrom.l0 k x1 (x5 ++ [x6]) (wrap64 (x6 + 1)) x102000 x102001 x102002) else (none)) else (impl_WaysFrom.l0 k x1 x5 (wrap64 (x6 + 1)) x102000 x102001 x102002))) else (some x5)
def impl_WaysFrom.f (k : Nat) (a0_0 : Int) (a0_1 : Int) (a0_2 : Int) (a1 : Int) : Option (List Int) := impl_WaysFrom.l0 k a1 ([] : List Int) 0 a0_0 a0_1 a0_2
theorem impl_WaysFrom.mono_l : ∀ k, (∀ y0 y1 y2 y3 y4 y5, LeO (impl_WaysFrom.l0 k y0 y1 y2 y3 y4 y5) (impl_WaysFrom.l0 (k + 1) y0 y1 y2 y3 y4 y5))
  | 0 => fun _ _ _ _ _ _ r h => by simp [impl_WaysFrom.l0] at h
  | k + 1 => by
    have ih0 := impl_WaysFrom.mono_l k
    · intro y0 y1 y2 y3 y4 y5
      unfold impl_WaysFrom.l0
      repeat' first
      | (with_reducible exact ih0 _ _ _ _ _ _)
      | (with_reducible exact impl_Step.mono _ _ _ _ _ _)
      | (with_reducible exact LeO.refl _)
      | (with_reducible exact LeO.none _)
      | (with_reducible refine LeO.ite ?_ ?_)
      | (with_reducible refine LeO.bind ?_ (fun _ => ?_))
theorem impl_WaysFrom.mono : ∀ a0 a1 a2 a3 k, LeO (impl_WaysFrom.f k a0 a1 a2 a3) (impl_WaysFrom.f (k + 1) a0 a1 a2 a3) := by
  intro a0 a1 a2 a3 k
  have ih0 := impl_WaysFrom.mono_l k
  unfold impl_WaysFrom.f
  repeat' first
      | (with_reducible exact ih0 _ _ _ _ _ _)
      | (with_reducible exact impl_Step.mono _ _ _ _ _ _)
      | (with_reducible exact LeO.refl _)
      | (with_reducible exact LeO.none _)
      | (with_reducible refine LeO.ite ?_ ?_)
      | (with_reducible refine LeO.bind ?_ (fun _ => ?_))
set_option maxHeartbeats 8000000 in
set_option maxRecDepth 100000 in
theorem impl_WaysFrom.calls (k : Nat) (a0_0 : Int) (a0_1 : Int) (a0_2 : Int) (a1 : Int) (r : List Int) (w : World) (h : impl_WaysFrom.f k a0_0 a0_1 a0_2 a1 = some r) :
    Calls Try.prog 60 #[.agg #[.int .i64 a0_0, .int .i64 a0_1, .int .i64 a0_2], .int .i64 a1] w fun e w' => ∃ v0_ : Value, e = .returned (v0_) ∧ Kd.R (Kd.int .i64) 3 w' w.heap.size (fun _ => True) v0_ r ∧ Below w.heap.size w w' := by
  have hu28 := Try.underlying28
  have HB := Aside0.mk (Below.refl w.heap.size w)
  have H : (impl_WaysFrom.l0 k a1 ([] : List Int) 0 a0_0 a0_1 a0_2) = some r := h
  clear h
  have H' := Aside0.mk H
  clear H
  go_enter Try.func60, Try.ntmps60
  go_wp2_with (first | ((with_reducible refine gate_dst (N := 2) rfl ?_); refine box_event ?hg (N := 2) ?hd (cs := #[.int .i64 a0_0, .int .i64 a0_1, .int .i64 a0_2]) (t := 28) ?hr ?_; (case hd => rfl); (case hg => rfl); (case hr => first | (go_simp; done) | (go_simp; rfl)); intro gb101 hg w3 hbox hb; have n0_ := Aside0.mk (below_step (by repeat first | exact HB.1 | apply bA_ | apply bB_ | apply bC_) hb); have n1_ := Aside0.mk (hbox); have n2_ := Aside0.mk ((by rw [hg]; exact (below_size (by repeat first | exact HB.1 | apply bA_ | apply bB_ | apply bC_)) : w.heap.size ≤ gb101)); have n3_ := n2_; clear HB; have HB := n0_; have BK101 := n1_; have GW101 := n2_; have GE101 := n3_; clear n0_ n1_ n2_ n3_; clear hb hbox hg))
  go_loopg [5, 6] k (fun kq v5 v6 w' => ∃ (x5_1 : List Int) (x6_1 : Int), v6 = .int .i64 x6_1 ∧ Aside0 (impl_WaysFrom.l0 kq a1 x5_1 x6_1 a0_0 a0_1 a0_2 = some r) ∧ Aside0 (kq ≤ k) ∧ Aside0 (Kd.R (Kd.int .i64) 3 w' w.heap.size (fun _ => True) v5 x5_1) ∧ Aside0 (w'.heap[gb101]? = some (.cells #[.int .i64 a0_0, .int .i64 a0_1, .int .i64 a0_2] 28 (0, 0))) ∧ Aside0 (Below w.heap.size w w'))
  case atStart => exact ⟨(([] : List Int)), (0), (by first | rfl | (simp; done) | (simp [*]; done)), H', ⟨Nat.le_refl _⟩, ⟨by first | exact Kd.R_nil _ _ _ _ _ | exact Kd.N_nil _ _ _ _ _ | exact Kd.V_nil _ _ _ _ _ | exact Kd.Q_nil _ _ _ _ _ | exact Kd.S_nil _ _ _ _ _⟩, ⟨by (with_reducible repeat (first | refine blk_drewN ?_ _ | refine blk_drew ?_ | refine blk_alloc ?_ _)); exact BK101.out⟩, ⟨by repeat (first | (with_reducible first | exact HB.out | apply below_alloc | apply pw_below_drewN | apply below_drew1 | refine below_set ?_ GE101.out) | exact HB.out)⟩⟩
  case round =>
    clear H'; try clear p2
    obtain ⟨x5_1, x6_1, rfl, HA, HK1, HO_5, BK101, HB⟩ := hrel
    cases gk with
    | zero => exact absurd HA.out (by simp [impl_WaysFrom.l0])
    | succ k1 =>
      have H := HA.out
      clear HA
      simp only [impl_WaysFrom.l0] at H
      by_cases c4 : x6_1 ≤ 3
      · rw [if_pos c4] at H
        have c4b0 : decide (x6_1 ≤ 3) = true := decide_eq_true c4
        clear c4
        obtain ⟨t102, A50, H⟩ := Option.bind_eq_some_iff.mp H
        (try dsimp only at H); have A5 := Aside0.mk A50; clear A50
        by_cases c6 : t102 ≥ 0
        · rw [if_pos c6] at H
          have c6b0 : decide (0 ≤ t102) = true := decide_eq_true c6
          clear c6
          by_cases c7 : x5_1.length < 17592186044416
          · rw [if_pos c7] at H
            have LMc7 := Aside0.mk c7
            clear c7
            obtain ⟨y103, hy103⟩ : ∃ y_ : List Int, y_ = (x5_1 ++ [x6_1]) := ⟨_, rfl⟩
            replace H : (impl_WaysFrom.l0 k1 a1 y103 (wrap64 (x6_1 + 1)) a0_0 a0_1 a0_2) = some r := by first | (rw [hy103]; with_reducible exact H) | (have H2_ := (Option.bind_some _ _).symm.trans H; rw [hy103]; with_reducible exact H2_) | (have H2_ := (Option.bind_some _ _).symm.trans H; with_reducible exact H2_) | with_reducible exact H | (rw [hy103]; exact H) | exact H
            have Ny103 := Aside0.mk hy103
            clear hy103
            have H' := Aside0.mk H
            clear H
            obtain ⟨hcz8_0, hcz8_1, hcz8_2⟩ := kk3_ BK101.1
            have hfz8_0 := blk_frozen BK101.out 0
            have hfz8_1 := blk_frozen BK101.out 1
            have hfz8_2 := blk_frozen BK101.out 2
            go_wp2_with (first | ((with_reducible refine gate_callee (f := 72) rfl ?_); refine goesL_ (some 14) rfl rfl Try.func72 (by kernel_rfl) rfl #[.agg #[.int .i64 a0_0, .int .i64 a0_1, .int .i64 a0_2], .int .i64 a1, .int .i64 x6_1] rfl (by (try simp only [M3_]); first | done | rfl | (simp only [List.length_drop, List.length_take]; rfl)) ?_; (with_reducible refine (impl_Step.calls k1 a0_0 a0_1 a0_2 a1 x6_1 t102 _ A5.out).mono ?_); rintro e w9 ⟨rfl, hb⟩; refine ⟨_, rfl, ?_⟩; have n0_ := Aside0.mk (Kd.R_below (by (with_reducible repeat (first | apply Kd.R_alloc | apply Kd.R_drewN | apply Kd.R_drew)); exact HO_5.out) hb); have n1_ := Aside0.mk (blk_below (g := gb101) (o := .cells #[.int .i64 a0_0, .int .i64 a0_1, .int .i64 a0_2] 28 (0, 0)) (by (with_reducible repeat first | refine cA_ ?_ _ | refine cB_ ?_ | refine cC_ ?_ _); exact BK101.1) hb); have n2_ := Aside0.mk (below_step (by repeat first | exact HB.1 | apply bA_ | apply bB_ | apply bC_ | refine below_set ?_ GE101.out) hb); clear HO_5; clear BK101; clear HB; have HO_5 := n0_; have BK101 := n1_; have HB := n2_; clear n0_ n1_ n2_; (try clear hb); (try clear hb2); (try clear hk); (try clear hi)) | ((with_reducible refine gate_builtin (b := .append) (xs := #[.tmp 16, .tmp 18]) rfl ?_); at_builtin; refine Kd.R_append (Kd.int .i64) (w0 := w) w.heap.size rfl (.tmp 16) (.tmp 18) 46 3 (.int .i64 0) 8 rfl Try.underlying46 info3 rfl (by decide) (by omega) u5 x5_1 x6_1 [.int .i64 x6_1] (fun _ => True) (fun _ => False) rfl rfl ?aP (fun _ hk => hk.elim) ?aF ?aO ?aB ?aS ?aL ?_; (case aP => exact rfl); (case aB => exact (by repeat first | exact HB.1 | apply bA_ | apply bB_ | apply bC_ | refine below_set ?_ GE101.out)); (case aF => exact (fun _ _ => trivial)); (case aO => exact (by (with_reducible repeat (first | apply Kd.R_alloc | apply Kd.R_drewN | apply Kd.R_drew)); exact HO_5.out)); (case aS => exact (below_size (by repeat first | exact HB.1 | apply bA_ | apply bB_ | apply bC_ | refine below_set ?_ GE101.out))); (case aL => have := LMc7.out; omega); intro v104 w10 ho hb hg hat; rw [← Ny103.out] at ho; have n0_ := Aside0.mk (blk_grown (g := gb101) (o := .cells #[.int .i64 a0_0, .int .i64 a0_1, .int .i64 a0_2] 28 (0, 0)) (by (with_reducible repeat first | refine cA_ ?_ _ | refine cB_ ?_ | refine cC_ ?_ _); exact BK101.1) hg (Kd.R_ne HO_5.out BK101.out (by decide))); have n1_ := Aside0.mk (hb); have n2_ := Aside0.mk (ho); clear BK101; clear HB; clear HO_5; have BK101 := n0_; have HB := n1_; have HO105 := n2_; clear n0_ n1_ n2_; clear ho hb hg hat))
            go_roundg k1
            case measure => have := HK1.out; omega
            case rel => exact ⟨(y103), (wrap64 (x6_1 + 1)), (by first | rfl | (simp; done) | (simp [*]; done)), H', ⟨by have := HK1.out; omega⟩, ⟨by (with_reducible repeat (first | apply Kd.R_alloc | apply Kd.R_drewN | apply Kd.R_drew)); exact HO105.out⟩, ⟨by (with_reducible repeat (first | refine blk_drewN ?_ _ | refine blk_drew ?_ | refine blk_alloc ?_ _)); exact BK101.out⟩, ⟨by repeat (first | (with_reducible first | exact HB.out | apply below_alloc | apply pw_below_drewN | apply below_drew1 | refine below_set ?_ GE101.out) | exact HB.out)⟩⟩
          · rw [if_neg c7] at H
            exact absurd H (by simp)
        · rw [if_neg c6] at H
          have c6b0 : decide (0 ≤ t102) = false := decide_eq_false c6
          clear c6
          have H' := Aside0.mk H
          clear H
          obtain ⟨hcz11_0, hcz11_1, hcz11_2⟩ := kk3_ BK101.1
          have hfz11_0 := blk_frozen BK101.out 0
          have hfz11_1 := blk_frozen BK101.out 1
          have hfz11_2 := blk_frozen BK101.out 2
          go_wp2_with (first | ((with_reducible refine gate_callee (f := 72) rfl ?_); refine goesL_ (some 14) rfl rfl Try.func72 (by kernel_rfl) rfl #[.agg #[.int .i64 a0_0, .int .i64 a0_1, .int .i64 a0_2], .int .i64 a1, .int .i64 x6_1] rfl (by (try simp only [M3_]); first | done | rfl | (simp only [List.length_drop, List.length_take]; rfl)) ?_; (with_reducible refine (impl_Step.calls k1 a0_0 a0_1 a0_2 a1 x6_1 t102 _ A5.out).mono ?_); rintro e w12 ⟨rfl, hb⟩; refine ⟨_, rfl, ?_⟩; have n0_ := Aside0.mk (Kd.R_below (by (with_reducible repeat (first | apply Kd.R_alloc | apply Kd.R_drewN | apply Kd.R_drew)); exact HO_5.out) hb); have n1_ := Aside0.mk (blk_below (g := gb101) (o := .cells #[.int .i64 a0_0, .int .i64 a0_1, .int .i64 a0_2] 28 (0, 0)) (by (with_reducible repeat first | refine cA_ ?_ _ | refine cB_ ?_ | refine cC_ ?_ _); exact BK101.1) hb); have n2_ := Aside0.mk (below_step (by repeat first | exact HB.1 | apply bA_ | apply bB_ | apply bC_ | refine below_set ?_ GE101.out) hb); clear HO_5; clear BK101; clear HB; have HO_5 := n0_; have BK101 := n1_; have HB := n2_; clear n0_ n1_ n2_; (try clear hb); (try clear hb2); (try clear hk); (try clear hi)))
          go_roundg k1
          case measure => have := HK1.out; omega
          case rel => exact ⟨(x5_1), (wrap64 (x6_1 + 1)), (by first | rfl | (simp; done) | (simp [*]; done)), H', ⟨by have := HK1.out; omega⟩, ⟨by (with_reducible repeat (first | apply Kd.R_alloc | apply Kd.R_drewN | apply Kd.R_drew)); exact HO_5.out⟩, ⟨by (with_reducible repeat (first | refine blk_drewN ?_ _ | refine blk_drew ?_ | refine blk_alloc ?_ _)); exact BK101.out⟩, ⟨by repeat (first | (with_reducible first | exact HB.out | apply below_alloc | apply pw_below_drewN | apply below_drew1 | refine below_set ?_ GE101.out) | exact HB.out)⟩⟩
      · rw [if_neg c4] at H
        have c4b0 : decide (x6_1 ≤ 3) = false := decide_eq_false c4
        clear c4
        obtain rfl := Option.some.inj H
        go_wp2
        go_ret
        exact ⟨_, by first | rfl | (simp [errW_none, errW_some] <;> rfl) | (simp [*, errW_none, errW_some] <;> rfl), by (with_reducible repeat (first | apply Kd.R_alloc | apply Kd.R_drewN | apply Kd.R_drew)); exact HO_5.out, by repeat (first | (with_reducible first | exact HB.out | apply below_alloc | apply pw_below_drewN | apply below_drew1 | refine below_set ?_ GE101.out) | exact HB.out)⟩

end Go.Proofs.Ytejaglljnjdabaa.P
namespace Go.Proofs.Ytejaglljnjdabaa.P
open Go.RowKit Go.Proofs.YtejaglljnjdabaaW.PrintWords
set_option linter.unusedVariables false
set_option linter.unusedSimpArgs false

theorem impl_Step_ev {w h : Int} {n : Nat} (hg : gridOk w h = true) (hn : n < 2 ^ gapsN w h) (c d : Int) : Ev (fun k => impl_Step.f k w h n c d) (stepI w h n c d) := by
  unfold impl_Step.f stepI
  refine Ev.bnd0 (impl_MazeOk_eq w h n) (Ev.tt (mazeOk_iff.2 ⟨hg, n, rfl, hn⟩) ?_)
  refine Ev.bind (impl_GapAt_ev w h c d) (Ev.bnd0 (impl_isOpen_eq w h (open_small hn) _) ?_)
  by_cases ho : openI n (gapI w h c d) = true
  · rw [if_pos ho]
    exact Ev.tt ho (Ev.bind (impl_Neighbor_ev w h c d) (Ev.ret rfl))
  · rw [if_neg ho]
    exact Ev.ff ho (Ev.ret rfl)
theorem spec_GapAt_ev (w h c d : Int) : Ev (fun k => spec_GapAt.f k w h c d) (gapI w h c d) := by
  unfold spec_GapAt.f gapI
  refine Ev.bind (spec_Neighbor_ev w h c d) ?_
  by_cases hn : nbI w h c d < 0
  · rw [if_pos hn, if_pos hn]
    exact Ev.ret rfl
  · rw [if_neg hn, if_neg hn]
    obtain ⟨hd, h0, h1⟩ := nb_dir (by omega : 0 ≤ nbI w h c d)
    obtain ⟨hg, hcw⟩ := cellsOf_valid h0 h1
    have hcr := cellsOf_range w h
    have hgr := gridOk_iff.1 hg
    have hlt := nb_lt (w := w) (h := h) (c := c) (d := d)
    have hmn : mn c (nbI w h c d) = min c (nbI w h c d) := by unfold mn; omega
    rw [hmn]
    have hm0 : 0 ≤ min c (nbI w h c d) := by omega
    have hm1 : min c (nbI w h c d) ≤ 15 := by omega
    generalize min c (nbI w h c d) = m at *
    have ha0 : 0 ≤ m / w := Int.ediv_nonneg hm0 (by omega)
    have ha1 : m / w ≤ m := Int.ediv_le_self _ hm0
    have hb0 : 0 ≤ m % w := Int.emod_nonneg _ (by omega)
    have hb1 : m % w < w := Int.emod_lt_of_pos _ (by omega)
    have hp0 : 0 ≤ m / w * (w - 1) := Int.mul_nonneg ha0 (by omega)
    have hp1 : m / w * (w - 1) ≤ 15 * 3 := Int.mul_le_mul (by omega) (by omega) (by omega) (by omega)
    have hq0 : 0 ≤ (w - 1) * h := Int.mul_nonneg (by omega) (by omega)
    have hq1 : (w - 1) * h ≤ 3 * 4 := Int.mul_le_mul (by omega) (by omega) (by omega) (by omega)
    rw [Int.tmod_eq_emod_of_nonneg hm0, Int.tdiv_eq_ediv_of_nonneg hm0, wrap64_id (x := m / w) (by omega) (by omega), wrap64_id (x := w - 1) (by omega) (by omega), wrap64_id (x := m / w * (w - 1)) (by omega) (by omega), wrap64_id (x := m / w * (w - 1) + m % w) (by omega) (by omega)]
    refine Ev.ite (fun e => Ev.ff (by omega) ?_) (fun e => Ev.ite (fun e3 => Ev.ff (by omega) ?_) (fun e3 => ?_))
    · rw [if_pos (.inl e)]; exact Ev.ret rfl
    · rw [if_pos (.inr e3)]; exact Ev.ret rfl
    · rw [if_neg (by omega)]
      refine Ev.bnd0 (spec_l02East_eq hg) (Ev.ret ?_)
      unfold eastOf
      rw [wrap64_id (by omega) (by omega)]
end Go.Proofs.Ytejaglljnjdabaa.P
namespace Go.Proofs.Ytejaglljnjdabaa.P
open Go.RowKit Go.Proofs.YtejaglljnjdabaaW.PrintWords Go.Proofs.YtejaglljnjdabaaW.PrintLast Go.Proofs.YtejaglljnjdabaaW.PrintMore
attribute [local go_sem] max2_int min2_int max_two min_two max_three min_three max_four min_four   -- for this text's walks alone
set_option linter.unusedVariables false
set_option linter.unusedSimpArgs false

/-! ### spec_WaysFrom: function 69 -/
def spec_WaysFrom.l0 : Nat → Int → List Int → Int → Int → Int → Int → Option (List Int)
  | 0, _, _, _, _, _, _ => none
  | k + 1, x1, x5, x6, x102000, x102001, x102002 => if x6 ≤ 3 then ((spec_Step.f k x102000 x102001 x102002 x1 x6).bind fun t105 => (if t105 ≥ 0 then (if x5.length < 17592186044416 then (spec_WaysFrom.l0 k x1 (x5 ++ [x6]) (wrap64 (x6 + 1)) x102000 x102001 x102002) else (none)) else (spec_WaysFrom.l0 k x1 x5 (wrap64 (x6 + 1)) x102000 x102001 x102002))) else (some x5)
def spec_WaysFrom.f (k : Nat) (a0_0 : Int) (a0_1 : Int) (a0_2 : Int) (a1 : Int) : Option (List Int) := spec_WaysFrom.l0 k a1 (([] : List Int)) 0 a0_0 a0_1 a0_2
theorem spec_WaysFrom.mono_l : ∀ k, (∀ y0 y1 y2 y3 y4 y5, LeO (spec_WaysFrom.l0 k y0 y1 y2 y3 y4 y5) (spec_WaysFrom.l0 (k + 1) y0 y1 y2 y3 y4 y5))
  | 0 => fun _ _ _ _ _ _ r h => by simp [spec_WaysFrom.l0] at h
  | k + 1 => by
    have ih0 := spec_WaysFrom.mono_l k
    · intro y0 y1 y2 y3 y4 y5
      unfold spec_WaysFrom.l0
      repeat' first
      | (with_reducible exact ih0 _ _ _ _ _ _)
      | (with_reducible exact spec_Step.mono _ _ _ _ _ _)
      | (with_reducible exact LeO.refl _)
      | (with_reducible exact LeO.none _)
      | (with_reducible refine LeO.ite ?_ ?_)
      | (with_reducible refine LeO.bind ?_ (fun _ => ?_))
theorem spec_WaysFrom.mono : ∀ a0 a1 a2 a3 k, LeO (spec_WaysFrom.f k a0 a1 a2 a3) (spec_WaysFrom.f (k + 1) a0 a1 a2 a3) := by
  intro a0 a1 a2 a3 k
  have ih0 := spec_WaysFrom.mono_l k
  unfold spec_WaysFrom.f
  repeat' first
      | (with_reducible exact ih0 _ _ _ _ _ _)
      | (with_reducible exact spec_Step.mono _ _ _ _ _ _)
      | (with_reducible exact LeO.refl _)
      | (with_reducible exact LeO.none _)
      | (with_reducible refine LeO.ite ?_ ?_)
      | (with_reducible refine LeO.bind ?_ (fun _ => ?_))
set_option maxHeartbeats 8000000 in
set_option maxRecDepth 100000 in
theorem spec_WaysFrom.calls (k : Nat) (a0_0 : Int) (a0_1 : Int) (a0_2 : Int) (a1 : Int) (r : List Int) (w : World) (h : spec_WaysFrom.f k a0_0 a0_1 a0_2 a1 = some r) :
    Calls Try.prog 69 #[.agg #[.int .i64 a0_0, .int .i64 a0_1, .int .i64 a0_2], .int .i64 a1] w fun e w' => ∃ v0_ : Value, e = .returned (v0_) ∧ Kd.R (Kd.int .i64) 3 w' w.heap.size (fun _ => True) v0_ r ∧ Below w.heap.size w w' := by
  have hu28 := Try.underlying28
  have HB := Aside0.mk (Below.refl w.heap.size w)
  have H : (spec_WaysFrom.l0 k a1 (([] : List Int)) 0 a0_0 a0_1 a0_2) = some r := h
  clear h
  obtain ⟨y102, hy102⟩ : ∃ y_ : List Int, y_ = (([] : List Int)) := ⟨_, rfl⟩
  replace H : (spec_WaysFrom.l0 k a1 y102 0 a0_0 a0_1 a0_2) = some r := by first | (rw [hy102]; with_reducible exact H) | (have H2_ := (Option.bind_some _ _).symm.trans H; rw [hy102]; with_reducible exact H2_) | (have H2_ := (Option.bind_some _ _).symm.trans H; with_reducible exact H2_) | with_reducible exact H | (rw [hy102]; exact H) | exact H
  have Ny102 := Aside0.mk hy102
  clear hy102
  have H' := Aside0.mk H
  clear H
  go_enter Try.func69, Try.ntmps69
  go_wp2_with (first | ((with_reducible refine gate_dst (N := 2) rfl ?_); refine box_event ?hg (N := 2) ?hd (cs := #[.int .i64 a0_0, .int .i64 a0_1, .int .i64 a0_2]) (t := 28) ?hr ?_; (case hd => rfl); (case hg => rfl); (case hr => first | (go_simp; done) | (go_simp; rfl)); intro gb101 hg w3 hbox hb; have n0_ := Aside0.mk (below_step (by repeat first | exact HB.1 | apply bA_ | apply bB_ | apply bC_) hb); have n1_ := Aside0.mk (hbox); have n2_ := Aside0.mk ((by rw [hg]; exact (below_size (by repeat first | exact HB.1 | apply bA_ | apply bB_ | apply bC_)) : w.heap.size ≤ gb101)); have n3_ := n2_; clear HB; have HB := n0_; have BK101 := n1_; have GW101 := n2_; have GE101 := n3_; clear n0_ n1_ n2_ n3_; clear hb hbox hg) | ((with_reducible refine gate_dst (N := 7) rfl ?_); refine Kd.R_lit (Kd.int .i64) _ 3 ?hg (N := 7) ?hd (xs := ([] : List Int)) (inner := []) (ok := fun _ => True) (okp := fun _ => True) ?hr ?hp (fun _ hk => hk) trivial (Below.refl _ _) (Nat.le_refl _) (by simp) ?_; (case hd => rfl); (case hg => rfl); (case hr => first | (go_simp; done) | (go_simp; rfl)); (case hp => exact (Reps.none _ _)); intro v103 w4 ho5 hb hg_ hnew_; clear hg_ hnew_; (first | rw [← Ny102.out] at ho5 | (simp only [Int.reduceToNat] at ho5; rw [← Ny102.out] at ho5)); have n0_ := Aside0.mk (Kd.R_lower ho5 (below_size (by repeat first | exact HB.1 | apply bA_ | apply bB_ | apply bC_ | refine below_set ?_ GE101.out))); have n1_ := Aside0.mk (blk_below (g := gb101) (o := .cells #[.int .i64 a0_0, .int .i64 a0_1, .int .i64 a0_2] 28 (0, 0)) (by (with_reducible repeat first | refine cA_ ?_ _ | refine cB_ ?_ | refine cC_ ?_ _); exact BK101.1) hb); have n2_ := Aside0.mk (below_step (by repeat first | exact HB.1 | apply bA_ | apply bB_ | apply bC_ | refine below_set ?_ GE101.out) hb); clear BK101; clear HB; have HO104 := n0_; have BK101 := n1_; have HB := n2_; clear n0_ n1_ n2_; clear hb ho5))
  go_loopg [5, 6] k (fun kq v5 v6 w' => ∃ (x5_1 : List Int) (x6_1 : Int), v6 = .int .i64 x6_1 ∧ Aside0 (spec_WaysFrom.l0 kq a1 x5_1 x6_1 a0_0 a0_1 a0_2 = some r) ∧ Aside0 (kq ≤ k) ∧ Aside0 (Kd.R (Kd.int .i64) 3 w' w.heap.size (fun _ => True) v5 x5_1) ∧ Aside0 (w'.heap[gb101]? = some (.cells #[.int .i64 a0_0, .int .i64 a0_1, .int .i64 a0_2] 28 (0, 0))) ∧ Aside0 (Below w.heap.size w w'))
  case atStart => exact ⟨(y102), (0), (by first | rfl | (simp; done) | (simp [*]; done)), H', ⟨Nat.le_refl _⟩, ⟨by (with_reducible repeat (first | apply Kd.R_alloc | apply Kd.R_drewN | apply Kd.R_drew)); exact HO104.out⟩, ⟨by (with_reducible repeat (first | refine blk_drewN ?_ _ | refine blk_drew ?_ | refine blk_alloc ?_ _)); exact BK101.out⟩, ⟨by repeat (first | (with_reducible first | exact HB.out | apply below_alloc | apply pw_below_drewN | apply below_drew1 | refine below_set ?_ GE101.out) | exact HB.out)⟩⟩
  case round =>
    clear H'; try clear p2
    obtain ⟨x5_1, x6_1, rfl, HA, HK1, HO_5, BK101, HB⟩ := hrel
    cases gk with
    | zero => exact absurd HA.out (by simp [spec_WaysFrom.l0])
    | succ k1 =>
      have H := HA.out
      clear HA
      simp only [spec_WaysFrom.l0] at H
      by_cases c6 : x6_1 ≤ 3
      · rw [if_pos c6] at H
        have c6b0 : decide (x6_1 ≤ 3) = true := decide_eq_true c6
        clear c6
        obtain ⟨t105, A70, H⟩ := Option.bind_eq_some_iff.mp H
        (try dsimp only at H); have A7 := Aside0.mk A70; clear A70
        by_cases c8 : t105 ≥ 0
        · rw [if_pos c8] at H
          have c8b0 : decide (0 ≤ t105) = true := decide_eq_true c8
          clear c8
          by_cases c9 : x5_1.length < 17592186044416
          · rw [if_pos c9] at H
            have LMc9 := Aside0.mk c9
            clear c9
            obtain ⟨y106, hy106⟩ : ∃ y_ : List Int, y_ = (x5_1 ++ [x6_1]) := ⟨_, rfl⟩
            replace H : (spec_WaysFrom.l0 k1 a1 y106 (wrap64 (x6_1 + 1)) a0_0 a0_1 a0_2) = some r := by first | (rw [hy106]; with_reducible exact H) | (have H2_ := (Option.bind_some _ _).symm.trans H; rw [hy106]; with_reducible exact H2_) | (have H2_ := (Option.bind_some _ _).symm.trans H; with_reducible exact H2_) | with_reducible exact H | (rw [hy106]; exact H) | exact H
            have Ny106 := Aside0.mk hy106
            clear hy106
            have H' := Aside0.mk H
            clear H
            obtain ⟨hcz10_0, hcz10_1, hcz10_2⟩ := kk3_ BK101.1
            have hfz10_0 := blk_frozen BK101.out 0
            have hfz10_1 := blk_frozen BK101.out 1
            have hfz10_2 := blk_frozen BK101.out 2
            go_wp2_with (first | ((with_reducible refine gate_callee (f := 70) rfl ?_); refine goesL_ (some 15) rfl rfl Try.func70 (by kernel_rfl) rfl #[.agg #[.int .i64 a0_0, .int .i64 a0_1, .int .i64 a0_2], .int .i64 a1, .int .i64 x6_1] rfl (by (try simp only [M3_]); first | done | rfl | (simp only [List.length_drop, List.length_take]; rfl)) ?_; (with_reducible refine (spec_Step.calls k1 a0_0 a0_1 a0_2 a1 x6_1 t105 _ A7.out).mono ?_); rintro e w11 ⟨rfl, hb⟩; refine ⟨_, rfl, ?_⟩; have n0_ := Aside0.mk (Kd.R_below (by (with_reducible repeat (first | apply Kd.R_alloc | apply Kd.R_drewN | apply Kd.R_drew)); exact HO_5.out) hb); have n1_ := Aside0.mk (blk_below (g := gb101) (o := .cells #[.int .i64 a0_0, .int .i64 a0_1, .int .i64 a0_2] 28 (0, 0)) (by (with_reducible repeat first | refine cA_ ?_ _ | refine cB_ ?_ | refine cC_ ?_ _); exact BK101.1) hb); have n2_ := Aside0.mk (below_step (by repeat first | exact HB.1 | apply bA_ | apply bB_ | apply bC_ | refine below_set ?_ GE101.out) hb); clear HO_5; clear BK101; clear HB; have HO_5 := n0_; have BK101 := n1_; have HB := n2_; clear n0_ n1_ n2_; (try clear hb); (try clear hb2); (try clear hk); (try clear hi)) | ((with_reducible refine gate_builtin (b := .append) (xs := #[.tmp 17, .tmp 19]) rfl ?_); at_builtin; refine Kd.R_append (Kd.int .i64) (w0 := w) w.heap.size rfl (.tmp 17) (.tmp 19) 46 3 (.int .i64 0) 8 rfl Try.underlying46 info3 rfl (by decide) (by omega) u5 x5_1 x6_1 [.int .i64 x6_1] (fun _ => True) (fun _ => False) rfl rfl ?aP (fun _ hk => hk.elim) ?aF ?aO ?aB ?aS ?aL ?_; (case aP => exact rfl); (case aB => exact (by repeat first | exact HB.1 | apply bA_ | apply bB_ | apply bC_ | refine below_set ?_ GE101.out)); (case aF => exact (fun _ _ => trivial)); (case aO => exact (by (with_reducible repeat (first | apply Kd.R_alloc | apply Kd.R_drewN | apply Kd.R_drew)); exact HO_5.out)); (case aS => exact (below_size (by repeat first | exact HB.1 | apply bA_ | apply bB_ | apply bC_ | refine below_set ?_ GE101.out))); (case aL => have := LMc9.out; omega); intro v107 w12 ho hb hg hat; rw [← Ny106.out] at ho; have n0_ := Aside0.mk (blk_grown (g := gb101) (o := .cells #[.int .i64 a0_0, .int .i64 a0_1, .int .i64 a0_2] 28 (0, 0)) (by (with_reducible repeat first | refine cA_ ?_ _ | refine cB_ ?_ | refine cC_ ?_ _); exact BK101.1) hg (Kd.R_ne HO_5.out BK101.out (by decide))); have n1_ := Aside0.mk (hb); have n2_ := Aside0.mk (ho); clear BK101; clear HB; clear HO_5; have BK101 := n0_; have HB := n1_; have HO108 := n2_; clear n0_ n1_ n2_; clear ho hb hg hat))
            go_roundg k1
            case measure => have := HK1.out; omega
            case rel => exact ⟨(y106), (wrap64 (x6_1 + 1)), (by first | rfl | (simp; done) | (simp [*]; done)), H', ⟨by have := HK1.out; omega⟩, ⟨by (with_reducible repeat (first | apply Kd.R_alloc | apply Kd.R_drewN | apply Kd.R_drew)); exact HO108.out⟩, ⟨by (with_reducible repeat (first | refine blk_drewN ?_ _ | refine blk_drew ?_ | refine blk_alloc ?_ _)); exact BK101.out⟩, ⟨by repeat (first | (with_reducible first | exact HB.out | apply below_alloc | apply pw_below_drewN | apply below_drew1 | refine below_set ?_ GE101.out) | exact HB.out)⟩⟩
          · rw [if_neg c9] at H
            exact absurd H (by simp)
        · rw [if_neg c8] at H
          have c8b0 : decide (0 ≤ t105) = false := decide_eq_false c8
          clear c8
          have H' := Aside0.mk H
          clear H
          obtain ⟨hcz13_0, hcz13_1, hcz13_2⟩ := kk3_ BK101.1
          have hfz13_0 := blk_frozen BK101.out 0
          have hfz13_1 := blk_frozen BK101.out 1
          have hfz13_2 := blk_frozen BK101.out 2
          go_wp2_with (first | ((with_reducible refine gate_callee (f := 70) rfl ?_); refine goesL_ (some 15) rfl rfl Try.func70 (by kernel_rfl) rfl #[.agg #[.int .i64 a0_0, .int .i64 a0_1, .int .i64 a0_2], .int .i64 a1, .int .i64 x6_1] rfl (by (try simp only [M3_]); first | done | rfl | (simp only [List.length_drop, List.length_take]; rfl)) ?_; (with_reducible refine (spec_Step.calls k1 a0_0 a0_1 a0_2 a1 x6_1 t105 _ A7.out).mono ?_); rintro e w14 ⟨rfl, hb⟩; refine ⟨_, rfl, ?_⟩; have n0_ := Aside0.mk (Kd.R_below (by (with_reducible repeat (first | apply Kd.R_alloc | apply Kd.R_drewN | apply Kd.R_drew)); exact HO_5.out) hb); have n1_ := Aside0.mk (blk_below (g := gb101) (o := .cells #[.int .i64 a0_0, .int .i64 a0_1, .int .i64 a0_2] 28 (0, 0)) (by (with_reducible repeat first | refine cA_ ?_ _ | refine cB_ ?_ | refine cC_ ?_ _); exact BK101.1) hb); have n2_ := Aside0.mk (below_step (by repeat first | exact HB.1 | apply bA_ | apply bB_ | apply bC_ | refine below_set ?_ GE101.out) hb); clear HO_5; clear BK101; clear HB; have HO_5 := n0_; have BK101 := n1_; have HB := n2_; clear n0_ n1_ n2_; (try clear hb); (try clear hb2); (try clear hk); (try clear hi)))
          go_roundg k1
          case measure => have := HK1.out; omega
          case rel => exact ⟨(x5_1), (wrap64 (x6_1 + 1)), (by first | rfl | (simp; done) | (simp [*]; done)), H', ⟨by have := HK1.out; omega⟩, ⟨by (with_reducible repeat (first | apply Kd.R_alloc | apply Kd.R_drewN | apply Kd.R_drew)); exact HO_5.out⟩, ⟨by (with_reducible repeat (first | refine blk_drewN ?_ _ | refine blk_drew ?_ | refine blk_alloc ?_ _)); exact BK101.out⟩, ⟨by repeat (first | (with_reducible first | exact HB.out | apply below_alloc | apply pw_below_drewN | apply below_drew1 | refine below_set ?_ GE101.out) | exact HB.out)⟩⟩
      · rw [if_neg c6] at H
        have c6b0 : decide (x6_1 ≤ 3) = false := decide_eq_false c6
        clear c6
        obtain rfl := Option.some.inj H
        go_wp2
        go_ret
        exact ⟨_, by first | rfl | (simp [errW_none, errW_some] <;> rfl) | (simp [*, errW_none, errW_some] <;> rfl), by (with_reducible repeat (first | apply Kd.R_alloc | apply Kd.R_drewN | apply Kd.R_drew)); exact HO_5.out, by repeat (first | (with_reducible first | exact HB.out | apply below_alloc | apply pw_below_drewN | apply below_drew1 | refine below_set ?_ GE101.out) | exact HB.out)⟩

end Go.Proofs.Ytejaglljnjdabaa.P
namespace Go.Proofs.Ytejaglljnjdabaa.P
open Go.RowKit Go.Proofs.YtejaglljnjdabaaW.PrintWords
set_option linter.unusedVariables false
set_option linter.unusedSimpArgs false

theorem spec_IsPassage_eq {w h : Int} {n : Nat} (hg : gridOk w h = true) (hn : n < 2 ^ gapsN w h) (g : Int) : spec_IsPassage.f w h n g = some (openI n g) := by
  have hr := gapsOf_range w h
  unfold spec_IsPassage.f
  rw [spec_MazeOk_eq, Option.bind_some, if_pos (mazeOk_iff.2 ⟨hg, n, rfl, hn⟩), spec_CountGaps_eq, Option.bind_some, wrap64_id (by omega) (by omega), l01In_eq, Option.bind_some]
  by_cases hc : 0 ≤ g ∧ g < gapsOf w h
  · rw [if_pos (by simp; omega), spec_l03Bit_eq (open_small hn) hc.1]
    rfl
  · rw [if_neg (by simp; omega)]
    congr 1
    symm
    rw [Bool.eq_false_iff]
    intro ho
    have := open_isGap hn ho
    unfold isGapI at this
    simp at this
    omega
theorem spec_Step_ev {w h : Int} {n : Nat} (hg : gridOk w h = true) (hn : n < 2 ^ gapsN w h) (c d : Int) : Ev (fun k => spec_Step.f k w h n c d) (stepI w h n c d) := by
  unfold spec_Step.f stepI
  refine Ev.bnd0 (spec_MazeOk_eq w h n) (Ev.tt (mazeOk_iff.2 ⟨hg, n, rfl, hn⟩) ?_)
  refine Ev.bind (spec_GapAt_ev w h c d) (Ev.bnd0 (spec_IsPassage_eq hg hn _) ?_)
  by_cases ho : openI n (gapI w h c d) = true
  · rw [if_pos ho]
    exact Ev.tt ho (Ev.bind (spec_Neighbor_ev w h c d) (Ev.ret rfl))
  · rw [if_neg ho]
    exact Ev.ff ho (Ev.ret rfl)
end Go.Proofs.Ytejaglljnjdabaa.P
namespace Go.Proofs.Ytejaglljnjdabaa.P
open Go.RowKit Go.Proofs.YtejaglljnjdabaaW.PrintWords
set_option linter.unusedVariables false
set_option linter.unusedSimpArgs false

/-- The cells that a way leads to, one a step; none where it ends. -/
def wk (s : Int → Int → Int) : Int → List Int → Option (List Int)
  | _, [] => some []
  | c, d :: ds => if s c d < 0 then none else (wk s (s c d) ds).map (s c d :: ·)
theorem wk_len {s : Int → Int → Int} : ∀ {ds : List Int} {c : Int} {l : List Int}, wk s c ds = some l → l.length = ds.length
  | [], c, l, h => by cases h; rfl
  | d :: ds, c, l, h => by
    unfold wk at h
    by_cases e : s c d < 0
    · rw [if_pos e] at h; cases h
    · rw [if_neg e] at h
      obtain ⟨l', h', rfl⟩ := Option.map_eq_some_iff.1 h
      rw [List.length_cons, List.length_cons, wk_len h']
def cellsN' (w h : Int) (n : Nat) (c : Int) (way : List Int) : List Int := match (if isCellI w h c = true ∧ way.length ≤ 400 then wk (stepI w h n) c way else none) with | none => [] | some l => c :: l
theorem cellsN'_len (w h : Int) (n : Nat) (c : Int) (way : List Int) : (cellsN' w h n c way).length ≤ 401 := by
  unfold cellsN'
  by_cases e : isCellI w h c = true ∧ way.length ≤ 400
  · rw [if_pos e]
    cases hk : wk (stepI w h n) c way with
    | none => simp
    | some l => have := wk_len hk; simp only [List.length_cons]; omega
  · rw [if_neg e]; simp
section
variable {w h : Int} {n : Nat}
theorem impl_Cells_l0 (hg : gridOk w h = true) (hn : n < 2 ^ gapsN w h) (way : List Int) (hw : way.length ≤ 400) : ∀ (e i : Nat) (c : Int) (out : List Int), way.length - i = e → i ≤ way.length → out.length ≤ i + 1 →
    Ev (fun k => impl_CellsOn.l0 k c out way way.length i w h n) (match wk (stepI w h n) c (way.drop i) with | none => [] | some l => out ++ l)
  | 0, i, c, out, he, hi, ho => by
    refine Ev.step (fun _ => impl_CellsOn.l0.eq_2 ..) (Ev.ff (by omega) (Ev.ret ?_))
    rw [List.drop_eq_nil_of_le (by omega)]
    simp [wk]
  | e + 1, i, c, out, he, hi, ho => by
    refine Ev.step (fun _ => impl_CellsOn.l0.eq_2 ..) (Ev.tt (by omega) (Ev.tt (by omega) (Ev.tt (by omega) (Ev.bind (impl_Step_ev hg hn _ _) ?_))))
    rw [rd_get (show i < way.length by omega), List.drop_eq_getElem_cons (show i < way.length by omega)]
    unfold wk
    refine Ev.ite (fun e1 => ?_) (fun e1 => ?_)
    · rw [if_pos e1]; exact Ev.ret rfl
    · rw [if_neg e1, wsucc (by omega)]
      refine Ev.tt (by omega) ?_
      refine Ev.eq (impl_Cells_l0 hg hn way hw e (i + 1) (stepI w h n c way[i]) (out ++ [stepI w h n c way[i]]) (by omega) (by omega) (by simp; omega)) ?_
      cases wk (stepI w h n) (stepI w h n c way[i]) (way.drop (i + 1)) <;> simp
theorem impl_CellsOn_ev (hg : gridOk w h = true) (hn : n < 2 ^ gapsN w h) (c : Int) (way : List Int) : Ev (fun k => impl_CellsOn.f k w h n c way) (cellsN' w h n c way) := by
  unfold impl_CellsOn.f cellsN'
  refine Ev.bnd0 (impl_isIn_one ..) ?_
  rw [mazeOk_iff.2 ⟨hg, n, rfl, hn⟩, Bool.true_and]
  by_cases hc : isCellI w h c = true
  · refine Ev.tt hc (Ev.step (fun _ => impl_CellsOn.j0.eq_2 ..) ?_)
    by_cases hw : way.length ≤ 400
    · rw [if_pos ⟨hc, hw⟩]
      refine Ev.ff (by rw [decide_eq_true_eq]; omega) ?_
      refine Ev.eq (impl_Cells_l0 hg hn way hw way.length 0 c [c] (by omega) (by omega) (by simp)) ?_
      rw [List.drop_zero]
      cases wk (stepI w h n) c way <;> simp
    · rw [if_neg (fun h => hw h.2)]
      exact Ev.tt (by rw [decide_eq_true_eq]; omega) (Ev.ret rfl)
  · rw [if_neg (fun h => hc h.1)]
    exact Ev.ff hc (Ev.step (fun _ => impl_CellsOn.j0.eq_2 ..) (Ev.tt rfl (Ev.ret rfl)))
theorem spec_Walk_l0 (hg : gridOk w h = true) (hn : n < 2 ^ gapsN w h) (way : List Int) (hw : way.length ≤ 400) : ∀ (e i : Nat) (c : Int), way.length - i = e → i ≤ way.length →
    ∃ v, Ev (fun k => spec_WalkWay.l0 k c way i w h n) (v, (wk (stepI w h n) c (way.drop i)).isSome)
  | 0, i, c, he, hi => by
    refine ⟨c, Ev.step (fun _ => spec_WalkWay.l0.eq_2 ..) (Ev.ff (by omega) (Ev.ret ?_))⟩
    rw [List.drop_eq_nil_of_le (by omega)]
    simp [wk]
  | e + 1, i, c, he, hi => by
    obtain ⟨v, ih⟩ := spec_Walk_l0 hg hn way hw e (i + 1) (stepI w h n c way[i]) (by omega) (by omega)
    rw [List.drop_eq_getElem_cons (show i < way.length by omega)]
    unfold wk
    by_cases e1 : stepI w h n c way[i] < 0
    · refine ⟨-1, Ev.step (fun _ => spec_WalkWay.l0.eq_2 ..) (Ev.tt (by omega) (Ev.tt (by omega) (Ev.bind (spec_Step_ev hg hn _ _) ?_)))⟩
      rw [rd_get (show i < way.length by omega), if_pos e1]
      exact Ev.tt e1 (Ev.ret rfl)
    · refine ⟨v, Ev.step (fun _ => spec_WalkWay.l0.eq_2 ..) (Ev.tt (by omega) (Ev.tt (by omega) (Ev.bind (spec_Step_ev hg hn _ _) ?_)))⟩
      rw [rd_get (show i < way.length by omega), if_neg e1, wsucc (by omega)]
      refine Ev.ff e1 (Ev.eq ih ?_)
      cases wk (stepI w h n) (stepI w h n c way[i]) (way.drop (i + 1)) <;> simp
theorem spec_Cells_l0 (hg : gridOk w h = true) (hn : n < 2 ^ gapsN w h) (way : List Int) (hw : way.length ≤ 400) : ∀ (e i : Nat) (c : Int) (out l : List Int), way.length - i = e → i ≤ way.length → out.length ≤ i + 1 → wk (stepI w h n) c (way.drop i) = some l →
    Ev (fun k => spec_CellsOn.l0 k c way out i w h n) (out ++ l)
  | 0, i, c, out, l, he, hi, ho, hk => by
    refine Ev.step (fun _ => spec_CellsOn.l0.eq_2 ..) (Ev.ff (by omega) (Ev.ret ?_))
    rw [List.drop_eq_nil_of_le (by omega)] at hk
    cases hk
    simp
  | e + 1, i, c, out, l, he, hi, ho, hk => by
    refine Ev.step (fun _ => spec_CellsOn.l0.eq_2 ..) (Ev.tt (by omega) (Ev.tt (by omega) (Ev.bind (spec_Step_ev hg hn _ _) (Ev.tt (by omega) ?_))))
    rw [rd_get (show i < way.length by omega), wsucc (by omega)]
    rw [List.drop_eq_getElem_cons (show i < way.length by omega)] at hk
    unfold wk at hk
    by_cases e1 : stepI w h n c way[i] < 0
    · rw [if_pos e1] at hk; cases hk
    · rw [if_neg e1] at hk
      obtain ⟨l', h', rfl⟩ := Option.map_eq_some_iff.1 hk
      refine Ev.eq (spec_Cells_l0 hg hn way hw e (i + 1) _ (out ++ [stepI w h n c way[i]]) l' (by omega) (by omega) (by simp; omega) h') (by simp)
theorem spec_CellsOn_ev (hg : gridOk w h = true) (hn : n < 2 ^ gapsN w h) (c : Int) (way : List Int) : Ev (fun k => spec_CellsOn.f k w h n c way) (cellsN' w h n c way) := by
  unfold spec_CellsOn.f
  refine Ev.bnd0 rfl ?_
  have hm : mazeOk w h n = true := mazeOk_iff.2 ⟨hg, n, rfl, hn⟩
  have hww : ∃ v, Ev (fun k => spec_WalkWay.f k w h n c way) (v, (if isCellI w h c = true ∧ way.length ≤ 400 then wk (stepI w h n) c way else none).isSome) := by
    unfold spec_WalkWay.f
    by_cases hc : isCellI w h c = true
    · by_cases hw : way.length ≤ 400
      · obtain ⟨v, hv⟩ := spec_Walk_l0 hg hn way hw way.length 0 c (by omega) (by omega)
        refine ⟨v, Ev.bnd0 (spec_l04Has_eq ..) (Ev.tt (by rw [hm, hc]; rfl) (Ev.step (fun _ => spec_WalkWay.j0.eq_2 ..) (Ev.ff (by rw [decide_eq_true_eq]; omega) ?_)))⟩
        rw [if_pos ⟨hc, hw⟩]
        rw [List.drop_zero] at hv
        exact hv
      · refine ⟨-1, Ev.bnd0 (spec_l04Has_eq ..) (Ev.tt (by rw [hm, hc]; rfl) (Ev.step (fun _ => spec_WalkWay.j0.eq_2 ..) (Ev.tt (by rw [decide_eq_true_eq]; omega) ?_)))⟩
        rw [if_neg (fun h => hw h.2)]
        exact Ev.ret rfl
    · refine ⟨-1, Ev.bnd0 (spec_l04Has_eq ..) (Ev.ff (by rw [hm, Bool.true_and]; exact hc) (Ev.step (fun _ => spec_WalkWay.j0.eq_2 ..) (Ev.tt rfl ?_)))⟩
      rw [if_neg (fun h => hc h.1)]
      exact Ev.ret rfl
  obtain ⟨v, hv⟩ := hww
  refine Ev.bind hv ?_
  unfold cellsN'
  by_cases e : isCellI w h c = true ∧ way.length ≤ 400
  · rw [if_pos e]
    cases hk : wk (stepI w h n) c way with
    | none => exact Ev.ff (by simp) (Ev.ret rfl)
    | some l =>
      refine Ev.tt (by simp) (Ev.tt (by simp) ?_)
      exact spec_Cells_l0 hg hn way e.2 way.length 0 c [c] l (by omega) (by omega) (by simp) (by rw [List.drop_zero]; exact hk)
  · rw [if_neg e]
    exact Ev.ff (by simp) (Ev.ret rfl)
end
theorem impl_CellsOn_bad {w h o : Int} (hm : mazeOk w h o = false) (c : Int) (way : List Int) : Ev (fun k => impl_CellsOn.f k w h o c way) [] := by
  unfold impl_CellsOn.f
  refine Ev.bnd0 (impl_isIn_one ..) ?_
  rw [hm, Bool.false_and]
  exact Ev.ff (by simp) (Ev.step (fun _ => impl_CellsOn.j0.eq_2 ..) (Ev.tt rfl (Ev.ret rfl)))
theorem spec_CellsOn_bad {w h o : Int} (hm : mazeOk w h o = false) (c : Int) (way : List Int) : Ev (fun k => spec_CellsOn.f k w h o c way) [] := by
  unfold spec_CellsOn.f
  refine Ev.bnd0 rfl ?_
  have hww : Ev (fun k => spec_WalkWay.f k w h o c way) (-1, false) := by
    unfold spec_WalkWay.f
    refine Ev.bnd0 (spec_l04Has_eq ..) (Ev.ff (by rw [hm]; simp) (Ev.step (fun _ => spec_WalkWay.j0.eq_2 ..) (Ev.tt rfl (Ev.ret rfl))))
  exact Ev.bind hww (Ev.ff (by simp) (Ev.ret rfl))
end Go.Proofs.Ytejaglljnjdabaa.P
namespace Go.Proofs.Ytejaglljnjdabaa.P
open Go.RowKit Go.Proofs.YtejaglljnjdabaaW.PrintWords
set_option linter.unusedVariables false
set_option linter.unusedSimpArgs false

theorem idxOf_is {l : List Int} {x : Int} {i : Nat} (h : i < l.length) (hx : l[i] = x) (hn : ∀ j, (hj : j < i) → l[j] ≠ x) : l.idxOf x = i := by
  unfold List.idxOf
  rw [List.findIdx_eq h]
  exact ⟨by simp [hx], fun j hj => by simp [hn j hj]⟩
/-- One number more. -/
def eraseStep (out : List Int) (x : Int) : List Int := if x ∈ out then out.take (out.idxOf x + 1) else out ++ [x]
def erase (l : List Int) : List Int := l.foldl eraseStep []

theorem index_l0 (l : List Int) (x : Int) (hl : l.length ≤ 4611686018427387903) : ∀ (d i : Nat), l.length - i = d → i ≤ l.length → (∀ j, j < i → rd l j ≠ x) →
    Ev (fun k => slices_Index_int_int.l0 k l x l.length i) (if x ∈ l then (l.idxOf x : Int) else -1)
  | 0, i, hd, hi, hn => by
    refine Ev.step (fun _ => slices_Index_int_int.l0.eq_2 ..) ?_
    refine Ev.ff (by omega) (Ev.ret ?_)
    rw [if_neg]
    intro hx
    obtain ⟨j, hj, rfl⟩ := List.getElem_of_mem hx
    exact hn j (by omega) (rd_get hj)
  | d + 1, i, hd, hi, hn => by
    refine Ev.step (fun _ => slices_Index_int_int.l0.eq_2 ..) ?_
    refine Ev.tt (by omega) (Ev.tt (by omega) (Ev.tt (by omega) ?_))
    have hlt : i < l.length := by omega
    refine Ev.ite (fun e => ?_) (fun e => ?_)
    · refine Ev.ret ?_
      have hm : x ∈ l := by rw [e, rd_get hlt]; exact List.getElem_mem hlt
      rw [if_pos hm]
      rw [idxOf_is hlt (by rw [e, rd_get hlt]) (fun j hj => by have := hn j hj; rwa [rd_get (by omega)] at this)]
    · rw [wsucc (by omega)]
      refine index_l0 l x hl d (i + 1) (by omega) (by omega) fun j hj => ?_
      by_cases h : j = i
      · subst h; exact fun e' => e e'.symm
      · exact hn j (by omega)
theorem index_ev (l : List Int) (x : Int) (hl : l.length ≤ 4611686018427387903) : Ev (fun k => slices_Index_int_int.f k l x) (if x ∈ l then (l.idxOf x : Int) else -1) := by
  unfold slices_Index_int_int.f
  exact index_l0 l x hl l.length 0 (by omega) (by omega) (fun j hj => by omega)

/-! The program -/
theorem impl_erase_l0 (l : List Int) (hl : l.length ≤ 1048576) : ∀ (d i : Nat) (out : List Int), l.length - i = d → i ≤ l.length → out.length ≤ i →
    Ev (fun k => impl_EraseLoops.l0 k out l l.length i) ((l.drop i).foldl eraseStep out)
  | 0, i, out, hd, hi, ho => by
    refine Ev.step (fun _ => impl_EraseLoops.l0.eq_2 ..) ?_
    refine Ev.ff (by omega) (Ev.ret ?_)
    rw [List.drop_eq_nil_of_le (by omega)]
    rfl
  | d + 1, i, out, hd, hi, ho => by
    refine Ev.step (fun _ => impl_EraseLoops.l0.eq_2 ..) ?_
    refine Ev.tt (by omega) (Ev.tt (by omega) (Ev.tt (by omega) ?_))
    refine Ev.bind (index_ev out (rd l i) (by omega)) ?_
    rw [List.drop_eq_getElem_cons (show i < l.length by omega), List.foldl_cons, rd_get (show i < l.length by omega)]
    unfold eraseStep
    by_cases hm : l[i] ∈ out
    · rw [if_pos hm, if_pos hm]
      have hlt := List.idxOf_lt_length_of_mem hm
      rw [wsucc (by omega), wsucc (by omega)]
      refine Ev.tt (by omega) (Ev.tt (by omega) (Ev.tt (by omega) ?_))
      simp only [Int.toNat_natCast]
      exact impl_erase_l0 l hl d (i + 1) _ (by omega) (by omega) (by rw [List.length_take]; omega)
    · rw [if_neg hm, if_neg hm, wsucc (by omega)]
      refine Ev.ff (by omega) (Ev.tt (by omega) ?_)
      exact impl_erase_l0 l hl d (i + 1) _ (by omega) (by omega) (by rw [List.length_append]; simp; omega)
theorem impl_erase_ev (l : List Int) (hl : l.length ≤ 1048576) : Ev (fun k => impl_EraseLoops.f k l) (erase l) := by
  unfold impl_EraseLoops.f
  exact impl_erase_l0 l hl l.length 0 [] (by omega) (by omega) (by simp)

/-! The reference: the last place, which is the first one where no number stands twice -/
theorem erase_nodup {out : List Int} (h : out.Nodup) (x : Int) : (eraseStep out x).Nodup := by
  unfold eraseStep
  split
  · exact h.sublist (List.take_sublist _ _)
  · rename_i hx
    rw [List.nodup_append]
    refine ⟨h, by simp, fun a ha b hb => ?_⟩
    simp at hb
    subst hb
    rintro rfl
    exact hx ha
theorem nodup_idx {l : List Int} (h : l.Nodup) {i : Nat} (hi : i < l.length) : l.idxOf l[i] = i := by
  refine idxOf_is hi rfl fun j hj e => ?_
  have := List.pairwise_iff_getElem.1 h j i (by omega) hi hj
  exact this e
theorem spec_erase_l1 (l : List Int) (hl : l.length ≤ 1048576) (r : List Int) (i : Nat) (hi : i < l.length) (out : List Int) (ho : out.length ≤ i) (hn : out.Nodup)
    (hr : Ev (fun k => spec_EraseLoops.l0 k l (eraseStep out l[i]) ((i + 1 : Nat) : Int)) r) : ∀ (d j : Nat) (at_ : Int), out.length - j = d → j ≤ out.length →
    Aside0 (at_ = -1 ∧ (∀ t, t < j → rd out t ≠ l[i]) ∨ ∃ t, t < j ∧ at_ = (t : Int) ∧ rd out t = l[i]) →
    Ev (fun k => spec_EraseLoops.l1 k l out i at_ j) r
  | 0, j, at_, hd, hj, ha => by
    refine Ev.step (fun _ => spec_EraseLoops.l1.eq_2 ..) ?_
    refine Ev.ff (by omega) ?_
    obtain ⟨ha⟩ := ha
    rcases ha with ⟨rfl, ha⟩ | ⟨t, ht, rfl, ha⟩
    · refine Ev.ff (by omega) (Ev.tt (by omega) (Ev.tt (by omega) (Ev.tt (by omega) ?_)))
      rw [wsucc (by omega), rd_get hi]
      unfold eraseStep at hr
      rw [if_neg] at hr
      · exact hr
      · intro hm
        obtain ⟨t, ht, e⟩ := List.getElem_of_mem hm
        exact ha t (by omega) (by rw [rd_get ht]; exact e)
    · have htl : t < out.length := by omega
      rw [rd_get htl] at ha
      rw [wsucc (by omega), wsucc (by omega)]
      refine Ev.tt (by omega) (Ev.tt (by omega) (Ev.tt (by omega) ?_))
      unfold eraseStep at hr
      rw [if_pos (by rw [← ha]; exact List.getElem_mem htl), ← ha, nodup_idx hn htl] at hr
      simpa only [Int.toNat_natCast] using hr
  | d + 1, j, at_, hd, hj, ha => by
    refine Ev.step (fun _ => spec_EraseLoops.l1.eq_2 ..) ?_
    refine Ev.tt (by omega) (Ev.tt (by omega) (Ev.tt (by omega) (Ev.tt (by omega) ?_)))
    rw [wsucc (by omega)]
    refine Ev.ite (fun e => ?_) (fun e => ?_)
    · exact spec_erase_l1 l hl r i hi out ho hn hr d (j + 1) j (by omega) (by omega) ⟨.inr ⟨j, by omega, rfl, by rw [e, rd_get hi]⟩⟩
    · refine spec_erase_l1 l hl r i hi out ho hn hr d (j + 1) at_ (by omega) (by omega) ?_
      obtain ⟨ha⟩ := ha
      rcases ha with ⟨rfl, ha⟩ | ⟨t, ht, rfl, ha⟩
      · refine ⟨Or.inl ⟨rfl, fun t ht => ?_⟩⟩
        by_cases h : t = j
        · subst h; rw [rd_get hi] at e; exact e
        · exact ha t (by omega)
      · exact ⟨Or.inr ⟨t, by omega, rfl, ha⟩⟩
theorem spec_erase_l0 (l : List Int) (hl : l.length ≤ 1048576) : ∀ (d i : Nat) (out : List Int), l.length - i = d → i ≤ l.length → out.length ≤ i → out.Nodup →
    Ev (fun k => spec_EraseLoops.l0 k l out i) ((l.drop i).foldl eraseStep out)
  | 0, i, out, hd, hi, ho, hn => by
    refine Ev.step (fun _ => spec_EraseLoops.l0.eq_2 ..) ?_
    refine Ev.ff (by omega) (Ev.ret ?_)
    rw [List.drop_eq_nil_of_le (by omega)]
    rfl
  | d + 1, i, out, hd, hi, ho, hn => by
    refine Ev.step (fun _ => spec_EraseLoops.l0.eq_2 ..) ?_
    refine Ev.tt (by omega) ?_
    rw [List.drop_eq_getElem_cons (show i < l.length by omega), List.foldl_cons]
    have hs : (eraseStep out l[i]).length ≤ i + 1 := by
      unfold eraseStep
      split
      · rw [List.length_take]; omega
      · simp; omega
    exact spec_erase_l1 l hl _ i (by omega) out ho hn (spec_erase_l0 l hl d (i + 1) _ (by omega) (by omega) hs (erase_nodup hn _)) out.length 0 (-1) (by omega) (by omega) ⟨.inl ⟨rfl, fun t ht => by omega⟩⟩
theorem spec_erase_ev (l : List Int) (hl : l.length ≤ 1048576) : Ev (fun k => spec_EraseLoops.f k l) (erase l) := by
  unfold spec_EraseLoops.f
  exact spec_erase_l0 l hl l.length 0 [] (by omega) (by omega) (by simp) (by simp)
theorem eraseStep_len (out : List Int) (x : Int) : (eraseStep out x).length ≤ out.length + 1 := by
  unfold eraseStep
  split
  · rw [List.length_take]; omega
  · simp
theorem erase_len_from (l : List Int) : ∀ out : List Int, (l.foldl eraseStep out).length ≤ out.length + l.length := by
  induction l with
  | nil => intro out; simp
  | cons x l ih =>
    intro out
    rw [List.foldl_cons]
    have h1 := ih (eraseStep out x)
    have h2 := eraseStep_len out x
    simp only [List.length_cons]
    omega
theorem erase_len (l : List Int) : (erase l).length ≤ l.length := by
  have := erase_len_from l []
  simpa [erase] using this
theorem dir_ev {w h a b : Int} (hf : fitsB w h a b = true) : ∀ e d : Nat, 4 - d = e → d ≤ dirOf w h a b → Ev (fun k => spec_l14Direction.l0 k a b d w h) (dirOf w h a b : Int)
  | 0, d, he, hd => by have := dirOf_lt w h a b; omega
  | e + 1, d, he, hd => by
    obtain ⟨_, _, f3, f4, _, _⟩ := fits_iff hf
    have hD := dirOf_lt w h a b
    refine Ev.step (fun _ => spec_l14Direction.l0.eq_2 ..) (Ev.tt (by omega) (Ev.bind (spec_Neighbor_ev ..) ?_))
    refine Ev.ite (fun e1 => ?_) (fun e1 => ?_)
    · rw [f4 d (by omega) e1]
      exact Ev.ret rfl
    · rw [wsucc (by omega)]
      have hne : d ≠ dirOf w h a b := fun e2 => e1 (by rw [e2]; exact f3)
      exact dir_ev hf e (d + 1) (by omega) (by omega)
end Go.Proofs.Ytejaglljnjdabaa.P
namespace Go.Proofs.Ytejaglljnjdabaa.P
open Go.RowKit Go.Proofs.YtejaglljnjdabaaW.PrintWords
set_option linter.unusedVariables false
set_option linter.unusedSimpArgs false

def nbFits (W H c d : Nat) : Bool := decide (nbI W H c d < 0) || (fitsB W H c (nbI W H c d) && decide (dirOf W H c (nbI W H c d) = d))
theorem nbFits_all : (List.range 5).all (fun W => (List.range 5).all fun H => (List.range 16).all fun c => (List.range 4).all fun d => nbFits W H c d) = true := by decide +kernel
theorem nb_fits {w h c d : Int} (hn : 0 ≤ nbI w h c d) : fitsB w h c (nbI w h c d) = true ∧ ((dirOf w h c (nbI w h c d) : Nat) : Int) = d := by
  obtain ⟨hd, h0, h1⟩ := nb_dir hn
  obtain ⟨hg, _⟩ := cellsOf_valid h0 h1
  have hr := cellsOf_range w h
  obtain ⟨W, H, rfl, rfl, _, w5, _, h5⟩ := grid_nat hg
  obtain ⟨C, rfl⟩ := Int.eq_ofNat_of_zero_le h0
  obtain ⟨D, rfl⟩ := Int.eq_ofNat_of_zero_le (show 0 ≤ d by omega)
  have := List.all_eq_true.1 (List.all_eq_true.1 (List.all_eq_true.1 (List.all_eq_true.1 nbFits_all W (List.mem_range.2 w5)) H (List.mem_range.2 h5)) C (List.mem_range.2 (by omega))) D (List.mem_range.2 (by omega))
  unfold nbFits at this
  simp only [Bool.or_eq_true, Bool.and_eq_true, decide_eq_true_eq] at this
  rcases this with h | ⟨h, e⟩
  · omega
  · exact ⟨h, by rw [e]⟩
/-- A step leads from a to b. -/
def Lk (w h : Int) (n : Nat) (a b : Int) : Prop := ∃ d : Int, stepI w h n a d = b ∧ 0 ≤ b
theorem Lk_facts {w h : Int} {n : Nat} {a b : Int} (hl : Lk w h n a b) : fitsB w h a b = true ∧ stepI w h n a (dirOf w h a b) = b ∧ ∀ d : Nat, d < 4 → stepI w h n a d = b → d = dirOf w h a b := by
  obtain ⟨d, hd, hb⟩ := hl
  have hnb : nbI w h a d = b := by
    unfold stepI at hd
    split at hd
    · exact hd
    · omega
  obtain ⟨f1, f2⟩ := nb_fits (w := w) (h := h) (c := a) (d := d) (by omega)
  rw [hnb] at f1 f2
  refine ⟨f1, by rw [f2]; exact hd, fun d' h4 hd' => ?_⟩
  refine (fits_iff f1).2.2.2.1 d' h4 ?_
  unfold stepI at hd'
  split at hd'
  · exact hd'
  · omega
def Ch (w h : Int) (n : Nat) (l : List Int) : Prop := ∀ i : Nat, (hi : i + 1 < l.length) → Lk w h n l[i] l[i + 1]
theorem erase_Ch {w h : Int} {n : Nat} : ∀ (way : List Int) (c : Int) (out l : List Int), wk (stepI w h n) c way = some l → Ch w h n out → out.getLast? = some c → Ch w h n (l.foldl eraseStep out)
  | [], c, out, l, hk, hc, hl => by cases hk; exact hc
  | d :: ds, c, out, l, hk, hc, hl => by
    unfold wk at hk
    by_cases e1 : stepI w h n c d < 0
    · rw [if_pos e1] at hk; cases hk
    · rw [if_neg e1] at hk
      obtain ⟨l', h', rfl⟩ := Option.map_eq_some_iff.1 hk
      rw [List.foldl_cons]
      refine erase_Ch ds (stepI w h n c d) (eraseStep out (stepI w h n c d)) l' h' ?_ ?_
      · unfold eraseStep
        split
        · intro i hi
          rw [List.length_take] at hi
          rw [List.getElem_take, List.getElem_take]
          exact hc i (by omega)
        · intro i hi
          rw [List.length_append, List.length_singleton] at hi
          by_cases e : i + 1 < out.length
          · rw [List.getElem_append_left (by omega), List.getElem_append_left e]
            exact hc i e
          · have hne : out ≠ [] := by rintro rfl; simp at hl
            have h1 : i + 1 = out.length := by omega
            rw [List.getElem_append_left (by omega), List.getElem_append_right (by omega)]
            have h2 : out[i] = c := by
              rw [List.getLast?_eq_getElem?, List.getElem?_eq_getElem (by omega)] at hl
              have := Option.some.inj hl
              simpa [show out.length - 1 = i by omega] using this
            rw [h2]
            refine ⟨d, ?_, ?_⟩
            · simp
            · simp; omega
      · unfold eraseStep
        split
        · rename_i hm
          have hlt := List.idxOf_lt_length_of_mem hm
          rw [List.getLast?_eq_getElem?, List.length_take, Nat.min_eq_left (by omega), Nat.add_sub_cancel, List.getElem?_take_of_lt (by omega), List.getElem?_eq_getElem hlt, List.getElem_idxOf hlt]
        · simp
theorem erase_pos : ∀ (l out : List Int), out ≠ [] → l.foldl eraseStep out ≠ []
  | [], out, h => h
  | x :: l, out, h => by
    rw [List.foldl_cons]
    refine erase_pos l _ ?_
    unfold eraseStep
    split
    · intro e
      have hlen := congrArg List.length e
      rw [List.length_take, List.length_nil] at hlen
      have : out.length ≠ 0 := fun e2 => h (List.length_eq_zero_iff.1 e2)
      omega
    · simp
section
variable {w h : Int} {n : Nat}
/-- The directions from one cell to the next. -/
def dirs (w h : Int) (E : List Int) : Nat → Nat → List Int
  | 0, _ => []
  | e + 1, i => ((dirOf w h (rd E ((i : Int) - 1)) (rd E (i : Int)) : Nat) : Int) :: dirs w h E e (i + 1)
theorem dirs_len (E : List Int) : ∀ e i, (dirs w h E e i).length = e
  | 0, _ => rfl
  | e + 1, i => by unfold dirs; rw [List.length_cons, dirs_len E e (i + 1)]
theorem Ch_rd {E : List Int} (hc : Ch w h n E) {i : Nat} (h0 : 1 ≤ i) (h1 : i < E.length) : Lk w h n (rd E ((i : Int) - 1)) (rd E (i : Int)) := by
  obtain ⟨j, rfl⟩ : ∃ j, i = j + 1 := ⟨i - 1, by omega⟩
  rw [show ((j + 1 : Nat) : Int) - 1 = (j : Int) by omega, rd_get (by omega), rd_get h1]
  exact hc j h1
theorem impl_EWay_l1 (hg : gridOk w h = true) (hn : n < 2 ^ gapsN w h) {E : List Int} (hE : E.length ≤ 401) (hc : Ch w h n E) {i : Nat} (h0 : 1 ≤ i) (h1 : i < E.length) {out : List Int} (ho : out.length ≤ 1000) {r : List Int × Bool}
    (hk : Ev (fun k => impl_EraseWay.l0 k E (out ++ [((dirOf w h (rd E ((i : Int) - 1)) (rd E (i : Int)) : Nat) : Int)]) ((i + 1 : Nat) : Int) w h n) r) : ∀ e d : Nat, 4 - d = e → d ≤ 4 →
    Ev (fun k => impl_EraseWay.l1 k E (if d ≤ dirOf w h (rd E ((i : Int) - 1)) (rd E (i : Int)) then out else out ++ [((dirOf w h (rd E ((i : Int) - 1)) (rd E (i : Int)) : Nat) : Int)]) i d w h n) r
  | 0, d, he, hd => by
    have hD := dirOf_lt w h (rd E ((i : Int) - 1)) (rd E (i : Int))
    refine Ev.step (fun _ => impl_EraseWay.l1.eq_2 ..) (Ev.ff (by omega) ?_)
    rw [wsucc (by omega), if_neg (by omega)]
    exact hk
  | e + 1, d, he, hd => by
    obtain ⟨f1, f2, f3⟩ := Lk_facts (Ch_rd hc h0 h1)
    have ih := impl_EWay_l1 hg hn hE hc h0 h1 ho hk e (d + 1) (by omega) (by omega)
    refine Ev.step (fun _ => impl_EraseWay.l1.eq_2 ..) (Ev.tt (by omega) ?_)
    rw [wrap64_id (x := (i : Int) - 1) (by omega) (by omega)]
    refine Ev.tt (by omega) (Ev.tt (by omega) (Ev.bind (impl_Step_ev hg hn _ _) (Ev.tt (by omega) (Ev.tt (by omega) ?_))))
    rw [wsucc (by omega)]
    refine Ev.ite (fun e1 => ?_) (fun e1 => ?_)
    · obtain rfl := f3 d (by omega) e1
      rw [if_neg (by omega)] at ih
      rw [if_pos (Nat.le_refl _)]
      exact Ev.tt (by omega) ih
    · have hne : d ≠ dirOf w h (rd E ((i : Int) - 1)) (rd E (i : Int)) := fun e2 => e1 (by rw [e2]; exact f2)
      by_cases hle : d ≤ dirOf w h (rd E ((i : Int) - 1)) (rd E (i : Int))
      · rw [if_pos (by omega)] at ih
        rw [if_pos hle]
        exact ih
      · rw [if_neg (by omega)] at ih
        rw [if_neg hle]
        exact ih
theorem impl_EWay_l0 (hg : gridOk w h = true) (hn : n < 2 ^ gapsN w h) {E : List Int} (hE : E.length ≤ 401) (hc : Ch w h n E) : ∀ (e i : Nat) (out : List Int), E.length - i = e → 1 ≤ i → out.length + 1 ≤ i →
    Ev (fun k => impl_EraseWay.l0 k E out i w h n) (out ++ dirs w h E e i, true)
  | 0, i, out, he, h0, ho => by
    refine Ev.step (fun _ => impl_EraseWay.l0.eq_2 ..) (Ev.ff (by omega) (Ev.ret ?_))
    simp [dirs]
  | e + 1, i, out, he, h0, ho => by
    refine Ev.step (fun _ => impl_EraseWay.l0.eq_2 ..) (Ev.tt (by omega) ?_)
    have ih := impl_EWay_l0 hg hn hE hc e (i + 1) (out ++ [((dirOf w h (rd E ((i : Int) - 1)) (rd E (i : Int)) : Nat) : Int)]) (by omega) (by omega) (by simp; omega)
    have := impl_EWay_l1 hg hn hE hc h0 (by omega) (out := out) (by omega) ih 4 0 rfl (by omega)
    rw [if_pos (Nat.zero_le _)] at this
    refine Ev.eq this ?_
    simp [dirs]
theorem spec_EWay_l0 (hg : gridOk w h = true) (hn : n < 2 ^ gapsN w h) {E : List Int} (hE : E.length ≤ 401) (hc : Ch w h n E) : ∀ (e i : Nat) (out : List Int), E.length - i = e → 1 ≤ i → out.length + 1 ≤ i →
    Ev (fun k => spec_EraseWay.l0 k out E i w h n) (out ++ dirs w h E e i, decide ((E.length : Int) > 0))
  | 0, i, out, he, h0, ho => by
    refine Ev.step (fun _ => spec_EraseWay.l0.eq_2 ..) (Ev.ff (by omega) (Ev.ret ?_))
    simp [dirs]
  | e + 1, i, out, he, h0, ho => by
    obtain ⟨f1, f2, f3⟩ := Lk_facts (Ch_rd hc h0 (show i < E.length by omega))
    refine Ev.step (fun _ => spec_EraseWay.l0.eq_2 ..) (Ev.tt (by omega) ?_)
    rw [wrap64_id (x := (i : Int) - 1) (by omega) (by omega)]
    have hd : Ev (fun k => spec_l14Direction.f k w h (rd E ((i : Int) - 1)) (rd E (i : Int))) ((dirOf w h (rd E ((i : Int) - 1)) (rd E (i : Int)) : Nat) : Int) := by
      exact dir_ev f1 4 0 rfl (Nat.zero_le _)
    refine Ev.tt (by omega) (Ev.tt (by omega) (Ev.tt (by omega) (Ev.bind hd (Ev.tt (by omega) ?_))))
    rw [wsucc (by omega)]
    have ih := spec_EWay_l0 hg hn hE hc e (i + 1) (out ++ [((dirOf w h (rd E ((i : Int) - 1)) (rd E (i : Int)) : Nat) : Int)]) (by omega) (by omega) (by simp; omega)
    refine Ev.eq ih ?_
    simp [dirs]
theorem EraseWay_both (hg : gridOk w h = true) (hn : n < 2 ^ gapsN w h) (c : Int) (way : List Int) : ∃ r : List Int × Bool, r.1.length ≤ 1000 ∧ Ev (fun k => impl_EraseWay.f k w h n c way) r ∧ Ev (fun k => spec_EraseWay.f k w h n c way) r := by
  have hl := cellsN'_len w h n c way
  have hel := erase_len (cellsN' w h n c way)
  by_cases h0 : (cellsN' w h n c way).length = 0
  · refine ⟨([], false), by simp, ?_, ?_⟩
    · unfold impl_EraseWay.f
      exact Ev.bind (impl_CellsOn_ev hg hn c way) (Ev.tt h0 (Ev.ret rfl))
    · unfold spec_EraseWay.f
      refine Ev.bind (spec_CellsOn_ev hg hn c way) (Ev.bind (spec_erase_ev _ (by omega)) ?_)
      rw [List.length_eq_zero_iff.1 h0]
      exact Ev.step (fun _ => spec_EraseWay.l0.eq_2 ..) (Ev.ff (by decide) (Ev.ret rfl))
  · have hch : Ch w h n (erase (cellsN' w h n c way)) ∧ erase (cellsN' w h n c way) ≠ [] := by
      unfold cellsN' at h0 ⊢
      cases hk : (if isCellI w h c = true ∧ way.length ≤ 400 then wk (stepI w h n) c way else none) with
      | none => rw [hk] at h0; exact absurd rfl h0
      | some l =>
        have hk' : wk (stepI w h n) c way = some l := by
          split at hk
          · exact hk
          · cases hk
        have hs : erase (c :: l) = l.foldl eraseStep [c] := by simp [erase, eraseStep]
        show Ch w h n (erase (c :: l)) ∧ erase (c :: l) ≠ []
        rw [hs]
        exact ⟨erase_Ch way c [c] l hk' (fun i hi => absurd hi (by simp)) (by simp), erase_pos l [c] (by simp)⟩
    have hp : 0 < (erase (cellsN' w h n c way)).length := List.length_pos_iff.2 hch.2
    refine ⟨([] ++ dirs w h (erase (cellsN' w h n c way)) ((erase (cellsN' w h n c way)).length - 1) 1, true), by rw [List.nil_append, dirs_len]; omega, ?_, ?_⟩
    · unfold impl_EraseWay.f
      refine Ev.bind (impl_CellsOn_ev hg hn c way) (Ev.ff h0 (Ev.bind (impl_erase_ev _ (by omega)) ?_))
      exact impl_EWay_l0 hg hn (by omega) hch.1 _ 1 [] rfl (by omega) (by simp)
    · unfold spec_EraseWay.f
      refine Ev.bind (spec_CellsOn_ev hg hn c way) (Ev.bind (spec_erase_ev _ (by omega)) ?_)
      refine Ev.eq (spec_EWay_l0 hg hn (by omega) hch.1 _ 1 [] rfl (by omega) (by simp)) ?_
      rw [decide_eq_true (by omega)]
end
theorem EraseWay_bad {w h o : Int} (hm : mazeOk w h o = false) (c : Int) (way : List Int) : Ev (fun k => impl_EraseWay.f k w h o c way) ([], false) ∧ Ev (fun k => spec_EraseWay.f k w h o c way) ([], false) := by
  constructor
  · unfold impl_EraseWay.f
    exact Ev.bind (impl_CellsOn_bad hm c way) (Ev.tt rfl (Ev.ret rfl))
  · unfold spec_EraseWay.f
    refine Ev.bind (spec_CellsOn_bad hm c way) (Ev.bind (spec_erase_ev [] (by simp)) ?_)
    exact Ev.step (fun _ => spec_EraseWay.l0.eq_2 ..) (Ev.ff (by decide) (Ev.ret rfl))
end Go.Proofs.Ytejaglljnjdabaa.P
namespace Go.Proofs.Ytejaglljnjdabaa.P
open Go.RowKit Go.Proofs.YtejaglljnjdabaaW.PrintWords
set_option linter.unusedVariables false
set_option linter.unusedSimpArgs false

theorem toIntS_l0 (l : List Int) (hl : l.length ≤ 35184372088832) : ∀ (d i : Nat) (m : List Int), l.length - i = d → i ≤ l.length → m.length = l.length → (∀ j, j < i → rd m j = rd l j) → Ev (fun k => laws_toIntS.l0 k l m i) l
  | 0, i, m, hd, hi, hm, he => by
    refine Ev.step (fun _ => laws_toIntS.l0.eq_2 ..) ?_
    refine Ev.ff (by omega) (Ev.ret ?_)
    refine List.ext_getElem hm fun j h1 h2 => ?_
    have := he j (by omega)
    rwa [rd_get h1, rd_get h2] at this
  | d + 1, i, m, hd, hi, hm, he => by
    refine Ev.step (fun _ => laws_toIntS.l0.eq_2 ..) ?_
    refine Ev.tt (by omega) (Ev.tt (by omega) (Ev.tt (by omega) ?_))
    rw [wsucc (by omega)]
    refine toIntS_l0 l hl d (i + 1) _ (by omega) (by omega) (by rw [List.length_set]; exact hm) fun j hj => ?_
    by_cases e : j = i
    · subst e
      rw [rd_get (by rw [List.length_set]; omega)]
      simp [rd_get (show j < l.length by omega)]
    · rw [← he j (by omega), rd_get (by rw [List.length_set]; omega), rd_get (by omega)]
      simp only [Int.toNat_natCast]
      rw [List.getElem_set_ne (by omega), rd_get (by omega)]
theorem toIntS_ev (l : List Int) (hl : l.length ≤ 35184372088832) : Ev (fun k => laws_toIntS.f k l) l := by
  unfold laws_toIntS.f
  refine Ev.tt (by omega) (Ev.tt (by omega) ?_)
  exact toIntS_l0 l hl l.length 0 _ (by omega) (by omega) (by simp) (fun j hj => by omega)

theorem eqIntS_l0 (a b : List Int) (hl : a.length = b.length) (hb : b.length ≤ 35184372088832) : ∀ (d i : Nat), a.length - i = d → i ≤ a.length → Ev (fun k => laws_eqIntS.l0 k a b i) (decide (a.drop i = b.drop i))
  | 0, i, hd, hi => by
    refine Ev.step (fun _ => laws_eqIntS.l0.eq_2 ..) ?_
    refine Ev.ff (by omega) (Ev.ret ?_)
    rw [List.drop_eq_nil_of_le (by omega), List.drop_eq_nil_of_le (by omega)]
    rfl
  | d + 1, i, hd, hi => by
    refine Ev.step (fun _ => laws_eqIntS.l0.eq_2 ..) ?_
    refine Ev.tt (by omega) (Ev.tt (by omega) (Ev.tt (by omega) ?_))
    have h1 : a.drop i = a[i]'(by omega) :: a.drop (i + 1) := List.drop_eq_getElem_cons (by omega)
    have h2 : b.drop i = b[i]'(by omega) :: b.drop (i + 1) := List.drop_eq_getElem_cons (by omega)
    rw [rd_get (show i < a.length by omega), rd_get (show i < b.length by omega), h1, h2]
    refine Ev.ite (fun e => ?_) (fun e => ?_)
    · rw [wsucc (by omega)]
      refine Ev.eq (eqIntS_l0 a b hl hb d (i + 1) (by omega) (by omega)) ?_
      rw [decide_eq_decide, List.cons.injEq, e]
      simp only [true_and]
    · refine Ev.ret ?_
      symm
      rw [decide_eq_false_iff_not, List.cons.injEq]
      exact fun h => e h.1
theorem eqIntS_ev (a b : List Int) (hb : b.length ≤ 35184372088832) : Ev (fun k => laws_eqIntS.f k a b) (decide (a = b)) := by
  unfold laws_eqIntS.f
  refine Ev.ite (fun h => ?_) (fun h => ?_)
  · have := eqIntS_l0 a b (by omega) hb a.length 0 (by omega) (by omega)
    simpa using this
  · refine Ev.ret ?_
    have : a ≠ b := by rintro rfl; exact h rfl
    simp [this]

/-- m, m + 1, .. : d of them. -/
def marks (m d : Nat) : List Int := (List.range d).map fun t => ((m + t : Nat) : Int)
theorem marks_length (m d : Nat) : (marks m d).length = d := by simp [marks]
theorem marks_succ (m d : Nat) : marks m (d + 1) = (m : Int) :: marks (m + 1) d := by
  simp only [marks, List.range_succ_eq_map, List.map_cons, List.map_map, Nat.add_zero]
  congr 1
  apply List.map_congr_left
  intro t _
  simp only [Function.comp, Nat.succ_eq_add_one]
  congr 1
  omega
theorem markIntS_l0 : ∀ (d i m : Nat) (l : List Int), l.length - i = d → i ≤ l.length → l.length ≤ 35184372088832 → m + d ≤ 35184372088839 → Ev (fun k => laws_markIntS.l0 k l m i) (((m + d : Nat) : Int), l.take i ++ marks m d)
  | 0, i, m, l, hd, hi, hl, hm => by
    refine Ev.step (fun _ => laws_markIntS.l0.eq_2 ..) ?_
    refine Ev.ff (by omega) (Ev.ret ?_)
    rw [List.take_of_length_le (by omega)]
    simp [marks]
  | d + 1, i, m, l, hd, hi, hl, hm => by
    refine Ev.step (fun _ => laws_markIntS.l0.eq_2 ..) ?_
    refine Ev.tt (by omega) (Ev.tt (by omega) ?_)
    rw [wsucc (by omega), wsucc (by omega)]
    simp only [Int.toNat_natCast]
    refine Ev.eq (markIntS_l0 d (i + 1) (m + 1) (l.set i m) (by rw [List.length_set]; omega) (by rw [List.length_set]; omega) (by rw [List.length_set]; omega) (by omega)) ?_
    rw [marks_succ, List.take_succ_eq_append_getElem (by rw [List.length_set]; omega), List.take_set_of_le (Nat.le_refl _)]
    simp
    omega
theorem markIntS_ev (l : List Int) (hl : l.length ≤ 35184372088832) : Ev (fun k => laws_markIntS.f k l 1) (((1 + l.length : Nat) : Int), marks 1 l.length) := by
  unfold laws_markIntS.f
  have := markIntS_l0 l.length 0 1 l (by omega) (by omega) hl (by omega)
  simpa using this
theorem heldIntS_l0 : ∀ (d i m : Nat) (l : List Int), l.length - i = d → i ≤ l.length → l.length ≤ 35184372088832 → m + d ≤ 35184372088839 → l.drop i = marks m d → Ev (fun k => laws_heldIntS.l0 k l m i) ((m + d : Nat) : Int)
  | 0, i, m, l, hd, hi, hl, hm, he => by
    refine Ev.step (fun _ => laws_heldIntS.l0.eq_2 ..) ?_
    exact Ev.ff (by omega) (Ev.ret rfl)
  | d + 1, i, m, l, hd, hi, hl, hm, he => by
    refine Ev.step (fun _ => laws_heldIntS.l0.eq_2 ..) ?_
    refine Ev.tt (by omega) (Ev.tt (by omega) ?_)
    rw [List.drop_eq_getElem_cons (by omega), marks_succ] at he
    injection he with h1 h2
    rw [rd_get (show i < l.length by omega), h1]
    refine Ev.tt rfl ?_
    rw [wsucc (by omega), wsucc (by omega)]
    refine Ev.eq (heldIntS_l0 d (i + 1) (m + 1) l (by omega) (by omega) hl (by omega) h2) ?_
    omega
theorem heldIntS_ev (n : Nat) (hl : n ≤ 35184372088832) : Ev (fun k => laws_heldIntS.f k (marks 1 n) 1) ((1 + n : Nat) : Int) := by
  unfold laws_heldIntS.f
  have := heldIntS_l0 n 0 1 (marks 1 n) (by simp [marks_length]) (by omega) (by rw [marks_length]; exact hl) (by omega) (by simp)
  simpa using this
end Go.Proofs.Ytejaglljnjdabaa.P
namespace Go.Proofs.Ytejaglljnjdabaa.P
open Go.RowKit Go.Proofs.YtejaglljnjdabaaW.PrintWords Go.Proofs.Ytejaglljnjdabaa.Sup
set_option linter.unusedVariables false
set_option linter.unusedSimpArgs false

theorem FnExactEraseWay_pure (a0_0 a0_1 a0_2 : Int) (w0_0 : InR a0_0) (w0_1 : InR a0_1) (w0_2 : InR a0_2) (a1 : Int) (h1 : InR a1) (l : List Int) (hy : l.length * 8 ≤ 140737488351232) (hz : ∀ x ∈ l, InR x) : ∃ k, laws_FnExactEraseWay.f k a0_0 a0_1 a0_2 a1 l = some true := by
  refine Ev.rounds ?_
  have key : ∃ r : List Int × Bool, r.1.length ≤ 1000 ∧ Ev (fun k => impl_EraseWay.f k a0_0 a0_1 a0_2 a1 l) r ∧ Ev (fun k => spec_EraseWay.f k a0_0 a0_1 a0_2 a1 l) r := by
    by_cases ho : mazeOk a0_0 a0_1 a0_2 = true
    · obtain ⟨hg, o, rfl, hoo⟩ := mazeOk_iff.1 ho
      exact EraseWay_both hg hoo a1 l
    · exact ⟨([], false), by simp, EraseWay_bad (Bool.eq_false_iff.2 ho) a1 l⟩
  obtain ⟨⟨r, b⟩, hr, hi, hs⟩ := key
  unfold laws_FnExactEraseWay.f
  refine Ev.ite (fun _ => Ev.ret rfl) (fun h => ?_)
  have hl : l.length ≤ 1048576 := by omega
  have hr' : r.length ≤ 1000 := hr
  have hj : Ev (fun k => laws_FnExactEraseWay.j1 k a1 l r b r false a0_0 a0_1 a0_2) true := by
    refine Ev.step (fun _ => laws_FnExactEraseWay.j1.eq_2 ..) (Ev.ff (by decide) ?_)
    refine Ev.bind (markIntS_ev r (by omega)) (Ev.bind (heldIntS_ev _ (by omega)) ?_)
    refine Ev.ff (by omega) (Ev.tt rfl (Ev.bnd0 rfl (Ev.bind (toIntS_ev l (by omega)) (Ev.bind hi (Ev.bind (eqIntS_ev _ _ (by omega)) (Ev.tt (by simp) ?_))))))
    refine Ev.step (fun _ => laws_FnExactEraseWay.j2.eq_2 ..) (Ev.ff (by simp) (Ev.bind (heldIntS_ev _ (by omega)) ?_))
    exact Ev.ff (by omega) (Ev.tt rfl (Ev.ret rfl))
  have hj0 : Ev (fun k => laws_FnExactEraseWay.j0 k a1 l r b l r b false a0_0 a0_1 a0_2) true := by
    refine Ev.step (fun _ => laws_FnExactEraseWay.j0.eq_2 ..) (Ev.ff (by decide) ?_)
    refine Ev.bind (toIntS_ev l (by omega)) (Ev.bind (eqIntS_ev _ _ (by omega)) (Ev.tt (by simp) ?_))
    refine Ev.bind (markIntS_ev l (by omega)) (Ev.ff (by omega) (Ev.bind (eqIntS_ev _ _ (by omega)) (Ev.tt (by simp) ?_)))
    simpa using hj
  refine Ev.bnd0 rfl (Ev.bind (toIntS_ev l (by omega)) (Ev.bind hs (Ev.bind (toIntS_ev l (by omega)) (Ev.bnd0 rfl (Ev.bind hi (Ev.bind (eqIntS_ev _ _ (by omega)) (Ev.tt (by simp) ?_)))))))
  simpa using hj0
end Go.Proofs.Ytejaglljnjdabaa.P
namespace Go.Proofs.Ytejaglljnjdabaa.fnExactEraseWay
open Go.ChangeShapes Go.WideShapes Go.ChangeAt Go.RowKit Go.Proofs.YtejaglljnjdabaaW.PrintWords Go.Proofs.Ytejaglljnjdabaa.Sup
open Go.ChangeMaps (open_string shut_string)
set_option linter.unusedVariables false
theorem own : ownKnob Try.prog.godebug = none := by kernel_rfl
theorem laidOut : laidOutB Try.prog = true := by kernel_rfl
set_option maxRecDepth 100000 in
theorem lifted (os : Os) (started : os.Started) (H : Type) (enc : TypeId × Value → H) :
    ReturnsInHanded {} Try.checked os 10 .any (Rows.fnExactEraseWaySpec.pre6 enc Try.prog Try.f10 Rows.fnExactEraseWayRow.domain false) (Rows.fnExactEraseWaySpec.post enc Try.prog Try.f10 false true false false) := by
  refine returnsInHanded_of_change_sized (C := Try.checked) own started (by kernel_rfl) Try.func10
    (ChangeSpec.witness6 (enc := enc) (C := Try.checked) false ⟨#[], #[.agg #[.int .i64 0, .int .i64 0, .int .i64 0], .int .i64 0, .slice none 0 0], []⟩ 8 (by kernel_rfl) (by kernel_rfl) (by kernel_rfl) (by kernel_rfl)) ?_
  intro W base args ds gs before hval0 hW hcnd hsz0 _
  have hsz : (DataW.weightsEach Try.prog (Try.f10.params.toList ++ Rows.fnExactEraseWaySpec.plain.varTypes Try.prog) (ds ++ gs)).all (· ≤ reachBytes) = true := hsz0
  have hval : ∀ (j : Nat) t v, Try.f10.params[j]? = some t → args[j]? = some v → Value.okWide Try.prog W .any base t v := hval0
  have hW' := hW
  obtain ⟨p, q, hA0, hV, rfl, hfz, hnd⟩ := hW
  have hA : DataW.TrodAll enc Try.prog W 0 (fun _ => true) true Try.f10.params.toList args.toList ds p := hA0
  rw [Try.params10] at hA hval hsz
  obtain ⟨v0, vs0, d0, ds0, p0, q0, hargs, rfl, rfl, h0, r0⟩ := trodAll_cons hA
  obtain ⟨v1, vs1, d1, ds1, p1, q1, rfl, rfl, rfl, h1, r1⟩ := trodAll_cons r0
  obtain ⟨v2, vs2, d2, ds2, p2, q2, rfl, rfl, rfl, h2, r2⟩ := trodAll_cons r1
  obtain ⟨rfl, rfl, rfl⟩ := trodAll_nil r2
  obtain rfl : args = #[v0, v1, v2] := by cases args; simp_all
  obtain ⟨rfl, rfl⟩ := trodVars_none hV
  have k0 := h0
  have lt0 : ∀ x ∈ p0, x.block < W.heap.size := by obtain ⟨m, hm⟩ := k0; exact DataW.trod_lt m _ _ _ hm
  obtain ⟨a0_0, a0_1, a0_2, rfl, w0_0, w0_1, w0_2⟩ := open3 Try.underlying25 Try.underlying23 (by kernel_rfl) (by kernel_rfl) (by kernel_rfl) rfl rfl rfl rfl (by kernel_rfl) (by kernel_rfl) (by kernel_rfl) (by kernel_rfl) (by kernel_rfl) (hval 0 25 v0 rfl rfl) h0
  have k1 := h1
  have lt1 : ∀ x ∈ p1, x.block < W.heap.size := by obtain ⟨m, hm⟩ := k1; exact DataW.trod_lt m _ _ _ hm
  obtain ⟨a1, rfl, rfl, rfl, w1⟩ := open_int Try.underlying3 (hval 1 3 v1 rfl rfl) h1
  obtain ⟨a2, len2, cap2, rfl⟩ := okWide_slice Try.underlying46 (hval 2 46 v2 rfl rfl)
  have k2 := h2
  have lt2 : ∀ x ∈ p2, x.block < W.heap.size := by obtain ⟨m, hm⟩ := k2; exact DataW.trod_lt m _ _ _ hm
  obtain ⟨z2, w2⟩ : ∃ zs, IsRow .i64 W a2 len2 cap2 zs := by
    obtain ⟨fuel, hf⟩ := h2
    rcases open_ints Try.underlying46 Try.underlying3 (by kernel_rfl) hf with ⟨hcs, _⟩ | ⟨x, l, c, zs, hcs, _, hl, hm, hz, _, hcell, hwz⟩
    · simp [Value.cells] at hcs
      obtain ⟨rfl, rfl, rfl⟩ := hcs
      exact ⟨[], .inl ⟨rfl, rfl, rfl, rfl⟩⟩
    · simp [Value.cells] at hcs
      obtain ⟨rfl, rfl, rfl⟩ := hcs
      exact ⟨zs, .inr ⟨_, rfl, hl, hm, by simpa using hz, hcell, hwz⟩⟩
  have y2 : len2 * 8 ≤ 140737488351232 := sized_ints hsz (j := 2) (t := 46) rfl rfl Try.underlying46 Try.underlying3 (by kernel_rfl) (by kernel_rfl) h2
  obtain ⟨l2, rfl, hr2, hm2, hw2, hc2⟩ := ReadsInt.ofRowC w2
  clear hA0 hval0 hsz0 hsz
  obtain ⟨k, hf⟩ := P.FnExactEraseWay_pure a0_0 a0_1 a0_2 w0_0 w0_1 w0_2 a1 (inR_of_wf w1) l2 (by omega) (fun x hx => inR_of_wf (hw2 x hx))
  refine (P.laws_FnExactEraseWay.calls k a0_0 a0_1 a0_2 a1 _ _ l2 true W (Kd.C_of_reads (d := (0 : Int)) (h1 := fun _ => rfl) hr2) hc2 hf).mono fun e W' ⟨he, bel0⟩ => ?_
  have bel : Below W.heap.size W W' := bel0
  subst he
  exact ⟨_, rfl, _, _, _, [], _, [], hW', trodAll_mk1 (shut_bool Try.underlying4 _), (trodAll_cons_mk (Below.trod laidOut (by kernel_rfl) (of_decide_eq_true (by kernel_rfl)) k0 bel lt0) (trodAll_cons_mk (Below.trod laidOut (by kernel_rfl) (of_decide_eq_true (by kernel_rfl)) k1 bel lt1) (trodAll_cons_mk (Below.trod laidOut (by kernel_rfl) (of_decide_eq_true (by kernel_rfl)) k2 bel lt2) trodAll_mk0))), rfl, bel.frame _, fun h => by cases h⟩
theorem over : Rows.fnExactEraseWayRow.holds Try.pinned (OpenSpec.ofChange Rows.fnExactEraseWaySpec) :=
  OpenClaim.holds_of_wide 10 Try.f10 rfl rfl rfl rfl rfl rfl rfl ⟨rfl, rfl, rfl, rfl, rfl⟩ rfl rfl rfl rfl rfl (by kernel_rfl) Try.func10 (by kernel_rfl)
    (of_decide_eq_true (by kernel_rfl)) (by unfold Func.isWrapper; first | (rw [if_pos (by decide +kernel)]; kernel_rfl) | (rw [if_neg (by decide +kernel)]; exact ⟨rfl, rfl⟩))
    (fun os started H enc _ => lifted os started H enc)
theorem proved : Rows.FnExactEraseWaySaid := over
end Go.Proofs.Ytejaglljnjdabaa.fnExactEraseWay
namespace Go.Proofs.Ytejaglljnjdabaa
/-- The row, under a short name, for the claim. -/
theorem fnExactEraseWay_holds : Rows.FnExactEraseWaySaid := fnExactEraseWay.proved
#print axioms fnExactEraseWay_holds
end Go.Proofs.Ytejaglljnjdabaa
