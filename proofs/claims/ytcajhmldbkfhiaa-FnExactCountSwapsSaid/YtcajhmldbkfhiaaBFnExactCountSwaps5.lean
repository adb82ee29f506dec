/- The statement FnExactCountSwaps of the seat, out of its plain form (FnExactCountSwaps_pure) and the walk of its Go function. Part 5 of 5: each Go function's walk, then the plain lemmas, then the row. No condition: it holds for every input. -/
import Derived.Test.YtcajhmldbkfhiaaBFnExactCountSwaps4
import Derived.Test.YtcajhmldbkfhiaaRows
import Derived.Below
import Derived.ChangeOld
import Derived.ChangeSlices
import Derived.Deep.Matrix
import Derived.Lib.SmallJoins
import Derived.OpenShut
import Derived.ProofKit
import Derived.ShutString
import Derived.SizedLaws
import Derived.WalkKit
namespace Go.Proofs.Ytcajhmldbkfhiaa.P
open Go.RowKit Go.Proofs.YtcajhmldbkfhiaaW.PrintWords Go.Proofs.YtcajhmldbkfhiaaW.PrintLast Go.Proofs.YtcajhmldbkfhiaaW.PrintMore
attribute [local go_sem] max2_int min2_int max_two min_two max_three min_three max_four min_four   -- for this text's walks alone
set_option linter.unusedVariables false
set_option linter.unusedSimpArgs false

/-! ### impl_WayBetween: function 133 -/
mutual
def impl_WayBetween.l0 : Nat → Int → List Int → List Int → Int → Int → Int → Int → Option (List Int × Bool)
  | 0, _, _, _, _, _, _, _ => none
  | k + 1, x2, x8, x9, x10, x102000, x102001, x102002 => if x10 = x2 then (some (x9, true)) else ((impl_WaysFrom.f k x102000 x102001 x102002 x10).bind fun t106 => (impl_WayBetween.l1 k x2 x8 x9 x10 t106 (t106.length : Int) 0 x102000 x102001 x102002))
def impl_WayBetween.l1 : Nat → Int → List Int → List Int → Int → List Int → Int → Int → Int → Int → Int → Option (List Int × Bool)
  | 0, _, _, _, _, _, _, _, _, _, _ => none
  | k + 1, x2, x8, x9, x10, x28, x29, x30, x102000, x102001, x102002 => if x30 < x29 then (if 0 ≤ x30 then (if x30 < (x28.length : Int) then ((impl_Step.f k x102000 x102001 x102002 x10 (rd x28 x30)).bind fun t110 => (if 0 ≤ t110 then (if t110 < (x8.length : Int) then (if 0 ≤ x10 then (if x10 < (x8.length : Int) then (if (rd x8 t110) < (rd x8 x10) then (if x9.length < 17592186044416 then (impl_WayBetween.l0 k x2 x8 (x9 ++ [rd x28 x30]) t110 x102000 x102001 x102002) else (none)) else (impl_WayBetween.l1 k x2 x8 x9 x10 x28 x29 (wrap64 (x30 + 1)) x102000 x102001 x102002)) else (none)) else (none)) else (none)) else (none))) else (none)) else (none)) else (impl_WayBetween.l0 k x2 x8 x9 x10 x102000 x102001 x102002)
end
def impl_WayBetween.f (k : Nat) (a0_0 : Int) (a0_1 : Int) (a0_2 : Int) (a1 : Int) (a2 : Int) : Option (List Int × Bool) := (impl_DistanceOf.f k a0_0 a0_1 a0_2 a1 a2).bind fun t102 => (if t102 < 0 then (some (([] : List Int), false)) else ((impl_distances.f k a0_0 a0_1 a0_2 a2).bind fun t103 => (impl_WayBetween.l0 k a2 t103 ([] : List Int) a1 a0_0 a0_1 a0_2)))
set_option maxHeartbeats 8000000 in
set_option maxRecDepth 100000 in
theorem impl_WayBetween.calls (k : Nat) (a0_0 : Int) (a0_1 : Int) (a0_2 : Int) (a1 : Int) (a2 : Int) (r1 : List Int) (r2 : Bool) (w : World) (h : impl_WayBetween.f k a0_0 a0_1 a0_2 a1 a2 = some (r1, r2)) :
    Calls Try.prog 133 #[.agg #[.int .i64 a0_0, .int .i64 a0_1, .int .i64 a0_2], .int .i64 a1, .int .i64 a2] w fun e w' => ∃ v0_ : Value, e = .returned (.tuple #[v0_, .bool r2]) ∧ Kd.R (Kd.int .i64) 3 w' w.heap.size (fun _ => True) v0_ r1 ∧ Below w.heap.size w w' := by
  have hu34 := Try.underlying34
  have HB := Aside0.mk (Below.refl w.heap.size w)
  have H : ((impl_DistanceOf.f k a0_0 a0_1 a0_2 a1 a2).bind fun t102 => (if t102 < 0 then (some (([] : List Int), false)) else ((impl_distances.f k a0_0 a0_1 a0_2 a2).bind fun t103 => (impl_WayBetween.l0 k a2 t103 ([] : List Int) a1 a0_0 a0_1 a0_2)))) = some (r1, r2) := h
  clear h
  obtain ⟨t102, A40, H⟩ := Option.bind_eq_some_iff.mp H
  (try dsimp only at H); have A4 := Aside0.mk A40; clear A40
  by_cases c5 : t102 < 0
  · rw [if_pos c5] at H
    have c5b0 : decide (t102 < 0) = true := decide_eq_true c5
    clear c5
    simp only [Option.some.injEq, Prod.mk.injEq] at H
    obtain ⟨rfl, rfl⟩ := H
    go_enter Try.func133, Try.ntmps133
    go_wp2_with (first | ((with_reducible refine gate_dst (N := 3) rfl ?_); refine box_event ?hg (N := 3) ?hd (cs := #[.int .i64 a0_0, .int .i64 a0_1, .int .i64 a0_2]) (t := 34) ?hr ?_; (case hd => rfl); (case hg => rfl); (case hr => first | (go_simp; done) | (go_simp; rfl)); intro gb101 hg w6 hbox hb; have n0_ := Aside0.mk (below_step (by repeat first | exact HB.1 | apply bA_ | apply bB_ | apply bC_) hb); have n1_ := Aside0.mk (hbox); have n2_ := Aside0.mk ((by rw [hg]; exact (below_size (by repeat first | exact HB.1 | apply bA_ | apply bB_ | apply bC_)) : w.heap.size ≤ gb101)); have n3_ := n2_; clear HB; have HB := n0_; have BK101 := n1_; have GW101 := n2_; have GE101 := n3_; clear n0_ n1_ n2_ n3_; clear hb hbox hg; obtain ⟨hcz7_0, hcz7_1, hcz7_2⟩ := kk3_ BK101.1; have hfz7_0 := blk_frozen BK101.out 0; have hfz7_1 := blk_frozen BK101.out 1; have hfz7_2 := blk_frozen BK101.out 2) | (go_at_call 144; (with_reducible refine (impl_DistanceOf.calls k a0_0 a0_1 a0_2 a1 a2 t102 _ A4.out).mono ?_); rintro e w8 ⟨rfl, hb⟩; have n0_ := Aside0.mk (blk_below (g := gb101) (o := .cells #[.int .i64 a0_0, .int .i64 a0_1, .int .i64 a0_2] 34 (0, 0)) (by (with_reducible repeat first | refine cA_ ?_ _ | refine cB_ ?_ | refine cC_ ?_ _); exact BK101.1) hb); have n1_ := Aside0.mk (below_step (by repeat first | exact HB.1 | apply bA_ | apply bB_ | apply bC_ | refine below_set ?_ GE101.out) hb); clear BK101; clear HB; have BK101 := n0_; have HB := n1_; clear n0_ n1_; (try clear hb); (try clear hb2); (try clear hk); (try clear hi)))
    repeat (go_quiet (first | ((with_reducible refine gate_dst (N := 3) rfl ?_); refine box_event ?hg (N := 3) ?hd (cs := #[.int .i64 a0_0, .int .i64 a0_1, .int .i64 a0_2]) (t := 34) ?hr ?_; (case hd => rfl); (case hg => rfl); (case hr => first | (go_simp; done) | (go_simp; rfl)); intro gb101 hg w6 hbox hb; have n0_ := Aside0.mk (below_step (by repeat first | exact HB.1 | apply bA_ | apply bB_ | apply bC_) hb); have n1_ := Aside0.mk (hbox); have n2_ := Aside0.mk ((by rw [hg]; exact (below_size (by repeat first | exact HB.1 | apply bA_ | apply bB_ | apply bC_)) : w.heap.size ≤ gb101)); have n3_ := n2_; clear HB; have HB := n0_; have BK101 := n1_; have GW101 := n2_; have GE101 := n3_; clear n0_ n1_ n2_ n3_; clear hb hbox hg; obtain ⟨hcz7_0, hcz7_1, hcz7_2⟩ := kk3_ BK101.1; have hfz7_0 := blk_frozen BK101.out 0; have hfz7_1 := blk_frozen BK101.out 1; have hfz7_2 := blk_frozen BK101.out 2) | (go_at_call 144; (with_reducible refine (impl_DistanceOf.calls k a0_0 a0_1 a0_2 a1 a2 t102 _ A4.out).mono ?_); rintro e w8 ⟨rfl, hb⟩; have n0_ := Aside0.mk (blk_below (g := gb101) (o := .cells #[.int .i64 a0_0, .int .i64 a0_1, .int .i64 a0_2] 34 (0, 0)) (by (with_reducible repeat first | refine cA_ ?_ _ | refine cB_ ?_ | refine cC_ ?_ _); exact BK101.1) hb); have n1_ := Aside0.mk (below_step (by repeat first | exact HB.1 | apply bA_ | apply bB_ | apply bC_ | refine below_set ?_ GE101.out) hb); clear BK101; clear HB; have BK101 := n0_; have HB := n1_; clear n0_ n1_; (try clear hb); (try clear hb2); (try clear hk); (try clear hi))); try go_wp2_with (first | ((with_reducible refine gate_dst (N := 3) rfl ?_); refine box_event ?hg (N := 3) ?hd (cs := #[.int .i64 a0_0, .int .i64 a0_1, .int .i64 a0_2]) (t := 34) ?hr ?_; (case hd => rfl); (case hg => rfl); (case hr => first | (go_simp; done) | (go_simp; rfl)); intro gb101 hg w6 hbox hb; have n0_ := Aside0.mk (below_step (by repeat first | exact HB.1 | apply bA_ | apply bB_ | apply bC_) hb); have n1_ := Aside0.mk (hbox); have n2_ := Aside0.mk ((by rw [hg]; exact (below_size (by repeat first | exact HB.1 | apply bA_ | apply bB_ | apply bC_)) : w.heap.size ≤ gb101)); have n3_ := n2_; clear HB; have HB := n0_; have BK101 := n1_; have GW101 := n2_; have GE101 := n3_; clear n0_ n1_ n2_ n3_; clear hb hbox hg; obtain ⟨hcz7_0, hcz7_1, hcz7_2⟩ := kk3_ BK101.1; have hfz7_0 := blk_frozen BK101.out 0; have hfz7_1 := blk_frozen BK101.out 1; have hfz7_2 := blk_frozen BK101.out 2) | (go_at_call 144; (with_reducible refine (impl_DistanceOf.calls k a0_0 a0_1 a0_2 a1 a2 t102 _ A4.out).mono ?_); rintro e w8 ⟨rfl, hb⟩; have n0_ := Aside0.mk (blk_below (g := gb101) (o := .cells #[.int .i64 a0_0, .int .i64 a0_1, .int .i64 a0_2] 34 (0, 0)) (by (with_reducible repeat first | refine cA_ ?_ _ | refine cB_ ?_ | refine cC_ ?_ _); exact BK101.1) hb); have n1_ := Aside0.mk (below_step (by repeat first | exact HB.1 | apply bA_ | apply bB_ | apply bC_ | refine below_set ?_ GE101.out) hb); clear BK101; clear HB; have BK101 := n0_; have HB := n1_; clear n0_ n1_; (try clear hb); (try clear hb2); (try clear hk); (try clear hi))))
    go_ret2
    exact ⟨_, by first | rfl | (simp [errW_none, errW_some] <;> rfl) | (simp [*, errW_none, errW_some] <;> rfl), by first | exact Kd.R_nil _ _ _ _ _ | exact Kd.N_nil _ _ _ _ _ | exact Kd.V_nil _ _ _ _ _ | exact Kd.Q_nil _ _ _ _ _ | exact Kd.S_nil _ _ _ _ _, by repeat (first | (with_reducible first | exact HB.out | apply below_alloc | apply pw_below_drewN | apply below_drew1 | refine below_set ?_ GE101.out) | exact HB.out)⟩
  · rw [if_neg c5] at H
    have c5b0 : decide (t102 < 0) = false := decide_eq_false c5
    clear c5
    obtain ⟨t103, A90, H⟩ := Option.bind_eq_some_iff.mp H
    (try dsimp only at H); have A9 := Aside0.mk A90; clear A90
    have H' := Aside0.mk H
    clear H
    go_enter Try.func133, Try.ntmps133
    go_wp2_with (first | ((with_reducible refine gate_dst (N := 3) rfl ?_); refine box_event ?hg (N := 3) ?hd (cs := #[.int .i64 a0_0, .int .i64 a0_1, .int .i64 a0_2]) (t := 34) ?hr ?_; (case hd => rfl); (case hg => rfl); (case hr => first | (go_simp; done) | (go_simp; rfl)); intro gb101 hg w10 hbox hb; have n0_ := Aside0.mk (below_step (by repeat first | exact HB.1 | apply bA_ | apply bB_ | apply bC_) hb); have n1_ := Aside0.mk (hbox); have n2_ := Aside0.mk ((by rw [hg]; exact (below_size (by repeat first | exact HB.1 | apply bA_ | apply bB_ | apply bC_)) : w.heap.size ≤ gb101)); have n3_ := n2_; clear HB; have HB := n0_; have BK101 := n1_; have GW101 := n2_; have GE101 := n3_; clear n0_ n1_ n2_ n3_; clear hb hbox hg; obtain ⟨hcz11_0, hcz11_1, hcz11_2⟩ := kk3_ BK101.1; have hfz11_0 := blk_frozen BK101.out 0; have hfz11_1 := blk_frozen BK101.out 1; have hfz11_2 := blk_frozen BK101.out 2) | (go_at_call 144; (with_reducible refine (impl_DistanceOf.calls k a0_0 a0_1 a0_2 a1 a2 t102 _ A4.out).mono ?_); rintro e w12 ⟨rfl, hb⟩; have n0_ := Aside0.mk (blk_below (g := gb101) (o := .cells #[.int .i64 a0_0, .int .i64 a0_1, .int .i64 a0_2] 34 (0, 0)) (by (with_reducible repeat first | refine cA_ ?_ _ | refine cB_ ?_ | refine cC_ ?_ _); exact BK101.1) hb); have n1_ := Aside0.mk (below_step (by repeat first | exact HB.1 | apply bA_ | apply bB_ | apply bC_ | refine below_set ?_ GE101.out) hb); clear BK101; clear HB; have BK101 := n0_; have HB := n1_; clear n0_ n1_; (try clear hb); (try clear hb2); (try clear hk); (try clear hi); obtain ⟨hcz13_0, hcz13_1, hcz13_2⟩ := kk3_ BK101.1; have hfz13_0 := blk_frozen BK101.out 0; have hfz13_1 := blk_frozen BK101.out 1; have hfz13_2 := blk_frozen BK101.out 2) | (go_at_call 145; (with_reducible refine (impl_distances.calls k a0_0 a0_1 a0_2 a2 t103 _ A9.out).mono ?_); rintro e w14 ⟨v104, rfl, ho0, hb⟩; have n0_ := Aside0.mk (Kd.R_lower ho0 (below_size (by repeat first | exact HB.1 | apply bA_ | apply bB_ | apply bC_ | refine below_set ?_ GE101.out))); have n1_ := Aside0.mk (blk_below (g := gb101) (o := .cells #[.int .i64 a0_0, .int .i64 a0_1, .int .i64 a0_2] 34 (0, 0)) (by (with_reducible repeat first | refine cA_ ?_ _ | refine cB_ ?_ | refine cC_ ?_ _); exact BK101.1) hb); have n2_ := Aside0.mk (below_step (by repeat first | exact HB.1 | apply bA_ | apply bB_ | apply bC_ | refine below_set ?_ GE101.out) hb); clear BK101; clear HB; have HO105 := n0_; have BK101 := n1_; have HB := n2_; clear n0_ n1_ n2_; (try clear hb); (try clear hb2); (try clear hk); (try clear hi); (try clear ho0)))
    repeat (go_quiet (first | ((with_reducible refine gate_dst (N := 3) rfl ?_); refine box_event ?hg (N := 3) ?hd (cs := #[.int .i64 a0_0, .int .i64 a0_1, .int .i64 a0_2]) (t := 34) ?hr ?_; (case hd => rfl); (case hg => rfl); (case hr => first | (go_simp; done) | (go_simp; rfl)); intro gb101 hg w10 hbox hb; have n0_ := Aside0.mk (below_step (by repeat first | exact HB.1 | apply bA_ | apply bB_ | apply bC_) hb); have n1_ := Aside0.mk (hbox); have n2_ := Aside0.mk ((by rw [hg]; exact (below_size (by repeat first | exact HB.1 | apply bA_ | apply bB_ | apply bC_)) : w.heap.size ≤ gb101)); have n3_ := n2_; clear HB; have HB := n0_; have BK101 := n1_; have GW101 := n2_; have GE101 := n3_; clear n0_ n1_ n2_ n3_; clear hb hbox hg; obtain ⟨hcz11_0, hcz11_1, hcz11_2⟩ := kk3_ BK101.1; have hfz11_0 := blk_frozen BK101.out 0; have hfz11_1 := blk_frozen BK101.out 1; have hfz11_2 := blk_frozen BK101.out 2) | (go_at_call 144; (with_reducible refine (impl_DistanceOf.calls k a0_0 a0_1 a0_2 a1 a2 t102 _ A4.out).mono ?_); rintro e w12 ⟨rfl, hb⟩; have n0_ := Aside0.mk (blk_below (g := gb101) (o := .cells #[.int .i64 a0_0, .int .i64 a0_1, .int .i64 a0_2] 34 (0, 0)) (by (with_reducible repeat first | refine cA_ ?_ _ | refine cB_ ?_ | refine cC_ ?_ _); exact BK101.1) hb); have n1_ := Aside0.mk (below_step (by repeat first | exact HB.1 | apply bA_ | apply bB_ | apply bC_ | refine below_set ?_ GE101.out) hb); clear BK101; clear HB; have BK101 := n0_; have HB := n1_; clear n0_ n1_; (try clear hb); (try clear hb2); (try clear hk); (try clear hi); obtain ⟨hcz13_0, hcz13_1, hcz13_2⟩ := kk3_ BK101.1; have hfz13_0 := blk_frozen BK101.out 0; have hfz13_1 := blk_frozen BK101.out 1; have hfz13_2 := blk_frozen BK101.out 2) | (go_at_call 145; (with_reducible refine (impl_distances.calls k a0_0 a0_1 a0_2 a2 t103 _ A9.out).mono ?_); rintro e w14 ⟨v104, rfl, ho0, hb⟩; have n0_ := Aside0.mk (Kd.R_lower ho0 (below_size (by repeat first | exact HB.1 | apply bA_ | apply bB_ | apply bC_ | refine below_set ?_ GE101.out))); have n1_ := Aside0.mk (blk_below (g := gb101) (o := .cells #[.int .i64 a0_0, .int .i64 a0_1, .int .i64 a0_2] 34 (0, 0)) (by (with_reducible repeat first | refine cA_ ?_ _ | refine cB_ ?_ | refine cC_ ?_ _); exact BK101.1) hb); have n2_ := Aside0.mk (below_step (by repeat first | exact HB.1 | apply bA_ | apply bB_ | apply bC_ | refine below_set ?_ GE101.out) hb); clear BK101; clear HB; have HO105 := n0_; have BK101 := n1_; have HB := n2_; clear n0_ n1_ n2_; (try clear hb); (try clear hb2); (try clear hk); (try clear hi); (try clear ho0))); try go_wp2_with (first | ((with_reducible refine gate_dst (N := 3) rfl ?_); refine box_event ?hg (N := 3) ?hd (cs := #[.int .i64 a0_0, .int .i64 a0_1, .int .i64 a0_2]) (t := 34) ?hr ?_; (case hd => rfl); (case hg => rfl); (case hr => first | (go_simp; done) | (go_simp; rfl)); intro gb101 hg w10 hbox hb; have n0_ := Aside0.mk (below_step (by repeat first | exact HB.1 | apply bA_ | apply bB_ | apply bC_) hb); have n1_ := Aside0.mk (hbox); have n2_ := Aside0.mk ((by rw [hg]; exact (below_size (by repeat first | exact HB.1 | apply bA_ | apply bB_ | apply bC_)) : w.heap.size ≤ gb101)); have n3_ := n2_; clear HB; have HB := n0_; have BK101 := n1_; have GW101 := n2_; have GE101 := n3_; clear n0_ n1_ n2_ n3_; clear hb hbox hg; obtain ⟨hcz11_0, hcz11_1, hcz11_2⟩ := kk3_ BK101.1; have hfz11_0 := blk_frozen BK101.out 0; have hfz11_1 := blk_frozen BK101.out 1; have hfz11_2 := blk_frozen BK101.out 2) | (go_at_call 144; (with_reducible refine (impl_DistanceOf.calls k a0_0 a0_1 a0_2 a1 a2 t102 _ A4.out).mono ?_); rintro e w12 ⟨rfl, hb⟩; have n0_ := Aside0.mk (blk_below (g := gb101) (o := .cells #[.int .i64 a0_0, .int .i64 a0_1, .int .i64 a0_2] 34 (0, 0)) (by (with_reducible repeat first | refine cA_ ?_ _ | refine cB_ ?_ | refine cC_ ?_ _); exact BK101.1) hb); have n1_ := Aside0.mk (below_step (by repeat first | exact HB.1 | apply bA_ | apply bB_ | apply bC_ | refine below_set ?_ GE101.out) hb); clear BK101; clear HB; have BK101 := n0_; have HB := n1_; clear n0_ n1_; (try clear hb); (try clear hb2); (try clear hk); (try clear hi); obtain ⟨hcz13_0, hcz13_1, hcz13_2⟩ := kk3_ BK101.1; have hfz13_0 := blk_frozen BK101.out 0; have hfz13_1 := blk_frozen BK101.out 1; have hfz13_2 := blk_frozen BK101.out 2) | (go_at_call 145; (with_reducible refine (impl_distances.calls k a0_0 a0_1 a0_2 a2 t103 _ A9.out).mono ?_); rintro e w14 ⟨v104, rfl, ho0, hb⟩; have n0_ := Aside0.mk (Kd.R_lower ho0 (below_size (by repeat first | exact HB.1 | apply bA_ | apply bB_ | apply bC_ | refine below_set ?_ GE101.out))); have n1_ := Aside0.mk (blk_below (g := gb101) (o := .cells #[.int .i64 a0_0, .int .i64 a0_1, .int .i64 a0_2] 34 (0, 0)) (by (with_reducible repeat first | refine cA_ ?_ _ | refine cB_ ?_ | refine cC_ ?_ _); exact BK101.1) hb); have n2_ := Aside0.mk (below_step (by repeat first | exact HB.1 | apply bA_ | apply bB_ | apply bC_ | refine below_set ?_ GE101.out) hb); clear BK101; clear HB; have HO105 := n0_; have BK101 := n1_; have HB := n2_; clear n0_ n1_ n2_; (try clear hb); (try clear hb2); (try clear hk); (try clear hi); (try clear ho0))))
    go_loopg [9, 10] k (fun kq v9 v10 w' => ∃ (x9_1 : List Int) (x10_1 : Int), v10 = .int .i64 x10_1 ∧ Aside0 (impl_WayBetween.l0 kq a2 t103 x9_1 x10_1 a0_0 a0_1 a0_2 = some (r1, r2)) ∧ Aside0 (kq ≤ k) ∧ Aside0 (Kd.R (Kd.int .i64) 3 w' w.heap.size (fun k_ => some k_ ≠ (v9 : Value).ownBlock) v104 t103) ∧ Aside0 (Kd.R (Kd.int .i64) 3 w' w.heap.size (fun k_ => some k_ ≠ (v104 : Value).ownBlock) v9 x9_1) ∧ Aside0 (w'.heap[gb101]? = some (.cells #[.int .i64 a0_0, .int .i64 a0_1, .int .i64 a0_2] 34 (0, 0))) ∧ Aside0 (Below w.heap.size w w'))
    case atStart => exact ⟨(([] : List Int)), (a1), (by first | rfl | (simp; done) | (simp [*]; done)), H', ⟨Nat.le_refl _⟩, ⟨by (with_reducible repeat (first | apply Kd.R_alloc | apply Kd.R_drewN | apply Kd.R_drew)); exact Kd.R_mono HO105.out (fun _ hk => (by simp [Value.ownBlock]))⟩, ⟨by first | exact Kd.R_nil _ _ _ _ _ | exact Kd.N_nil _ _ _ _ _ | exact Kd.V_nil _ _ _ _ _ | exact Kd.Q_nil _ _ _ _ _ | exact Kd.S_nil _ _ _ _ _⟩, ⟨by (with_reducible repeat (first | refine blk_drewN ?_ _ | refine blk_drew ?_ | refine blk_alloc ?_ _)); exact BK101.out⟩, ⟨by repeat (first | (with_reducible first | exact HB.out | apply below_alloc | apply pw_below_drewN | apply below_drew1 | refine below_set ?_ GE101.out) | exact HB.out)⟩⟩
    case round =>
      clear H'; try clear c1; try clear p2; try clear c5; try clear c5b0; try clear c13; try clear hcz11_0; try clear hcz11_1; try clear hcz11_2; try clear hcz13_0; try clear hcz13_1; try clear hcz13_2; try clear hcz7_0; try clear hcz7_1; try clear hcz7_2; try clear hfz11_0; try clear hfz11_1; try clear hfz11_2; try clear hfz13_0; try clear hfz13_1; try clear hfz13_2; try clear hfz7_0; try clear hfz7_1; try clear hfz7_2
      obtain ⟨x9_1, x10_1, rfl, HA, HK1, HO_8, HO_9, BK101, HB⟩ := hrel
      cases gk with
      | zero => exact absurd HA.out (by simp [impl_WayBetween.l0])
      | succ k1 =>
        have H := HA.out
        clear HA
        simp only [impl_WayBetween.l0] at H
        by_cases c15 : x10_1 = a2
        · rw [if_pos c15] at H
          have c15b0 : (x10_1 == a2) = true := beq_iff_eq.mpr c15
          have c15b1 : (x10_1 != a2) = false := bne_eq_false_iff_eq.mpr c15
          clear c15
          simp only [Option.some.injEq, Prod.mk.injEq] at H
          obtain ⟨rfl, rfl⟩ := H
          go_wp2
          repeat (go_quiet (fail); try go_wp2)
          go_ret2
          exact ⟨_, by first | rfl | (simp [errW_none, errW_some] <;> rfl) | (simp [*, errW_none, errW_some] <;> rfl), by (with_reducible repeat (first | apply Kd.R_alloc | apply Kd.R_drewN | apply Kd.R_drew)); exact Kd.R_mono HO_9.out (fun _ hk => trivial), by repeat (first | (with_reducible first | exact HB.out | apply below_alloc | apply pw_below_drewN | apply below_drew1 | refine below_set ?_ GE101.out) | exact HB.out)⟩
        · rw [if_neg c15] at H
          have c15b0 : (x10_1 == a2) = false := beq_eq_false_iff_ne.mpr c15
          have c15b1 : (x10_1 != a2) = true := bne_iff_ne.mpr c15
          obtain ⟨t106, A160, H⟩ := Option.bind_eq_some_iff.mp H
          (try dsimp only at H); have A16 := Aside0.mk A160; clear A160
          have H' := Aside0.mk H
          clear H
          obtain ⟨hcz17_0, hcz17_1, hcz17_2⟩ := kk3_ BK101.1
          have hfz17_0 := blk_frozen BK101.out 0
          have hfz17_1 := blk_frozen BK101.out 1
          have hfz17_2 := blk_frozen BK101.out 2
          go_wp2_with (first | (go_at_call 146; (with_reducible refine (impl_WaysFrom.calls k1 a0_0 a0_1 a0_2 x10_1 t106 _ A16.out).mono ?_); rintro e w18 ⟨v107, rfl, ho0, hb⟩; have n0_ := Aside0.mk (Kd.R_elder' (by (with_reducible repeat (first | apply Kd.R_alloc | apply Kd.R_drewN | apply Kd.R_drew)); exact HO_8.out) (Kd.R_base ho0) hb); have n1_ := Aside0.mk (Kd.R_elder' (by (with_reducible repeat (first | apply Kd.R_alloc | apply Kd.R_drewN | apply Kd.R_drew)); exact HO_9.out) (Kd.R_base ho0) hb); have n2_ := Aside0.mk (Kd.R_lower (Kd.R_new' (Kd.R_new' ho0 (Kd.R_lt (by (with_reducible repeat (first | apply Kd.R_alloc | apply Kd.R_drewN | apply Kd.R_drew)); exact HO_8.out))) (Kd.R_lt (by (with_reducible repeat (first | apply Kd.R_alloc | apply Kd.R_drewN | apply Kd.R_drew)); exact HO_9.out))) (below_size (by repeat first | exact HB.1 | apply bA_ | apply bB_ | apply bC_ | refine below_set ?_ GE101.out))); have n3_ := Aside0.mk (blk_below (g := gb101) (o := .cells #[.int .i64 a0_0, .int .i64 a0_1, .int .i64 a0_2] 34 (0, 0)) (by (with_reducible repeat first | refine cA_ ?_ _ | refine cB_ ?_ | refine cC_ ?_ _); exact BK101.1) hb); have n4_ := Aside0.mk (below_step (by repeat first | exact HB.1 | apply bA_ | apply bB_ | apply bC_ | refine below_set ?_ GE101.out) hb); clear HO_8; clear HO_9; clear BK101; clear HB; have HO_8 := n0_; have HO_9 := n1_; have HO108 := n2_; have BK101 := n3_; have HB := n4_; clear n0_ n1_ n2_ n3_ n4_; (try clear hb); (try clear hb2); (try clear hk); (try clear hi); (try clear ho0); obtain ⟨Ao19, co19, eo19⟩ := Kd.R_slice HO108.out; subst eo19))
          repeat (go_quiet (first | (go_at_call 146; (with_reducible refine (impl_WaysFrom.calls k1 a0_0 a0_1 a0_2 x10_1 t106 _ A16.out).mono ?_); rintro e w18 ⟨v107, rfl, ho0, hb⟩; have n0_ := Aside0.mk (Kd.R_elder' (by (with_reducible repeat (first | apply Kd.R_alloc | apply Kd.R_drewN | apply Kd.R_drew)); exact HO_8.out) (Kd.R_base ho0) hb); have n1_ := Aside0.mk (Kd.R_elder' (by (with_reducible repeat (first | apply Kd.R_alloc | apply Kd.R_drewN | apply Kd.R_drew)); exact HO_9.out) (Kd.R_base ho0) hb); have n2_ := Aside0.mk (Kd.R_lower (Kd.R_new' (Kd.R_new' ho0 (Kd.R_lt (by (with_reducible repeat (first | apply Kd.R_alloc | apply Kd.R_drewN | apply Kd.R_drew)); exact HO_8.out))) (Kd.R_lt (by (with_reducible repeat (first | apply Kd.R_alloc | apply Kd.R_drewN | apply Kd.R_drew)); exact HO_9.out))) (below_size (by repeat first | exact HB.1 | apply bA_ | apply bB_ | apply bC_ | refine below_set ?_ GE101.out))); have n3_ := Aside0.mk (blk_below (g := gb101) (o := .cells #[.int .i64 a0_0, .int .i64 a0_1, .int .i64 a0_2] 34 (0, 0)) (by (with_reducible repeat first | refine cA_ ?_ _ | refine cB_ ?_ | refine cC_ ?_ _); exact BK101.1) hb); have n4_ := Aside0.mk (below_step (by repeat first | exact HB.1 | apply bA_ | apply bB_ | apply bC_ | refine below_set ?_ GE101.out) hb); clear HO_8; clear HO_9; clear BK101; clear HB; have HO_8 := n0_; have HO_9 := n1_; have HO108 := n2_; have BK101 := n3_; have HB := n4_; clear n0_ n1_ n2_ n3_ n4_; (try clear hb); (try clear hb2); (try clear hk); (try clear hi); (try clear ho0); obtain ⟨Ao19, co19, eo19⟩ := Kd.R_slice HO108.out; subst eo19)); try go_wp2_with (first | (go_at_call 146; (with_reducible refine (impl_WaysFrom.calls k1 a0_0 a0_1 a0_2 x10_1 t106 _ A16.out).mono ?_); rintro e w18 ⟨v107, rfl, ho0, hb⟩; have n0_ := Aside0.mk (Kd.R_elder' (by (with_reducible repeat (first | apply Kd.R_alloc | apply Kd.R_drewN | apply Kd.R_drew)); exact HO_8.out) (Kd.R_base ho0) hb); have n1_ := Aside0.mk (Kd.R_elder' (by (with_reducible repeat (first | apply Kd.R_alloc | apply Kd.R_drewN | apply Kd.R_drew)); exact HO_9.out) (Kd.R_base ho0) hb); have n2_ := Aside0.mk (Kd.R_lower (Kd.R_new' (Kd.R_new' ho0 (Kd.R_lt (by (with_reducible repeat (first | apply Kd.R_alloc | apply Kd.R_drewN | apply Kd.R_drew)); exact HO_8.out))) (Kd.R_lt (by (with_reducible repeat (first | apply Kd.R_alloc | apply Kd.R_drewN | apply Kd.R_drew)); exact HO_9.out))) (below_size (by repeat first | exact HB.1 | apply bA_ | apply bB_ | apply bC_ | refine below_set ?_ GE101.out))); have n3_ := Aside0.mk (blk_below (g := gb101) (o := .cells #[.int .i64 a0_0, .int .i64 a0_1, .int .i64 a0_2] 34 (0, 0)) (by (with_reducible repeat first | refine cA_ ?_ _ | refine cB_ ?_ | refine cC_ ?_ _); exact BK101.1) hb); have n4_ := Aside0.mk (below_step (by repeat first | exact HB.1 | apply bA_ | apply bB_ | apply bC_ | refine below_set ?_ GE101.out) hb); clear HO_8; clear HO_9; clear BK101; clear HB; have HO_8 := n0_; have HO_9 := n1_; have HO108 := n2_; have BK101 := n3_; have HB := n4_; clear n0_ n1_ n2_ n3_ n4_; (try clear hb); (try clear hb2); (try clear hk); (try clear hi); (try clear ho0); obtain ⟨Ao19, co19, eo19⟩ := Kd.R_slice HO108.out; subst eo19)))
          go_loopg [9, 10, 30] k1 (fun kq v9 v10 v30 w' => ∃ (x9_2 : List Int) (x10_2 : Int) (x30_2 : Int), v10 = .int .i64 x10_2 ∧ v30 = .int .i64 x30_2 ∧ Aside0 (impl_WayBetween.l1 kq a2 t103 x9_2 x10_2 t106 (t106.length : Int) x30_2 a0_0 a0_1 a0_2 = some (r1, r2)) ∧ Aside0 (kq ≤ k1) ∧ Aside0 (Kd.R (Kd.int .i64) 3 w' w.heap.size (fun k_ => some k_ ≠ (v9 : Value).ownBlock ∧ some k_ ≠ ((.slice Ao19 t106.length co19) : Value).ownBlock) v104 t103) ∧ Aside0 (Kd.R (Kd.int .i64) 3 w' w.heap.size (fun k_ => some k_ ≠ (v104 : Value).ownBlock ∧ some k_ ≠ ((.slice Ao19 t106.length co19) : Value).ownBlock) v9 x9_2) ∧ Aside0 (Kd.R (Kd.int .i64) 3 w' w.heap.size (fun k_ => some k_ ≠ (v104 : Value).ownBlock ∧ some k_ ≠ (v9 : Value).ownBlock) (.slice Ao19 t106.length co19) t106) ∧ Aside0 (w'.heap[gb101]? = some (.cells #[.int .i64 a0_0, .int .i64 a0_1, .int .i64 a0_2] 34 (0, 0))) ∧ Aside0 (Below w.heap.size w w'))
          case atStart => exact ⟨(x9_1), (x10_1), (0), (by first | rfl | (simp; done) | (simp [*]; done)), (by first | rfl | (simp; done) | (simp [*]; done)), H', ⟨Nat.le_refl _⟩, ⟨by (with_reducible repeat (first | apply Kd.R_alloc | apply Kd.R_drewN | apply Kd.R_drew)); exact HO_8.out⟩, ⟨by (with_reducible repeat (first | apply Kd.R_alloc | apply Kd.R_drewN | apply Kd.R_drew)); exact HO_9.out⟩, ⟨by (with_reducible repeat (first | apply Kd.R_alloc | apply Kd.R_drewN | apply Kd.R_drew)); exact Kd.R_mono HO108.out (fun _ hk => ⟨hk.1.2, hk.2⟩)⟩, ⟨by (with_reducible repeat (first | refine blk_drewN ?_ _ | refine blk_drew ?_ | refine blk_alloc ?_ _)); exact BK101.out⟩, ⟨by repeat (first | (with_reducible first | exact HB.out | apply below_alloc | apply pw_below_drewN | apply below_drew1 | refine below_set ?_ GE101.out) | exact HB.out)⟩⟩
          case round =>
            clear H'; try clear c1; try clear p2; try clear c5; try clear c5b0; try clear c13; try clear c15; try clear c15b0; try clear c15b1; try clear hcz11_0; try clear hcz11_1; try clear hcz11_2; try clear hcz13_0; try clear hcz13_1; try clear hcz13_2; try clear hcz17_0; try clear hcz17_1; try clear hcz17_2; try clear hcz7_0; try clear hcz7_1; try clear hcz7_2; try clear hfz11_0; try clear hfz11_1; try clear hfz11_2; try clear hfz13_0; try clear hfz13_1; try clear hfz13_2; try clear hfz17_0; try clear hfz17_1; try clear hfz17_2; try clear hfz7_0; try clear hfz7_1; try clear hfz7_2; try clear p2
            obtain ⟨x9_2, x10_2, x30_2, rfl, rfl, HA, HK2, HO_8, HO_9, HO_28, BK101, HB⟩ := hrel
            cases gk with
            | zero => exact absurd HA.out (by simp [impl_WayBetween.l1])
            | succ k2 =>
              have H := HA.out
              clear HA
              simp only [impl_WayBetween.l1] at H
              by_cases c20 : x30_2 < (t106.length : Int)
              · rw [if_pos c20] at H
                have c20b0 : decide (x30_2 < (t106.length : Int)) = true := decide_eq_true c20
                clear c20
                by_cases c21 : 0 ≤ x30_2
                · rw [if_pos c21] at H
                  have c21b0 : decide (0 ≤ x30_2) = true := decide_eq_true c21
                  clear c21
                  by_cases c22 : x30_2 < (t106.length : Int)
                  · rw [if_pos c22] at H
                    have c22b0 : decide (x30_2 < (t106.length : Int)) = true := decide_eq_true c22
                    clear c22
                    obtain ⟨t110, A230, H⟩ := Option.bind_eq_some_iff.mp H
                    (try dsimp only at H); have A23 := Aside0.mk A230; clear A230
                    by_cases c24 : 0 ≤ t110
                    · rw [if_pos c24] at H
                      have c24b0 : decide (0 ≤ t110) = true := decide_eq_true c24
                      clear c24
                      by_cases c25 : t110 < (t103.length : Int)
                      · rw [if_pos c25] at H
                        have c25b0 : decide (t110 < (t103.length : Int)) = true := decide_eq_true c25
                        clear c25
                        by_cases c26 : 0 ≤ x10_2
                        · rw [if_pos c26] at H
                          have c26b0 : decide (0 ≤ x10_2) = true := decide_eq_true c26
                          clear c26
                          by_cases c27 : x10_2 < (t103.length : Int)
                          · rw [if_pos c27] at H
                            have c27b0 : decide (x10_2 < (t103.length : Int)) = true := decide_eq_true c27
                            clear c27
                            by_cases c28 : (rd t103 t110) < (rd t103 x10_2)
                            · rw [if_pos c28] at H
                              have c28b0 : decide ((rd t103 t110) < (rd t103 x10_2)) = true := decide_eq_true c28
                              clear c28
                              by_cases c29 : x9_2.length < 17592186044416
                              · rw [if_pos c29] at H
                                have LMc29 := Aside0.mk c29
                                clear c29
                                obtain ⟨y113, hy113⟩ : ∃ y_ : List Int, y_ = (x9_2 ++ [rd t106 x30_2]) := ⟨_, rfl⟩
                                replace H : (impl_WayBetween.l0 k2 a2 t103 y113 t110 a0_0 a0_1 a0_2) = some (r1, r2) := by first | (rw [hy113]; with_reducible exact H) | (have H2_ := (Option.bind_some _ _).symm.trans H; rw [hy113]; with_reducible exact H2_) | (have H2_ := (Option.bind_some _ _).symm.trans H; with_reducible exact H2_) | with_reducible exact H | (rw [hy113]; exact H) | exact H
                                have Ny113 := Aside0.mk hy113
                                clear hy113
                                have H' := Aside0.mk H
                                clear H
                                have p109 : 0 ≤ (x30_2 : Int) := of_decide_eq_true (by first | (with_reducible assumption) | assumption)
                                have q109 : x30_2 < (t106.length : Int) := of_decide_eq_true (by first | (with_reducible assumption) | assumption)
                                obtain ⟨ad109, e109, hx109_0⟩ := Kd.at_int (Kd.R_reads' HO_28.out).2.2 x30_2 p109 q109
                                cases e109
                                replace p109 := eq_true p109; replace q109 := eq_true q109
                                obtain ⟨hcz30_0, hcz30_1, hcz30_2⟩ := kk3_ BK101.1
                                have hfz30_0 := blk_frozen BK101.out 0
                                have hfz30_1 := blk_frozen BK101.out 1
                                have hfz30_2 := blk_frozen BK101.out 2
                                go_wp2_with (first | (go_at_call 79; (with_reducible refine (impl_Step.calls k2 a0_0 a0_1 a0_2 x10_2 (rd t106 x30_2) t110 _ A23.out).mono ?_); rintro e w31 ⟨rfl, hb⟩; have n0_ := Aside0.mk (Kd.R_below (by (with_reducible repeat (first | apply Kd.R_alloc | apply Kd.R_drewN | apply Kd.R_drew)); exact HO_8.out) hb); have n1_ := Aside0.mk (Kd.R_below (by (with_reducible repeat (first | apply Kd.R_alloc | apply Kd.R_drewN | apply Kd.R_drew)); exact HO_9.out) hb); have n2_ := Aside0.mk (Kd.R_below (by (with_reducible repeat (first | apply Kd.R_alloc | apply Kd.R_drewN | apply Kd.R_drew)); exact HO_28.out) hb); have n3_ := Aside0.mk (blk_below (g := gb101) (o := .cells #[.int .i64 a0_0, .int .i64 a0_1, .int .i64 a0_2] 34 (0, 0)) (by (with_reducible repeat first | refine cA_ ?_ _ | refine cB_ ?_ | refine cC_ ?_ _); exact BK101.1) hb); have n4_ := Aside0.mk (below_step (by repeat first | exact HB.1 | apply bA_ | apply bB_ | apply bC_ | refine below_set ?_ GE101.out) hb); clear HO_8; clear HO_9; clear HO_28; clear BK101; clear HB; have HO_8 := n0_; have HO_9 := n1_; have HO_28 := n2_; have BK101 := n3_; have HB := n4_; clear n0_ n1_ n2_ n3_ n4_; (try clear hb); (try clear hb2); (try clear hk); (try clear hi); obtain ⟨Ao32, co32, eo32⟩ := Kd.R_slice HO_8.out; subst eo32; have p111 : 0 ≤ (t110 : Int) := of_decide_eq_true (by first | (with_reducible assumption) | assumption); have q111 : t110 < (t103.length : Int) := of_decide_eq_true (by first | (with_reducible assumption) | assumption); obtain ⟨ad111, e111, hx111_0⟩ := Kd.at_int (Kd.R_reads' HO_8.out).2.2 t110 p111 q111; cases e111; replace p111 := eq_true p111; replace q111 := eq_true q111; have p112 : 0 ≤ (x10_2 : Int) := of_decide_eq_true (by first | (with_reducible assumption) | assumption); have q112 : x10_2 < (t103.length : Int) := of_decide_eq_true (by first | (with_reducible assumption) | assumption); obtain ⟨ad112, e112, hx112_0⟩ := Kd.at_int (Kd.R_reads' HO_8.out).2.2 x10_2 p112 q112; obtain rfl : ad111 = ad112 := (by injection e112); replace p112 := eq_true p112; replace q112 := eq_true q112) | ((with_reducible refine gate_builtin (b := .append) (xs := #[.tmp 47, .tmp 49]) rfl ?_); at_builtin; refine Kd.R_append (Kd.int .i64) (w0 := w) w.heap.size rfl (.tmp 47) (.tmp 49) 22 3 (.int .i64 0) 8 rfl Try.underlying22 info3 rfl (by decide) (by omega) u9 x9_2 (rd t106 x30_2) [.int .i64 (rd t106 x30_2)] (fun k_ => some k_ ≠ (.slice (some ad111) t103.length co32 : Value).ownBlock ∧ some k_ ≠ (.slice (some ad109) t106.length co19 : Value).ownBlock) (fun _ => False) rfl rfl ?aP (fun _ hk => hk.elim) ?aF ?aO ?aB ?aS ?aL ?_; (case aP => exact rfl); (case aB => exact (by repeat first | exact HB.1 | apply bA_ | apply bB_ | apply bC_ | refine below_set ?_ GE101.out)); (case aF => exact (fun k_ hk => ⟨Kd.fresh' (Kd.R_lt (by (with_reducible repeat (first | apply Kd.R_alloc | apply Kd.R_drewN | apply Kd.R_drew)); exact HO_8.out)) k_ hk, Kd.fresh' (Kd.R_lt (by (with_reducible repeat (first | apply Kd.R_alloc | apply Kd.R_drewN | apply Kd.R_drew)); exact HO_28.out)) k_ hk⟩)); (case aO => exact (by (with_reducible repeat (first | apply Kd.R_alloc | apply Kd.R_drewN | apply Kd.R_drew)); exact HO_9.out)); (case aS => exact (below_size (by repeat first | exact HB.1 | apply bA_ | apply bB_ | apply bC_ | refine below_set ?_ GE101.out))); (case aL => have := LMc29.out; omega); intro v114 w33 ho hb hg hat; rw [← Ny113.out] at ho; have n0_ := Aside0.mk (Kd.R_after (ok := (fun k_ => some k_ ≠ (.slice (some ad109) t106.length co19 : Value).ownBlock)) (by (with_reducible repeat (first | apply Kd.R_alloc | apply Kd.R_drewN | apply Kd.R_drew)); exact Kd.R_mono HO_8.out (fun _ hk => ⟨hk.2, hk.1⟩)) hg hat); have n1_ := Aside0.mk (Kd.R_after (ok := (fun k_ => some k_ ≠ (.slice (some ad111) t103.length co32 : Value).ownBlock)) (by (with_reducible repeat (first | apply Kd.R_alloc | apply Kd.R_drewN | apply Kd.R_drew)); exact HO_28.out) hg hat); have n2_ := Aside0.mk (blk_grown (g := gb101) (o := .cells #[.int .i64 a0_0, .int .i64 a0_1, .int .i64 a0_2] 34 (0, 0)) (by (with_reducible repeat first | refine cA_ ?_ _ | refine cB_ ?_ | refine cC_ ?_ _); exact BK101.1) hg (Kd.R_ne HO_9.out BK101.out (by decide))); have n3_ := Aside0.mk (hb); have n4_ := Aside0.mk (ho); clear HO_8; clear HO_28; clear BK101; clear HB; clear HO_9; have HO_8 := n0_; have HO_28 := n1_; have BK101 := n2_; have HB := n3_; have HO115 := n4_; clear n0_ n1_ n2_ n3_ n4_; clear ho hb hg hat))
                                repeat (go_quiet (first | (go_at_call 79; (with_reducible refine (impl_Step.calls k2 a0_0 a0_1 a0_2 x10_2 (rd t106 x30_2) t110 _ A23.out).mono ?_); rintro e w31 ⟨rfl, hb⟩; have n0_ := Aside0.mk (Kd.R_below (by (with_reducible repeat (first | apply Kd.R_alloc | apply Kd.R_drewN | apply Kd.R_drew)); exact HO_8.out) hb); have n1_ := Aside0.mk (Kd.R_below (by (with_reducible repeat (first | apply Kd.R_alloc | apply Kd.R_drewN | apply Kd.R_drew)); exact HO_9.out) hb); have n2_ := Aside0.mk (Kd.R_below (by (with_reducible repeat (first | apply Kd.R_alloc | apply Kd.R_drewN | apply Kd.R_drew)); exact HO_28.out) hb); have n3_ := Aside0.mk (blk_below (g := gb101) (o := .cells #[.int .i64 a0_0, .int .i64 a0_1, .int .i64 a0_2] 34 (0, 0)) (by (with_reducible repeat first | refine cA_ ?_ _ | refine cB_ ?_ | refine cC_ ?_ _); exact BK101.1) hb); have n4_ := Aside0.mk (below_step (by repeat first | exact HB.1 | apply bA_ | apply bB_ | apply bC_ | refine below_set ?_ GE101.out) hb); clear HO_8; clear HO_9; clear HO_28; clear BK101; clear HB; have HO_8 := n0_; have HO_9 := n1_; have HO_28 := n2_; have BK101 := n3_; have HB := n4_; clear n0_ n1_ n2_ n3_ n4_; (try clear hb); (try clear hb2); (try clear hk); (try clear hi); obtain ⟨Ao32, co32, eo32⟩ := Kd.R_slice HO_8.out; subst eo32; have p111 : 0 ≤ (t110 : Int) := of_decide_eq_true (by first | (with_reducible assumption) | assumption); have q111 : t110 < (t103.length : Int) := of_decide_eq_true (by first | (with_reducible assumption) | assumption); obtain ⟨ad111, e111, hx111_0⟩ := Kd.at_int (Kd.R_reads' HO_8.out).2.2 t110 p111 q111; cases e111; replace p111 := eq_true p111; replace q111 := eq_true q111; have p112 : 0 ≤ (x10_2 : Int) := of_decide_eq_true (by first | (with_reducible assumption) | assumption); have q112 : x10_2 < (t103.length : Int) := of_decide_eq_true (by first | (with_reducible assumption) | assumption); obtain ⟨ad112, e112, hx112_0⟩ := Kd.at_int (Kd.R_reads' HO_8.out).2.2 x10_2 p112 q112; obtain rfl : ad111 = ad112 := (by injection e112); replace p112 := eq_true p112; replace q112 := eq_true q112) | ((with_reducible refine gate_builtin (b := .append) (xs := #[.tmp 47, .tmp 49]) rfl ?_); at_builtin; refine Kd.R_append (Kd.int .i64) (w0 := w) w.heap.size rfl (.tmp 47) (.tmp 49) 22 3 (.int .i64 0) 8 rfl Try.underlying22 info3 rfl (by decide) (by omega) u9 x9_2 (rd t106 x30_2) [.int .i64 (rd t106 x30_2)] (fun k_ => some k_ ≠ (.slice (some ad111) t103.length co32 : Value).ownBlock ∧ some k_ ≠ (.slice (some ad109) t106.length co19 : Value).ownBlock) (fun _ => False) rfl rfl ?aP (fun _ hk => hk.elim) ?aF ?aO ?aB ?aS ?aL ?_; (case aP => exact rfl); (case aB => exact (by repeat first | exact HB.1 | apply bA_ | apply bB_ | apply bC_ | refine below_set ?_ GE101.out)); (case aF => exact (fun k_ hk => ⟨Kd.fresh' (Kd.R_lt (by (with_reducible repeat (first | apply Kd.R_alloc | apply Kd.R_drewN | apply Kd.R_drew)); exact HO_8.out)) k_ hk, Kd.fresh' (Kd.R_lt (by (with_reducible repeat (first | apply Kd.R_alloc | apply Kd.R_drewN | apply Kd.R_drew)); exact HO_28.out)) k_ hk⟩)); (case aO => exact (by (with_reducible repeat (first | apply Kd.R_alloc | apply Kd.R_drewN | apply Kd.R_drew)); exact HO_9.out)); (case aS => exact (below_size (by repeat first | exact HB.1 | apply bA_ | apply bB_ | apply bC_ | refine below_set ?_ GE101.out))); (case aL => have := LMc29.out; omega); intro v114 w33 ho hb hg hat; rw [← Ny113.out] at ho; have n0_ := Aside0.mk (Kd.R_after (ok := (fun k_ => some k_ ≠ (.slice (some ad109) t106.length co19 : Value).ownBlock)) (by (with_reducible repeat (first | apply Kd.R_alloc | apply Kd.R_drewN | apply Kd.R_drew)); exact Kd.R_mono HO_8.out (fun _ hk => ⟨hk.2, hk.1⟩)) hg hat); have n1_ := Aside0.mk (Kd.R_after (ok := (fun k_ => some k_ ≠ (.slice (some ad111) t103.length co32 : Value).ownBlock)) (by (with_reducible repeat (first | apply Kd.R_alloc | apply Kd.R_drewN | apply Kd.R_drew)); exact HO_28.out) hg hat); have n2_ := Aside0.mk (blk_grown (g := gb101) (o := .cells #[.int .i64 a0_0, .int .i64 a0_1, .int .i64 a0_2] 34 (0, 0)) (by (with_reducible repeat first | refine cA_ ?_ _ | refine cB_ ?_ | refine cC_ ?_ _); exact BK101.1) hg (Kd.R_ne HO_9.out BK101.out (by decide))); have n3_ := Aside0.mk (hb); have n4_ := Aside0.mk (ho); clear HO_8; clear HO_28; clear BK101; clear HB; clear HO_9; have HO_8 := n0_; have HO_28 := n1_; have BK101 := n2_; have HB := n3_; have HO115 := n4_; clear n0_ n1_ n2_ n3_ n4_; clear ho hb hg hat)); try go_wp2_with (first | (go_at_call 79; (with_reducible refine (impl_Step.calls k2 a0_0 a0_1 a0_2 x10_2 (rd t106 x30_2) t110 _ A23.out).mono ?_); rintro e w31 ⟨rfl, hb⟩; have n0_ := Aside0.mk (Kd.R_below (by (with_reducible repeat (first | apply Kd.R_alloc | apply Kd.R_drewN | apply Kd.R_drew)); exact HO_8.out) hb); have n1_ := Aside0.mk (Kd.R_below (by (with_reducible repeat (first | apply Kd.R_alloc | apply Kd.R_drewN | apply Kd.R_drew)); exact HO_9.out) hb); have n2_ := Aside0.mk (Kd.R_below (by (with_reducible repeat (first | apply Kd.R_alloc | apply Kd.R_drewN | apply Kd.R_drew)); exact HO_28.out) hb); have n3_ := Aside0.mk (blk_below (g := gb101) (o := .cells #[.int .i64 a0_0, .int .i64 a0_1, .int .i64 a0_2] 34 (0, 0)) (by (with_reducible repeat first | refine cA_ ?_ _ | refine cB_ ?_ | refine cC_ ?_ _); exact BK101.1) hb); have n4_ := Aside0.mk (below_step (by repeat first | exact HB.1 | apply bA_ | apply bB_ | apply bC_ | refine below_set ?_ GE101.out) hb); clear HO_8; clear HO_9; clear HO_28; clear BK101; clear HB; have HO_8 := n0_; have HO_9 := n1_; have HO_28 := n2_; have BK101 := n3_; have HB := n4_; clear n0_ n1_ n2_ n3_ n4_; (try clear hb); (try clear hb2); (try clear hk); (try clear hi); obtain ⟨Ao32, co32, eo32⟩ := Kd.R_slice HO_8.out; subst eo32; have p111 : 0 ≤ (t110 : Int) := of_decide_eq_true (by first | (with_reducible assumption) | assumption); have q111 : t110 < (t103.length : Int) := of_decide_eq_true (by first | (with_reducible assumption) | assumption); obtain ⟨ad111, e111, hx111_0⟩ := Kd.at_int (Kd.R_reads' HO_8.out).2.2 t110 p111 q111; cases e111; replace p111 := eq_true p111; replace q111 := eq_true q111; have p112 : 0 ≤ (x10_2 : Int) := of_decide_eq_true (by first | (with_reducible assumption) | assumption); have q112 : x10_2 < (t103.length : Int) := of_decide_eq_true (by first | (with_reducible assumption) | assumption); obtain ⟨ad112, e112, hx112_0⟩ := Kd.at_int (Kd.R_reads' HO_8.out).2.2 x10_2 p112 q112; obtain rfl : ad111 = ad112 := (by injection e112); replace p112 := eq_true p112; replace q112 := eq_true q112) | ((with_reducible refine gate_builtin (b := .append) (xs := #[.tmp 47, .tmp 49]) rfl ?_); at_builtin; refine Kd.R_append (Kd.int .i64) (w0 := w) w.heap.size rfl (.tmp 47) (.tmp 49) 22 3 (.int .i64 0) 8 rfl Try.underlying22 info3 rfl (by decide) (by omega) u9 x9_2 (rd t106 x30_2) [.int .i64 (rd t106 x30_2)] (fun k_ => some k_ ≠ (.slice (some ad111) t103.length co32 : Value).ownBlock ∧ some k_ ≠ (.slice (some ad109) t106.length co19 : Value).ownBlock) (fun _ => False) rfl rfl ?aP (fun _ hk => hk.elim) ?aF ?aO ?aB ?aS ?aL ?_; (case aP => exact rfl); (case aB => exact (by repeat first | exact HB.1 | apply bA_ | apply bB_ | apply bC_ | refine below_set ?_ GE101.out)); (case aF => exact (fun k_ hk => ⟨Kd.fresh' (Kd.R_lt (by (with_reducible repeat (first | apply Kd.R_alloc | apply Kd.R_drewN | apply Kd.R_drew)); exact HO_8.out)) k_ hk, Kd.fresh' (Kd.R_lt (by (with_reducible repeat (first | apply Kd.R_alloc | apply Kd.R_drewN | apply Kd.R_drew)); exact HO_28.out)) k_ hk⟩)); (case aO => exact (by (with_reducible repeat (first | apply Kd.R_alloc | apply Kd.R_drewN | apply Kd.R_drew)); exact HO_9.out)); (case aS => exact (below_size (by repeat first | exact HB.1 | apply bA_ | apply bB_ | apply bC_ | refine below_set ?_ GE101.out))); (case aL => have := LMc29.out; omega); intro v114 w33 ho hb hg hat; rw [← Ny113.out] at ho; have n0_ := Aside0.mk (Kd.R_after (ok := (fun k_ => some k_ ≠ (.slice (some ad109) t106.length co19 : Value).ownBlock)) (by (with_reducible repeat (first | apply Kd.R_alloc | apply Kd.R_drewN | apply Kd.R_drew)); exact Kd.R_mono HO_8.out (fun _ hk => ⟨hk.2, hk.1⟩)) hg hat); have n1_ := Aside0.mk (Kd.R_after (ok := (fun k_ => some k_ ≠ (.slice (some ad111) t103.length co32 : Value).ownBlock)) (by (with_reducible repeat (first | apply Kd.R_alloc | apply Kd.R_drewN | apply Kd.R_drew)); exact HO_28.out) hg hat); have n2_ := Aside0.mk (blk_grown (g := gb101) (o := .cells #[.int .i64 a0_0, .int .i64 a0_1, .int .i64 a0_2] 34 (0, 0)) (by (with_reducible repeat first | refine cA_ ?_ _ | refine cB_ ?_ | refine cC_ ?_ _); exact BK101.1) hg (Kd.R_ne HO_9.out BK101.out (by decide))); have n3_ := Aside0.mk (hb); have n4_ := Aside0.mk (ho); clear HO_8; clear HO_28; clear BK101; clear HB; clear HO_9; have HO_8 := n0_; have HO_28 := n1_; have BK101 := n2_; have HB := n3_; have HO115 := n4_; clear n0_ n1_ n2_ n3_ n4_; clear ho hb hg hat)))
                                go_roundg k2
                                case measure => have := HK1.out; have := HK2.out; omega
                                case rel => exact ⟨(y113), (t110), (by first | rfl | (simp; done) | (simp [*]; done)), H', ⟨by have := HK1.out; have := HK2.out; omega⟩, ⟨by (with_reducible repeat (first | apply Kd.R_alloc | apply Kd.R_drewN | apply Kd.R_drew)); exact Kd.R_mono HO_8.out (fun _ hk => hk.2)⟩, ⟨by (with_reducible repeat (first | apply Kd.R_alloc | apply Kd.R_drewN | apply Kd.R_drew)); exact Kd.R_mono HO115.out (fun _ hk => hk.1)⟩, ⟨by (with_reducible repeat (first | refine blk_drewN ?_ _ | refine blk_drew ?_ | refine blk_alloc ?_ _)); exact BK101.out⟩, ⟨by repeat (first | (with_reducible first | exact HB.out | apply below_alloc | apply pw_below_drewN | apply below_drew1 | refine below_set ?_ GE101.out) | exact HB.out)⟩⟩
                              · rw [if_neg c29] at H
                                exact absurd H (by simp)
                            · rw [if_neg c28] at H
                              have c28b0 : decide ((rd t103 t110) < (rd t103 x10_2)) = false := decide_eq_false c28
                              clear c28
                              have H' := Aside0.mk H
                              clear H
                              have p109 : 0 ≤ (x30_2 : Int) := of_decide_eq_true (by first | (with_reducible assumption) | assumption)
                              have q109 : x30_2 < (t106.length : Int) := of_decide_eq_true (by first | (with_reducible assumption) | assumption)
                              obtain ⟨ad109, e109, hx109_0⟩ := Kd.at_int (Kd.R_reads' HO_28.out).2.2 x30_2 p109 q109
                              cases e109
                              replace p109 := eq_true p109; replace q109 := eq_true q109
                              obtain ⟨hcz34_0, hcz34_1, hcz34_2⟩ := kk3_ BK101.1
                              have hfz34_0 := blk_frozen BK101.out 0
                              have hfz34_1 := blk_frozen BK101.out 1
                              have hfz34_2 := blk_frozen BK101.out 2
                              go_wp2_with (first | (go_at_call 79; (with_reducible refine (impl_Step.calls k2 a0_0 a0_1 a0_2 x10_2 (rd t106 x30_2) t110 _ A23.out).mono ?_); rintro e w35 ⟨rfl, hb⟩; have n0_ := Aside0.mk (Kd.R_below (by (with_reducible repeat (first | apply Kd.R_alloc | apply Kd.R_drewN | apply Kd.R_drew)); exact HO_8.out) hb); have n1_ := Aside0.mk (Kd.R_below (by (with_reducible repeat (first | apply Kd.R_alloc | apply Kd.R_drewN | apply Kd.R_drew)); exact HO_9.out) hb); have n2_ := Aside0.mk (Kd.R_below (by (with_reducible repeat (first | apply Kd.R_alloc | apply Kd.R_drewN | apply Kd.R_drew)); exact HO_28.out) hb); have n3_ := Aside0.mk (blk_below (g := gb101) (o := .cells #[.int .i64 a0_0, .int .i64 a0_1, .int .i64 a0_2] 34 (0, 0)) (by (with_reducible repeat first | refine cA_ ?_ _ | refine cB_ ?_ | refine cC_ ?_ _); exact BK101.1) hb); have n4_ := Aside0.mk (below_step (by repeat first | exact HB.1 | apply bA_ | apply bB_ | apply bC_ | refine below_set ?_ GE101.out) hb); clear HO_8; clear HO_9; clear HO_28; clear BK101; clear HB; have HO_8 := n0_; have HO_9 := n1_; have HO_28 := n2_; have BK101 := n3_; have HB := n4_; clear n0_ n1_ n2_ n3_ n4_; (try clear hb); (try clear hb2); (try clear hk); (try clear hi); obtain ⟨Ao36, co36, eo36⟩ := Kd.R_slice HO_8.out; subst eo36; have p111 : 0 ≤ (t110 : Int) := of_decide_eq_true (by first | (with_reducible assumption) | assumption); have q111 : t110 < (t103.length : Int) := of_decide_eq_true (by first | (with_reducible assumption) | assumption); obtain ⟨ad111, e111, hx111_0⟩ := Kd.at_int (Kd.R_reads' HO_8.out).2.2 t110 p111 q111; cases e111; replace p111 := eq_true p111; replace q111 := eq_true q111; have p112 : 0 ≤ (x10_2 : Int) := of_decide_eq_true (by first | (with_reducible assumption) | assumption); have q112 : x10_2 < (t103.length : Int) := of_decide_eq_true (by first | (with_reducible assumption) | assumption); obtain ⟨ad112, e112, hx112_0⟩ := Kd.at_int (Kd.R_reads' HO_8.out).2.2 x10_2 p112 q112; obtain rfl : ad111 = ad112 := (by injection e112); replace p112 := eq_true p112; replace q112 := eq_true q112))
                              repeat (go_quiet (first | (go_at_call 79; (with_reducible refine (impl_Step.calls k2 a0_0 a0_1 a0_2 x10_2 (rd t106 x30_2) t110 _ A23.out).mono ?_); rintro e w35 ⟨rfl, hb⟩; have n0_ := Aside0.mk (Kd.R_below (by (with_reducible repeat (first | apply Kd.R_alloc | apply Kd.R_drewN | apply Kd.R_drew)); exact HO_8.out) hb); have n1_ := Aside0.mk (Kd.R_below (by (with_reducible repeat (first | apply Kd.R_alloc | apply Kd.R_drewN | apply Kd.R_drew)); exact HO_9.out) hb); have n2_ := Aside0.mk (Kd.R_below (by (with_reducible repeat (first | apply Kd.R_alloc | apply Kd.R_drewN | apply Kd.R_drew)); exact HO_28.out) hb); have n3_ := Aside0.mk (blk_below (g := gb101) (o := .cells #[.int .i64 a0_0, .int .i64 a0_1, .int .i64 a0_2] 34 (0, 0)) (by (with_reducible repeat first | refine cA_ ?_ _ | refine cB_ ?_ | refine cC_ ?_ _); exact BK101.1) hb); have n4_ := Aside0.mk (below_step (by repeat first | exact HB.1 | apply bA_ | apply bB_ | apply bC_ | refine below_set ?_ GE101.out) hb); clear HO_8; clear HO_9; clear HO_28; clear BK101; clear HB; have HO_8 := n0_; have HO_9 := n1_; have HO_28 := n2_; have BK101 := n3_; have HB := n4_; clear n0_ n1_ n2_ n3_ n4_; (try clear hb); (try clear hb2); (try clear hk); (try clear hi); obtain ⟨Ao36, co36, eo36⟩ := Kd.R_slice HO_8.out; subst eo36; have p111 : 0 ≤ (t110 : Int) := of_decide_eq_true (by first | (with_reducible assumption) | assumption); have q111 : t110 < (t103.length : Int) := of_decide_eq_true (by first | (with_reducible assumption) | assumption); obtain ⟨ad111, e111, hx111_0⟩ := Kd.at_int (Kd.R_reads' HO_8.out).2.2 t110 p111 q111; cases e111; replace p111 := eq_true p111; replace q111 := eq_true q111; have p112 : 0 ≤ (x10_2 : Int) := of_decide_eq_true (by first | (with_reducible assumption) | assumption); have q112 : x10_2 < (t103.length : Int) := of_decide_eq_true (by first | (with_reducible assumption) | assumption); obtain ⟨ad112, e112, hx112_0⟩ := Kd.at_int (Kd.R_reads' HO_8.out).2.2 x10_2 p112 q112; obtain rfl : ad111 = ad112 := (by injection e112); replace p112 := eq_true p112; replace q112 := eq_true q112)); try go_wp2_with (first | (go_at_call 79; (with_reducible refine (impl_Step.calls k2 a0_0 a0_1 a0_2 x10_2 (rd t106 x30_2) t110 _ A23.out).mono ?_); rintro e w35 ⟨rfl, hb⟩; have n0_ := Aside0.mk (Kd.R_below (by (with_reducible repeat (first | apply Kd.R_alloc | apply Kd.R_drewN | apply Kd.R_drew)); exact HO_8.out) hb); have n1_ := Aside0.mk (Kd.R_below (by (with_reducible repeat (first | apply Kd.R_alloc | apply Kd.R_drewN | apply Kd.R_drew)); exact HO_9.out) hb); have n2_ := Aside0.mk (Kd.R_below (by (with_reducible repeat (first | apply Kd.R_alloc | apply Kd.R_drewN | apply Kd.R_drew)); exact HO_28.out) hb); have n3_ := Aside0.mk (blk_below (g := gb101) (o := .cells #[.int .i64 a0_0, .int .i64 a0_1, .int .i64 a0_2] 34 (0, 0)) (by (with_reducible repeat first | refine cA_ ?_ _ | refine cB_ ?_ | refine cC_ ?_ _); exact BK101.1) hb); have n4_ := Aside0.mk (below_step (by repeat first | exact HB.1 | apply bA_ | apply bB_ | apply bC_ | refine below_set ?_ GE101.out) hb); clear HO_8; clear HO_9; clear HO_28; clear BK101; clear HB; have HO_8 := n0_; have HO_9 := n1_; have HO_28 := n2_; have BK101 := n3_; have HB := n4_; clear n0_ n1_ n2_ n3_ n4_; (try clear hb); (try clear hb2); (try clear hk); (try clear hi); obtain ⟨Ao36, co36, eo36⟩ := Kd.R_slice HO_8.out; subst eo36; have p111 : 0 ≤ (t110 : Int) := of_decide_eq_true (by first | (with_reducible assumption) | assumption); have q111 : t110 < (t103.length : Int) := of_decide_eq_true (by first | (with_reducible assumption) | assumption); obtain ⟨ad111, e111, hx111_0⟩ := Kd.at_int (Kd.R_reads' HO_8.out).2.2 t110 p111 q111; cases e111; replace p111 := eq_true p111; replace q111 := eq_true q111; have p112 : 0 ≤ (x10_2 : Int) := of_decide_eq_true (by first | (with_reducible assumption) | assumption); have q112 : x10_2 < (t103.length : Int) := of_decide_eq_true (by first | (with_reducible assumption) | assumption); obtain ⟨ad112, e112, hx112_0⟩ := Kd.at_int (Kd.R_reads' HO_8.out).2.2 x10_2 p112 q112; obtain rfl : ad111 = ad112 := (by injection e112); replace p112 := eq_true p112; replace q112 := eq_true q112)))
                              go_roundg k2
                              case measure => have := HK1.out; have := HK2.out; omega
                              case rel => exact ⟨(x9_2), (x10_2), (wrap64 (x30_2 + 1)), (by first | rfl | (simp; done) | (simp [*]; done)), (by first | rfl | (simp; done) | (simp [*]; done)), H', ⟨by have := HK1.out; have := HK2.out; omega⟩, ⟨by (with_reducible repeat (first | apply Kd.R_alloc | apply Kd.R_drewN | apply Kd.R_drew)); exact HO_8.out⟩, ⟨by (with_reducible repeat (first | apply Kd.R_alloc | apply Kd.R_drewN | apply Kd.R_drew)); exact HO_9.out⟩, ⟨by (with_reducible repeat (first | apply Kd.R_alloc | apply Kd.R_drewN | apply Kd.R_drew)); exact HO_28.out⟩, ⟨by (with_reducible repeat (first | refine blk_drewN ?_ _ | refine blk_drew ?_ | refine blk_alloc ?_ _)); exact BK101.out⟩, ⟨by repeat (first | (with_reducible first | exact HB.out | apply below_alloc | apply pw_below_drewN | apply below_drew1 | refine below_set ?_ GE101.out) | exact HB.out)⟩⟩
                          · rw [if_neg c27] at H
                            exact absurd H (by simp)
                        · rw [if_neg c26] at H
                          exact absurd H (by simp)
                      · rw [if_neg c25] at H
                        exact absurd H (by simp)
                    · rw [if_neg c24] at H
                      exact absurd H (by simp)
                  · rw [if_neg c22] at H
                    exact absurd H (by simp)
                · rw [if_neg c21] at H
                  exact absurd H (by simp)
              · rw [if_neg c20] at H
                have c20b0 : decide (x30_2 < (t106.length : Int)) = false := decide_eq_false c20
                clear c20
                have H' := Aside0.mk H
                clear H
                go_wp2
                repeat (go_quiet (fail); try go_wp2)
                go_roundg k2
                case measure => have := HK1.out; have := HK2.out; omega
                case rel => exact ⟨(x9_2), (x10_2), (by first | rfl | (simp; done) | (simp [*]; done)), H', ⟨by have := HK1.out; have := HK2.out; omega⟩, ⟨by (with_reducible repeat (first | apply Kd.R_alloc | apply Kd.R_drewN | apply Kd.R_drew)); exact Kd.R_mono HO_8.out (fun _ hk => hk.1)⟩, ⟨by (with_reducible repeat (first | apply Kd.R_alloc | apply Kd.R_drewN | apply Kd.R_drew)); exact Kd.R_mono HO_9.out (fun _ hk => hk.1)⟩, ⟨by (with_reducible repeat (first | refine blk_drewN ?_ _ | refine blk_drew ?_ | refine blk_alloc ?_ _)); exact BK101.out⟩, ⟨by repeat (first | (with_reducible first | exact HB.out | apply below_alloc | apply pw_below_drewN | apply below_drew1 | refine below_set ?_ GE101.out) | exact HB.out)⟩⟩

end Go.Proofs.Ytcajhmldbkfhiaa.P
namespace Go.Proofs.Ytcajhmldbkfhiaa.P
open Go.RowKit Go.Proofs.YtcajhmldbkfhiaaW.PrintWords Go.Proofs.YtcajhmldbkfhiaaW.PrintLast Go.Proofs.YtcajhmldbkfhiaaW.PrintMore
attribute [local go_sem] max2_int min2_int max_two min_two max_three min_three max_four min_four   -- for this text's walks alone
set_option linter.unusedVariables false
set_option linter.unusedSimpArgs false

/-! ### impl_gapsOn: function 103 -/
def impl_gapsOn.l0 : Nat → Int → List Int → List Int → Int → Int → Int → Int → Int → Option (List Int)
  | 0, _, _, _, _, _, _, _, _ => none
  | k + 1, x1, x9, x19, x20, x21, x102000, x102001, x102002 => if x21 < x20 then (if 0 ≤ x21 then (if x21 < (x19.length : Int) then ((impl_GapAt.f k x102000 x102001 x1 (rd x19 x21)).bind fun t107 => (if x9.length < 17592186044416 then ((impl_Step.f k x102000 x102001 x102002 x1 (rd x19 x21)).bind fun t111 => (impl_gapsOn.l0 k t111 (x9 ++ [t107]) x19 x20 (wrap64 (x21 + 1)) x102000 x102001 x102002)) else (none))) else (none)) else (none)) else (some x9)
def impl_gapsOn.f (k : Nat) (a0_0 : Int) (a0_1 : Int) (a0_2 : Int) (a1 : Int) (a2 : Int) : Option (List Int) := (impl_WayBetween.f k a0_0 a0_1 a0_2 a1 a2).bind fun bt102 => (impl_gapsOn.l0 k a1 ([] : List Int) bt102.1 (bt102.1.length : Int) 0 a0_0 a0_1 a0_2)
set_option maxHeartbeats 8000000 in
set_option maxRecDepth 100000 in
theorem impl_gapsOn.calls (k : Nat) (a0_0 : Int) (a0_1 : Int) (a0_2 : Int) (a1 : Int) (a2 : Int) (r : List Int) (w : World) (h : impl_gapsOn.f k a0_0 a0_1 a0_2 a1 a2 = some r) :
    Calls Try.prog 103 #[.agg #[.int .i64 a0_0, .int .i64 a0_1, .int .i64 a0_2], .int .i64 a1, .int .i64 a2] w fun e w' => ∃ v0_ : Value, e = .returned (v0_) ∧ Kd.R (Kd.int .i64) 3 w' w.heap.size (fun _ => True) v0_ r ∧ Below w.heap.size w w' := by
  have hu34 := Try.underlying34
  have hu32 := Try.underlying32
  have HB := Aside0.mk (Below.refl w.heap.size w)
  have H : ((impl_WayBetween.f k a0_0 a0_1 a0_2 a1 a2).bind fun bt102 => (impl_gapsOn.l0 k a1 ([] : List Int) bt102.1 (bt102.1.length : Int) 0 a0_0 a0_1 a0_2)) = some r := h
  clear h
  obtain ⟨⟨t102, t105⟩, A40, H⟩ := Option.bind_eq_some_iff.mp H
  (try dsimp only at H); have A4 := Aside0.mk A40; clear A40
  have H' := Aside0.mk H
  clear H
  go_enter Try.func103, Try.ntmps103
  go_wp2_with (first | ((with_reducible refine gate_dst (N := 3) rfl ?_); refine box_event ?hg (N := 3) ?hd (cs := #[.int .i64 a0_0, .int .i64 a0_1, .int .i64 a0_2]) (t := 34) ?hr ?_; (case hd => rfl); (case hg => rfl); (case hr => first | (go_simp; done) | (go_simp; rfl)); intro gb101 hg w5 hbox hb; have n0_ := Aside0.mk (below_step (by repeat first | exact HB.1 | apply bA_ | apply bB_ | apply bC_) hb); have n1_ := Aside0.mk (hbox); have n2_ := Aside0.mk ((by rw [hg]; exact (below_size (by repeat first | exact HB.1 | apply bA_ | apply bB_ | apply bC_)) : w.heap.size ≤ gb101)); have n3_ := n2_; clear HB; have HB := n0_; have BK101 := n1_; have GW101 := n2_; have GE101 := n3_; clear n0_ n1_ n2_ n3_; clear hb hbox hg; obtain ⟨hcz6_0, hcz6_1, hcz6_2⟩ := kk3_ BK101.1; have hfz6_0 := blk_frozen BK101.out 0; have hfz6_1 := blk_frozen BK101.out 1; have hfz6_2 := blk_frozen BK101.out 2) | ((with_reducible refine gate_callee (f := 133) rfl ?_); refine goesL_ (some 16) rfl rfl Try.func133 (by kernel_rfl) rfl #[.agg #[.int .i64 a0_0, .int .i64 a0_1, .int .i64 a0_2], .int .i64 a1, .int .i64 a2] rfl (by (try simp only [M3_]); first | done | rfl | (simp only [List.length_drop, List.length_take]; rfl)) ?_; (with_reducible refine (impl_WayBetween.calls k a0_0 a0_1 a0_2 a1 a2 t102 t105 _ A4.out).mono ?_); rintro e w7 ⟨v103, rfl, ho0, hb⟩; refine ⟨_, rfl, ?_⟩; have n0_ := Aside0.mk (Kd.R_lower ho0 (below_size (by repeat first | exact HB.1 | apply bA_ | apply bB_ | apply bC_ | refine below_set ?_ GE101.out))); have n1_ := Aside0.mk (blk_below (g := gb101) (o := .cells #[.int .i64 a0_0, .int .i64 a0_1, .int .i64 a0_2] 34 (0, 0)) (by (with_reducible repeat first | refine cA_ ?_ _ | refine cB_ ?_ | refine cC_ ?_ _); exact BK101.1) hb); have n2_ := Aside0.mk (below_step (by repeat first | exact HB.1 | apply bA_ | apply bB_ | apply bC_ | refine below_set ?_ GE101.out) hb); clear BK101; clear HB; have HO104 := n0_; have BK101 := n1_; have HB := n2_; clear n0_ n1_ n2_; (try clear hb); (try clear hb2); (try clear hk); (try clear hi); (try clear ho0); obtain ⟨Ao8, co8, eo8⟩ := Kd.R_slice HO104.out; subst eo8))
  go_loopg [1, 9, 21] k (fun kq v1 v9 v21 w' => ∃ (x1_1 : Int) (x9_1 : List Int) (x21_1 : Int), v1 = .int .i64 x1_1 ∧ v21 = .int .i64 x21_1 ∧ Aside0 (impl_gapsOn.l0 kq x1_1 x9_1 t102 (t102.length : Int) x21_1 a0_0 a0_1 a0_2 = some r) ∧ Aside0 (kq ≤ k) ∧ Aside0 (Kd.R (Kd.int .i64) 3 w' w.heap.size (fun k_ => some k_ ≠ ((.slice Ao8 t102.length co8) : Value).ownBlock) v9 x9_1) ∧ Aside0 (Kd.R (Kd.int .i64) 3 w' w.heap.size (fun k_ => some k_ ≠ (v9 : Value).ownBlock) (.slice Ao8 t102.length co8) t102) ∧ Aside0 (w'.heap[gb101]? = some (.cells #[.int .i64 a0_0, .int .i64 a0_1, .int .i64 a0_2] 34 (0, 0))) ∧ Aside0 (Below w.heap.size w w'))
  case atStart => exact ⟨(a1), (([] : List Int)), (0), (by first | rfl | (simp; done) | (simp [*]; done)), (by first | rfl | (simp; done) | (simp [*]; done)), H', ⟨Nat.le_refl _⟩, ⟨by first | exact Kd.R_nil _ _ _ _ _ | exact Kd.N_nil _ _ _ _ _ | exact Kd.V_nil _ _ _ _ _ | exact Kd.Q_nil _ _ _ _ _ | exact Kd.S_nil _ _ _ _ _⟩, ⟨by (with_reducible repeat (first | apply Kd.R_alloc | apply Kd.R_drewN | apply Kd.R_drew)); exact Kd.R_mono HO104.out (fun _ hk => (by simp [Value.ownBlock]))⟩, ⟨by (with_reducible repeat (first | refine blk_drewN ?_ _ | refine blk_drew ?_ | refine blk_alloc ?_ _)); exact BK101.out⟩, ⟨by repeat (first | (with_reducible first | exact HB.out | apply below_alloc | apply pw_below_drewN | apply below_drew1 | refine below_set ?_ GE101.out) | exact HB.out)⟩⟩
  case round =>
    clear H'; try clear c1; try clear p2; try clear hcz6_0; try clear hcz6_1; try clear hcz6_2; try clear hfz6_0; try clear hfz6_1; try clear hfz6_2
    obtain ⟨x1_1, x9_1, x21_1, rfl, rfl, HA, HK1, HO_9, HO_19, BK101, HB⟩ := hrel
    cases gk with
    | zero => exact absurd HA.out (by simp [impl_gapsOn.l0])
    | succ k1 =>
      have H := HA.out
      clear HA
      simp only [impl_gapsOn.l0] at H
      by_cases c9 : x21_1 < (t102.length : Int)
      · rw [if_pos c9] at H
        have c9b0 : decide (x21_1 < (t102.length : Int)) = true := decide_eq_true c9
        clear c9
        by_cases c10 : 0 ≤ x21_1
        · rw [if_pos c10] at H
          have c10b0 : decide (0 ≤ x21_1) = true := decide_eq_true c10
          clear c10
          by_cases c11 : x21_1 < (t102.length : Int)
          · rw [if_pos c11] at H
            have c11b0 : decide (x21_1 < (t102.length : Int)) = true := decide_eq_true c11
            clear c11
            obtain ⟨t107, A120, H⟩ := Option.bind_eq_some_iff.mp H
            (try dsimp only at H); have A12 := Aside0.mk A120; clear A120
            by_cases c13 : x9_1.length < 17592186044416
            · rw [if_pos c13] at H
              have LMc13 := Aside0.mk c13
              clear c13
              obtain ⟨y108, hy108⟩ : ∃ y_ : List Int, y_ = (x9_1 ++ [t107]) := ⟨_, rfl⟩
              replace H : ((impl_Step.f k1 a0_0 a0_1 a0_2 x1_1 (rd t102 x21_1)).bind fun t111 => (impl_gapsOn.l0 k1 t111 y108 t102 (t102.length : Int) (wrap64 (x21_1 + 1)) a0_0 a0_1 a0_2)) = some r := by first | (rw [hy108]; with_reducible exact H) | (have H2_ := (Option.bind_some _ _).symm.trans H; rw [hy108]; with_reducible exact H2_) | (have H2_ := (Option.bind_some _ _).symm.trans H; with_reducible exact H2_) | with_reducible exact H | (rw [hy108]; exact H) | exact H
              have Ny108 := Aside0.mk hy108
              clear hy108
              obtain ⟨t111, A140, H⟩ := Option.bind_eq_some_iff.mp H
              (try dsimp only at H); have A14 := Aside0.mk A140; clear A140
              have H' := Aside0.mk H
              clear H
              have p106 : 0 ≤ (x21_1 : Int) := of_decide_eq_true (by first | (with_reducible assumption) | assumption)
              have q106 : x21_1 < (t102.length : Int) := of_decide_eq_true (by first | (with_reducible assumption) | assumption)
              obtain ⟨ad106, e106, hx106_0⟩ := Kd.at_int (Kd.R_reads' HO_19.out).2.2 x21_1 p106 q106
              cases e106
              replace p106 := eq_true p106; replace q106 := eq_true q106
              obtain ⟨hcz15_0, hcz15_1, hcz15_2⟩ := kk3_ BK101.1
              have hfz15_0 := blk_frozen BK101.out 0
              have hfz15_1 := blk_frozen BK101.out 1
              have hfz15_2 := blk_frozen BK101.out 2
              go_wp2_with (first | ((with_reducible refine gate_callee (f := 108) rfl ?_); refine goesL_ (some 30) rfl rfl Try.func108 (by kernel_rfl) rfl #[.agg #[.int .i64 a0_0, .int .i64 a0_1], .int .i64 x1_1, .int .i64 (rd t102 x21_1)] rfl (by (try simp only [M3_]); first | done | rfl | (simp only [List.length_drop, List.length_take]; rfl)) ?_; (with_reducible refine (impl_GapAt.calls k1 a0_0 a0_1 x1_1 (rd t102 x21_1) t107 _ A12.out).mono ?_); rintro e w16 ⟨rfl, hb⟩; refine ⟨_, rfl, ?_⟩; have n0_ := Aside0.mk (Kd.R_below (by (with_reducible repeat (first | apply Kd.R_alloc | apply Kd.R_drewN | apply Kd.R_drew)); exact HO_9.out) hb); have n1_ := Aside0.mk (Kd.R_below (by (with_reducible repeat (first | apply Kd.R_alloc | apply Kd.R_drewN | apply Kd.R_drew)); exact HO_19.out) hb); have n2_ := Aside0.mk (blk_below (g := gb101) (o := .cells #[.int .i64 a0_0, .int .i64 a0_1, .int .i64 a0_2] 34 (0, 0)) (by (with_reducible repeat first | refine cA_ ?_ _ | refine cB_ ?_ | refine cC_ ?_ _); exact BK101.1) hb); have n3_ := Aside0.mk (below_step (by repeat first | exact HB.1 | apply bA_ | apply bB_ | apply bC_ | refine below_set ?_ GE101.out) hb); clear HO_9; clear HO_19; clear BK101; clear HB; have HO_9 := n0_; have HO_19 := n1_; have BK101 := n2_; have HB := n3_; clear n0_ n1_ n2_ n3_; (try clear hb); (try clear hb2); (try clear hk); (try clear hi)) | ((with_reducible refine gate_builtin (b := .append) (xs := #[.tmp 25, .tmp 31]) rfl ?_); at_builtin; refine Kd.R_append (Kd.int .i64) (w0 := w) w.heap.size rfl (.tmp 25) (.tmp 31) 22 3 (.int .i64 0) 8 rfl Try.underlying22 info3 rfl (by decide) (by omega) u9 x9_1 t107 [.int .i64 t107] (fun k_ => some k_ ≠ (.slice (some ad106) t102.length co8 : Value).ownBlock) (fun _ => False) rfl rfl ?aP (fun _ hk => hk.elim) ?aF ?aO ?aB ?aS ?aL ?_; (case aP => exact rfl); (case aB => exact (by repeat first | exact HB.1 | apply bA_ | apply bB_ | apply bC_ | refine below_set ?_ GE101.out)); (case aF => exact (fun k_ hk => Kd.fresh' (Kd.R_lt (by (with_reducible repeat (first | apply Kd.R_alloc | apply Kd.R_drewN | apply Kd.R_drew)); exact HO_19.out)) k_ hk)); (case aO => exact (by (with_reducible repeat (first | apply Kd.R_alloc | apply Kd.R_drewN | apply Kd.R_drew)); exact HO_9.out)); (case aS => exact (below_size (by repeat first | exact HB.1 | apply bA_ | apply bB_ | apply bC_ | refine below_set ?_ GE101.out))); (case aL => have := LMc13.out; omega); intro v109 w17 ho hb hg hat; rw [← Ny108.out] at ho; have n0_ := Aside0.mk (Kd.R_after (ok := (fun _ => True)) (by (with_reducible repeat (first | apply Kd.R_alloc | apply Kd.R_drewN | apply Kd.R_drew)); exact Kd.R_mono HO_19.out (fun _ hk => ⟨trivial, hk⟩)) hg hat); have n1_ := Aside0.mk (blk_grown (g := gb101) (o := .cells #[.int .i64 a0_0, .int .i64 a0_1, .int .i64 a0_2] 34 (0, 0)) (by (with_reducible repeat first | refine cA_ ?_ _ | refine cB_ ?_ | refine cC_ ?_ _); exact BK101.1) hg (Kd.R_ne HO_9.out BK101.out (by decide))); have n2_ := Aside0.mk (hb); have n3_ := Aside0.mk (ho); clear HO_19; clear BK101; clear HB; clear HO_9; have HO_19 := n0_; have BK101 := n1_; have HB := n2_; have HO110 := n3_; clear n0_ n1_ n2_ n3_; clear ho hb hg hat; obtain ⟨hcz18_0, hcz18_1, hcz18_2⟩ := kk3_ BK101.1; have hfz18_0 := blk_frozen BK101.out 0; have hfz18_1 := blk_frozen BK101.out 1; have hfz18_2 := blk_frozen BK101.out 2) | ((with_reducible refine gate_callee (f := 79) rfl ?_); refine goesL_ (some 36) rfl rfl Try.func79 (by kernel_rfl) rfl #[.agg #[.int .i64 a0_0, .int .i64 a0_1, .int .i64 a0_2], .int .i64 x1_1, .int .i64 (rd t102 x21_1)] rfl (by (try simp only [M3_]); first | done | rfl | (simp only [List.length_drop, List.length_take]; rfl)) ?_; (with_reducible refine (impl_Step.calls k1 a0_0 a0_1 a0_2 x1_1 (rd t102 x21_1) t111 _ A14.out).mono ?_); rintro e w19 ⟨rfl, hb⟩; refine ⟨_, rfl, ?_⟩; have n0_ := Aside0.mk (Kd.R_below (by (with_reducible repeat (first | apply Kd.R_alloc | apply Kd.R_drewN | apply Kd.R_drew)); exact HO_19.out) hb); have n1_ := Aside0.mk (Kd.R_below (by (with_reducible repeat (first | apply Kd.R_alloc | apply Kd.R_drewN | apply Kd.R_drew)); exact HO110.out) hb); have n2_ := Aside0.mk (blk_below (g := gb101) (o := .cells #[.int .i64 a0_0, .int .i64 a0_1, .int .i64 a0_2] 34 (0, 0)) (by (with_reducible repeat first | refine cA_ ?_ _ | refine cB_ ?_ | refine cC_ ?_ _); exact BK101.1) hb); have n3_ := Aside0.mk (below_step (by repeat first | exact HB.1 | apply bA_ | apply bB_ | apply bC_ | refine below_set ?_ GE101.out) hb); clear HO_19; clear HO110; clear BK101; clear HB; have HO_19 := n0_; have HO110 := n1_; have BK101 := n2_; have HB := n3_; clear n0_ n1_ n2_ n3_; (try clear hb); (try clear hb2); (try clear hk); (try clear hi)))
              go_roundg k1
              case measure => have := HK1.out; omega
              case rel => exact ⟨(t111), (y108), (wrap64 (x21_1 + 1)), (by first | rfl | (simp; done) | (simp [*]; done)), (by first | rfl | (simp; done) | (simp [*]; done)), H', ⟨by have := HK1.out; omega⟩, ⟨by (with_reducible repeat (first | apply Kd.R_alloc | apply Kd.R_drewN | apply Kd.R_drew)); exact HO110.out⟩, ⟨by (with_reducible repeat (first | apply Kd.R_alloc | apply Kd.R_drewN | apply Kd.R_drew)); exact Kd.R_mono HO_19.out (fun _ hk => hk.2)⟩, ⟨by (with_reducible repeat (first | refine blk_drewN ?_ _ | refine blk_drew ?_ | refine blk_alloc ?_ _)); exact BK101.out⟩, ⟨by repeat (first | (with_reducible first | exact HB.out | apply below_alloc | apply pw_below_drewN | apply below_drew1 | refine below_set ?_ GE101.out) | exact HB.out)⟩⟩
            · rw [if_neg c13] at H
              exact absurd H (by simp)
          · rw [if_neg c11] at H
            exact absurd H (by simp)
        · rw [if_neg c10] at H
          exact absurd H (by simp)
      · rw [if_neg c9] at H
        have c9b0 : decide (x21_1 < (t102.length : Int)) = false := decide_eq_false c9
        clear c9
        obtain rfl := Option.some.inj H
        go_wp2
        go_ret
        exact ⟨_, by first | rfl | (simp [errW_none, errW_some] <;> rfl) | (simp [*, errW_none, errW_some] <;> rfl), by (with_reducible repeat (first | apply Kd.R_alloc | apply Kd.R_drewN | apply Kd.R_drew)); exact Kd.R_mono HO_9.out (fun _ hk => trivial), by repeat (first | (with_reducible first | exact HB.out | apply below_alloc | apply pw_below_drewN | apply below_drew1 | refine below_set ?_ GE101.out) | exact HB.out)⟩

/-! ### impl_LoopGaps: function 51 -/
def impl_LoopGaps.j0 : Nat → Int → Bool → Int → Int → Int → Option (List Int)
  | 0, _, _, _, _, _ => none
  | k + 1, x1, x21, x102000, x102001, x102002 => if x21 = true then (some ([] : List Int)) else ((impl_EndsOf.f x102000 x102001 x1).bind fun bt105 => ((impl_gapsOn.f k x102000 x102001 x102002 bt105.1 bt105.2).bind fun t107 => ((impl_ordered.f t107).bind fun t110 => (some t110))))
def impl_LoopGaps.f (k : Nat) (a0_0 : Int) (a0_1 : Int) (a0_2 : Int) (a1 : Int) : Option (List Int) := (impl_IsPerfect.f k a0_0 a0_1 a0_2).bind fun t102 => (if t102 = true then ((impl_isGap.f a0_0 a0_1 a1).bind fun t103 => (if t103 = true then ((impl_isOpen.f a0_0 a0_1 a0_2 a1).bind fun t104 => (impl_LoopGaps.j0 k a1 t104 a0_0 a0_1 a0_2)) else (impl_LoopGaps.j0 k a1 true a0_0 a0_1 a0_2))) else (impl_LoopGaps.j0 k a1 true a0_0 a0_1 a0_2))
set_option maxHeartbeats 8000000 in
set_option maxRecDepth 100000 in
theorem impl_LoopGaps.calls (k : Nat) (a0_0 : Int) (a0_1 : Int) (a0_2 : Int) (a1 : Int) (r : List Int) (w : World) (h : impl_LoopGaps.f k a0_0 a0_1 a0_2 a1 = some r) :
    Calls Try.prog 51 #[.agg #[.int .i64 a0_0, .int .i64 a0_1, .int .i64 a0_2], .int .i64 a1] w fun e w' => ∃ v0_ : Value, e = .returned (v0_) ∧ Kd.R (Kd.int .i64) 3 w' w.heap.size (fun _ => True) v0_ r ∧ Below w.heap.size w w' := by
  have hu34 := Try.underlying34
  have hu32 := Try.underlying32
  have HB := Aside0.mk (Below.refl w.heap.size w)
  have H : ((impl_IsPerfect.f k a0_0 a0_1 a0_2).bind fun t102 => (if t102 = true then ((impl_isGap.f a0_0 a0_1 a1).bind fun t103 => (if t103 = true then ((impl_isOpen.f a0_0 a0_1 a0_2 a1).bind fun t104 => (impl_LoopGaps.j0 k a1 t104 a0_0 a0_1 a0_2)) else (impl_LoopGaps.j0 k a1 true a0_0 a0_1 a0_2))) else (impl_LoopGaps.j0 k a1 true a0_0 a0_1 a0_2))) = some r := h
  clear h
  have HC3 := Aside0.mk H
  clear H
  go_enter Try.func51, Try.ntmps51
  go_upto_region 1 with (first | ((with_reducible refine gate_dst (N := 2) rfl ?_); refine box_event ?hg (N := 2) ?hd (cs := #[.int .i64 a0_0, .int .i64 a0_1, .int .i64 a0_2]) (t := 34) ?hr ?_; (case hd => rfl); (case hg => rfl); (case hr => first | (go_simp; done) | (go_simp; rfl)); intro gb101 hg w4 hbox hb; have n0_ := Aside0.mk (below_step (by repeat first | exact HB.1 | apply bA_ | apply bB_ | apply bC_) hb); have n1_ := Aside0.mk (hbox); have n2_ := Aside0.mk ((by rw [hg]; exact (below_size (by repeat first | exact HB.1 | apply bA_ | apply bB_ | apply bC_)) : w.heap.size ≤ gb101)); have n3_ := n2_; clear HB; have HB := n0_; have BK101 := n1_; have GW101 := n2_; have GE101 := n3_; clear n0_ n1_ n2_ n3_; clear hb hbox hg))
  (try simp only [Act.put, List.setIfInBounds_toArray, List.set_cons_zero, List.set_cons_succ])
  go_cut [21] (fun v21 wc => ∃ (kq : Nat) (x21_2 : Bool), v21 = .bool x21_2 ∧ Aside0 (impl_LoopGaps.j0 kq a1 x21_2 a0_0 a0_1 a0_2 = some r) ∧ Aside0 (kq ≤ k) ∧ Aside0 (wc.heap[gb101]? = some (.cells #[.int .i64 a0_0, .int .i64 a0_1, .int .i64 a0_2] 34 (0, 0))) ∧ Aside0 (Below w.heap.size w wc))
  case first =>
    have H := HC3.out
    clear HC3
    obtain ⟨t102, A50, H⟩ := Option.bind_eq_some_iff.mp H
    (try dsimp only at H); have A5 := Aside0.mk A50; clear A50
    by_cases c6 : t102 = true
    · subst c6
      rw [if_pos rfl] at H
      obtain ⟨t103, A70, H⟩ := Option.bind_eq_some_iff.mp H
      (try dsimp only at H); have A7 := Aside0.mk A70; clear A70
      by_cases c8 : t103 = true
      · subst c8
        rw [if_pos rfl] at H
        obtain ⟨t104, A90, H⟩ := Option.bind_eq_some_iff.mp H
        (try dsimp only at H); have A9 := Aside0.mk A90; clear A90
        have H' := Aside0.mk H
        clear H
        obtain ⟨hcz10_0, hcz10_1, hcz10_2⟩ := kk3_ BK101.1
        have hfz10_0 := blk_frozen BK101.out 0
        have hfz10_1 := blk_frozen BK101.out 1
        have hfz10_2 := blk_frozen BK101.out 2
        go_wp2_with (first | ((with_reducible refine gate_callee (f := 73) rfl ?_); refine goesL_ (some 8) rfl rfl Try.func73 (by kernel_rfl) rfl #[.agg #[.int .i64 a0_0, .int .i64 a0_1, .int .i64 a0_2]] rfl (by (try simp only [M3_]); first | done | rfl | (simp only [List.length_drop, List.length_take]; rfl)) ?_; (with_reducible refine (impl_IsPerfect.calls k a0_0 a0_1 a0_2 true _ A5.out).mono ?_); rintro e w11 ⟨rfl, hb⟩; refine ⟨_, rfl, ?_⟩; have n0_ := Aside0.mk (blk_below (g := gb101) (o := .cells #[.int .i64 a0_0, .int .i64 a0_1, .int .i64 a0_2] 34 (0, 0)) (by (with_reducible repeat first | refine cA_ ?_ _ | refine cB_ ?_ | refine cC_ ?_ _); exact BK101.1) hb); have n1_ := Aside0.mk (below_step (by repeat first | exact HB.1 | apply bA_ | apply bB_ | apply bC_ | refine below_set ?_ GE101.out) hb); clear BK101; clear HB; have BK101 := n0_; have HB := n1_; clear n0_ n1_; (try clear hb); (try clear hb2); (try clear hk); (try clear hi); obtain ⟨hcz12_0, hcz12_1, hcz12_2⟩ := kk3_ BK101.1; have hfz12_0 := blk_frozen BK101.out 0; have hfz12_1 := blk_frozen BK101.out 1; have hfz12_2 := blk_frozen BK101.out 2) | (go_at_call 100; (with_reducible refine (impl_isGap.calls a0_0 a0_1 a1 true _ A7.out).mono ?_); rintro e w13 ⟨rfl, hb⟩; have n0_ := Aside0.mk (blk_below (g := gb101) (o := .cells #[.int .i64 a0_0, .int .i64 a0_1, .int .i64 a0_2] 34 (0, 0)) (by (with_reducible repeat first | refine cA_ ?_ _ | refine cB_ ?_ | refine cC_ ?_ _); exact BK101.1) hb); have n1_ := Aside0.mk (below_step (by repeat first | exact HB.1 | apply bA_ | apply bB_ | apply bC_ | refine below_set ?_ GE101.out) hb); clear BK101; clear HB; have BK101 := n0_; have HB := n1_; clear n0_ n1_; (try clear hb); (try clear hb2); (try clear hk); (try clear hi); obtain ⟨hcz14_0, hcz14_1, hcz14_2⟩ := kk3_ BK101.1; have hfz14_0 := blk_frozen BK101.out 0; have hfz14_1 := blk_frozen BK101.out 1; have hfz14_2 := blk_frozen BK101.out 2) | (go_at_call 101; (with_reducible refine (impl_isOpen.calls a0_0 a0_1 a0_2 a1 t104 _ A9.out).mono ?_); rintro e w15 ⟨rfl, hb⟩; have n0_ := Aside0.mk (blk_below (g := gb101) (o := .cells #[.int .i64 a0_0, .int .i64 a0_1, .int .i64 a0_2] 34 (0, 0)) (by (with_reducible repeat first | refine cA_ ?_ _ | refine cB_ ?_ | refine cC_ ?_ _); exact BK101.1) hb); have n1_ := Aside0.mk (below_step (by repeat first | exact HB.1 | apply bA_ | apply bB_ | apply bC_ | refine below_set ?_ GE101.out) hb); clear BK101; clear HB; have BK101 := n0_; have HB := n1_; clear n0_ n1_; (try clear hb); (try clear hb2); (try clear hk); (try clear hi)))
        go_meet
        case rel => exact ⟨_, (t104), (by first | rfl | (simp; done) | (simp [*]; done)), H', ⟨by first | omega | exact Nat.le_refl _⟩, ⟨by (with_reducible repeat (first | refine blk_drewN ?_ _ | refine blk_drew ?_ | refine blk_alloc ?_ _)); exact BK101.out⟩, ⟨by repeat (first | (with_reducible first | exact HB.out | apply below_alloc | apply pw_below_drewN | apply below_drew1 | refine below_set ?_ GE101.out) | exact HB.out)⟩⟩
      · replace c8 := Bool.eq_false_iff.mpr c8
        subst c8
        have H1 : (impl_LoopGaps.j0 k a1 true a0_0 a0_1 a0_2) = some r := by rw [if_neg (show ¬ (false = true) by decide)] at H; exact H
        clear H
        have H := H1
        clear H1
        have H' := Aside0.mk H
        clear H
        obtain ⟨hcz16_0, hcz16_1, hcz16_2⟩ := kk3_ BK101.1
        have hfz16_0 := blk_frozen BK101.out 0
        have hfz16_1 := blk_frozen BK101.out 1
        have hfz16_2 := blk_frozen BK101.out 2
        go_wp2_with (first | ((with_reducible refine gate_callee (f := 73) rfl ?_); refine goesL_ (some 8) rfl rfl Try.func73 (by kernel_rfl) rfl #[.agg #[.int .i64 a0_0, .int .i64 a0_1, .int .i64 a0_2]] rfl (by (try simp only [M3_]); first | done | rfl | (simp only [List.length_drop, List.length_take]; rfl)) ?_; (with_reducible refine (impl_IsPerfect.calls k a0_0 a0_1 a0_2 true _ A5.out).mono ?_); rintro e w17 ⟨rfl, hb⟩; refine ⟨_, rfl, ?_⟩; have n0_ := Aside0.mk (blk_below (g := gb101) (o := .cells #[.int .i64 a0_0, .int .i64 a0_1, .int .i64 a0_2] 34 (0, 0)) (by (with_reducible repeat first | refine cA_ ?_ _ | refine cB_ ?_ | refine cC_ ?_ _); exact BK101.1) hb); have n1_ := Aside0.mk (below_step (by repeat first | exact HB.1 | apply bA_ | apply bB_ | apply bC_ | refine below_set ?_ GE101.out) hb); clear BK101; clear HB; have BK101 := n0_; have HB := n1_; clear n0_ n1_; (try clear hb); (try clear hb2); (try clear hk); (try clear hi); obtain ⟨hcz18_0, hcz18_1, hcz18_2⟩ := kk3_ BK101.1; have hfz18_0 := blk_frozen BK101.out 0; have hfz18_1 := blk_frozen BK101.out 1; have hfz18_2 := blk_frozen BK101.out 2) | (go_at_call 100; (with_reducible refine (impl_isGap.calls a0_0 a0_1 a1 false _ A7.out).mono ?_); rintro e w19 ⟨rfl, hb⟩; have n0_ := Aside0.mk (blk_below (g := gb101) (o := .cells #[.int .i64 a0_0, .int .i64 a0_1, .int .i64 a0_2] 34 (0, 0)) (by (with_reducible repeat first | refine cA_ ?_ _ | refine cB_ ?_ | refine cC_ ?_ _); exact BK101.1) hb); have n1_ := Aside0.mk (below_step (by repeat first | exact HB.1 | apply bA_ | apply bB_ | apply bC_ | refine below_set ?_ GE101.out) hb); clear BK101; clear HB; have BK101 := n0_; have HB := n1_; clear n0_ n1_; (try clear hb); (try clear hb2); (try clear hk); (try clear hi)))
        go_meet
        case rel => exact ⟨_, (true), (by first | rfl | (simp; done) | (simp [*]; done)), H', ⟨by first | omega | exact Nat.le_refl _⟩, ⟨by (with_reducible repeat (first | refine blk_drewN ?_ _ | refine blk_drew ?_ | refine blk_alloc ?_ _)); exact BK101.out⟩, ⟨by repeat (first | (with_reducible first | exact HB.out | apply below_alloc | apply pw_below_drewN | apply below_drew1 | refine below_set ?_ GE101.out) | exact HB.out)⟩⟩
    · replace c6 := Bool.eq_false_iff.mpr c6
      subst c6
      have H1 : (impl_LoopGaps.j0 k a1 true a0_0 a0_1 a0_2) = some r := by rw [if_neg (show ¬ (false = true) by decide)] at H; exact H
      clear H
      have H := H1
      clear H1
      have H' := Aside0.mk H
      clear H
      obtain ⟨hcz20_0, hcz20_1, hcz20_2⟩ := kk3_ BK101.1
      have hfz20_0 := blk_frozen BK101.out 0
      have hfz20_1 := blk_frozen BK101.out 1
      have hfz20_2 := blk_frozen BK101.out 2
      go_wp2_with (first | ((with_reducible refine gate_callee (f := 73) rfl ?_); refine goesL_ (some 8) rfl rfl Try.func73 (by kernel_rfl) rfl #[.agg #[.int .i64 a0_0, .int .i64 a0_1, .int .i64 a0_2]] rfl (by (try simp only [M3_]); first | done | rfl | (simp only [List.length_drop, List.length_take]; rfl)) ?_; (with_reducible refine (impl_IsPerfect.calls k a0_0 a0_1 a0_2 false _ A5.out).mono ?_); rintro e w21 ⟨rfl, hb⟩; refine ⟨_, rfl, ?_⟩; have n0_ := Aside0.mk (blk_below (g := gb101) (o := .cells #[.int .i64 a0_0, .int .i64 a0_1, .int .i64 a0_2] 34 (0, 0)) (by (with_reducible repeat first | refine cA_ ?_ _ | refine cB_ ?_ | refine cC_ ?_ _); exact BK101.1) hb); have n1_ := Aside0.mk (below_step (by repeat first | exact HB.1 | apply bA_ | apply bB_ | apply bC_ | refine below_set ?_ GE101.out) hb); clear BK101; clear HB; have BK101 := n0_; have HB := n1_; clear n0_ n1_; (try clear hb); (try clear hb2); (try clear hk); (try clear hi)))
      go_meet
      case rel => exact ⟨_, (true), (by first | rfl | (simp; done) | (simp [*]; done)), H', ⟨by first | omega | exact Nat.le_refl _⟩, ⟨by (with_reducible repeat (first | refine blk_drewN ?_ _ | refine blk_drew ?_ | refine blk_alloc ?_ _)); exact BK101.out⟩, ⟨by repeat (first | (with_reducible first | exact HB.out | apply below_alloc | apply pw_below_drewN | apply below_drew1 | refine below_set ?_ GE101.out) | exact HB.out)⟩⟩
  case rest =>
    clear HC3; try clear p2; try clear c5; try clear c6; try clear c7; try clear c8; try clear hcz10_0; try clear hcz10_1; try clear hcz10_2; try clear hcz12_0; try clear hcz12_1; try clear hcz12_2; try clear hcz14_0; try clear hcz14_1; try clear hcz14_2; try clear hcz16_0; try clear hcz16_1; try clear hcz16_2; try clear hcz18_0; try clear hcz18_1; try clear hcz18_2; try clear hcz20_0; try clear hcz20_1; try clear hcz20_2; try clear hfz10_0; try clear hfz10_1; try clear hfz10_2; try clear hfz12_0; try clear hfz12_1; try clear hfz12_2; try clear hfz14_0; try clear hfz14_1; try clear hfz14_2; try clear hfz16_0; try clear hfz16_1; try clear hfz16_2; try clear hfz18_0; try clear hfz18_1; try clear hfz18_2; try clear hfz20_0; try clear hfz20_1; try clear hfz20_2
    obtain ⟨kq, x21_2, rfl, HA, HJ2, BK101, HB⟩ := hcut
    cases kq with
    | zero => exact absurd HA.out (by simp [impl_LoopGaps.j0])
    | succ kj2 =>
      have H := HA.out
      clear HA
      simp only [impl_LoopGaps.j0] at H
      by_cases c22 : x21_2 = true
      · subst c22
        rw [if_pos rfl] at H
        obtain rfl := Option.some.inj H
        go_wp2
        go_ret
        exact ⟨_, by first | rfl | (simp [errW_none, errW_some] <;> rfl) | (simp [*, errW_none, errW_some] <;> rfl), by first | exact Kd.R_nil _ _ _ _ _ | exact Kd.N_nil _ _ _ _ _ | exact Kd.V_nil _ _ _ _ _ | exact Kd.Q_nil _ _ _ _ _ | exact Kd.S_nil _ _ _ _ _, by repeat (first | (with_reducible first | exact HB.out | apply below_alloc | apply pw_below_drewN | apply below_drew1 | refine below_set ?_ GE101.out) | exact HB.out)⟩
      · replace c22 := Bool.eq_false_iff.mpr c22
        subst c22
        have H1 : ((impl_EndsOf.f a0_0 a0_1 a1).bind fun bt105 => ((impl_gapsOn.f kj2 a0_0 a0_1 a0_2 bt105.1 bt105.2).bind fun t107 => ((impl_ordered.f t107).bind fun t110 => (some t110)))) = some r := by rw [if_neg (show ¬ (false = true) by decide)] at H; exact H
        clear H
        have H := H1
        clear H1
        obtain ⟨⟨t105, t106⟩, A230, H⟩ := Option.bind_eq_some_iff.mp H
        (try dsimp only at H); have A23 := Aside0.mk A230; clear A230
        obtain ⟨t107, A240, H⟩ := Option.bind_eq_some_iff.mp H
        (try dsimp only at H); have A24 := Aside0.mk A240; clear A240
        obtain ⟨t110, A250, H⟩ := Option.bind_eq_some_iff.mp H
        (try dsimp only at H); have A25 := Aside0.mk A250; clear A250
        obtain rfl := Option.some.inj H
        obtain ⟨hcz26_0, hcz26_1, hcz26_2⟩ := kk3_ BK101.1
        have hfz26_0 := blk_frozen BK101.out 0
        have hfz26_1 := blk_frozen BK101.out 1
        have hfz26_2 := blk_frozen BK101.out 2
        go_wp2_with (first | ((with_reducible refine gate_callee (f := 102) rfl ?_); refine goesL_ (some 26) rfl rfl Try.func102 (by kernel_rfl) rfl #[.agg #[.int .i64 a0_0, .int .i64 a0_1], .int .i64 a1] rfl (by (try simp only [M3_]); first | done | rfl | (simp only [List.length_drop, List.length_take]; rfl)) ?_; (with_reducible refine (impl_EndsOf.calls a0_0 a0_1 a1 t105 t106 _ A23.out).mono ?_); rintro e w27 ⟨rfl, hb⟩; refine ⟨_, rfl, ?_⟩; have n0_ := Aside0.mk (blk_below (g := gb101) (o := .cells #[.int .i64 a0_0, .int .i64 a0_1, .int .i64 a0_2] 34 (0, 0)) (by (with_reducible repeat first | refine cA_ ?_ _ | refine cB_ ?_ | refine cC_ ?_ _); exact BK101.1) hb); have n1_ := Aside0.mk (below_step (by repeat first | exact HB.1 | apply bA_ | apply bB_ | apply bC_ | refine below_set ?_ GE101.out) hb); clear BK101; clear HB; have BK101 := n0_; have HB := n1_; clear n0_ n1_; (try clear hb); (try clear hb2); (try clear hk); (try clear hi); obtain ⟨hcz28_0, hcz28_1, hcz28_2⟩ := kk3_ BK101.1; have hfz28_0 := blk_frozen BK101.out 0; have hfz28_1 := blk_frozen BK101.out 1; have hfz28_2 := blk_frozen BK101.out 2) | ((with_reducible refine gate_callee (f := 103) rfl ?_); refine goesL_ (some 32) rfl rfl Try.func103 (by kernel_rfl) rfl #[.agg #[.int .i64 a0_0, .int .i64 a0_1, .int .i64 a0_2], .int .i64 t105, .int .i64 t106] rfl (by (try simp only [M3_]); first | done | rfl | (simp only [List.length_drop, List.length_take]; rfl)) ?_; (with_reducible refine (impl_gapsOn.calls kj2 a0_0 a0_1 a0_2 t105 t106 t107 _ A24.out).mono ?_); rintro e w29 ⟨v108, rfl, ho0, hb⟩; refine ⟨_, rfl, ?_⟩; have n0_ := Aside0.mk (Kd.R_lower ho0 (below_size (by repeat first | exact HB.1 | apply bA_ | apply bB_ | apply bC_ | refine below_set ?_ GE101.out))); have n1_ := Aside0.mk (blk_below (g := gb101) (o := .cells #[.int .i64 a0_0, .int .i64 a0_1, .int .i64 a0_2] 34 (0, 0)) (by (with_reducible repeat first | refine cA_ ?_ _ | refine cB_ ?_ | refine cC_ ?_ _); exact BK101.1) hb); have n2_ := Aside0.mk (below_step (by repeat first | exact HB.1 | apply bA_ | apply bB_ | apply bC_ | refine below_set ?_ GE101.out) hb); clear BK101; clear HB; have HO109 := n0_; have BK101 := n1_; have HB := n2_; clear n0_ n1_ n2_; (try clear hb); (try clear hb2); (try clear hk); (try clear hi); (try clear ho0); obtain ⟨Ao30, co30, eo30⟩ := Kd.R_slice HO109.out; subst eo30) | ((with_reducible refine gate_callee (f := 63) rfl ?_); refine goesL_ (some 33) rfl rfl Try.func63 (by kernel_rfl) rfl #[.slice Ao30 t107.length co30] rfl (by (try simp only [M3_]); first | done | rfl | (simp only [List.length_drop, List.length_take]; rfl)) ?_; (refine (impl_ordered.callsO _ _ t107 t110 _ (below_size (by repeat first | exact HB.1 | apply bA_ | apply bB_ | apply bC_ | refine below_set ?_ GE101.out)) (Kd.R_mono HO109.out (fun _ _ => trivial)) A25.out).mono ?_); rintro e w31 ⟨v111, rfl, ho0, hbD⟩; refine ⟨_, rfl, ?_⟩; have n0_ := Aside0.mk ho0; have n1_ := Aside0.mk (Below.trans (a := w) ((by repeat first | exact HB.1 | apply bA_ | apply bB_ | apply bC_ | refine below_set ?_ GE101.out)) hbD); clear HO109 HB ho0 hbD; have HO112 := n0_; have HB := n1_; clear n0_ n1_))
        go_ret
        exact ⟨_, by first | rfl | (simp [errW_none, errW_some] <;> rfl) | (simp [*, errW_none, errW_some] <;> rfl), by (with_reducible repeat (first | apply Kd.R_alloc | apply Kd.R_drewN | apply Kd.R_drew)); exact Kd.R_mono HO112.out (fun _ hk => trivial), by repeat (first | (with_reducible first | exact HB.out | apply below_alloc | apply pw_below_drewN | apply below_drew1 | refine below_set ?_ GE101.out) | exact HB.out)⟩

/-! ### impl_CountSwaps: function 49 -/
def impl_CountSwaps.l0 : Nat → Int → Int → Int → Int → Int → Option (Int)
  | 0, _, _, _, _, _ => none
  | k + 1, x3, x4, x102000, x102001, x102002 => (impl_CountGaps.f x102000 x102001).bind fun t102 => (if x4 < t102 then ((impl_LoopGaps.f k x102000 x102001 x102002 x4).bind fun t103 => (impl_CountSwaps.l0 k (wrap64 (x3 + (t103.length : Int))) (wrap64 (x4 + 1)) x102000 x102001 x102002)) else (some x3))
def impl_CountSwaps.f (k : Nat) (a0_0 : Int) (a0_1 : Int) (a0_2 : Int) : Option (Int) := impl_CountSwaps.l0 k 0 0 a0_0 a0_1 a0_2
set_option maxHeartbeats 8000000 in
set_option maxRecDepth 100000 in
theorem impl_CountSwaps.calls (k : Nat) (a0_0 : Int) (a0_1 : Int) (a0_2 : Int) (r : Int) (w : World) (h : impl_CountSwaps.f k a0_0 a0_1 a0_2 = some r) :
    Calls Try.prog 49 #[.agg #[.int .i64 a0_0, .int .i64 a0_1, .int .i64 a0_2]] w fun e w' => e = .returned (.int .i64 r) ∧ Below w.heap.size w w' := by
  have hu34 := Try.underlying34
  have hu32 := Try.underlying32
  have HB := Aside0.mk (Below.refl w.heap.size w)
  have H : (impl_CountSwaps.l0 k 0 0 a0_0 a0_1 a0_2) = some r := h
  clear h
  have H' := Aside0.mk H
  clear H
  go_enter Try.func49, Try.ntmps49
  go_wp2_with (first | ((with_reducible refine gate_dst (N := 1) rfl ?_); refine box_event ?hg (N := 1) ?hd (cs := #[.int .i64 a0_0, .int .i64 a0_1, .int .i64 a0_2]) (t := 34) ?hr ?_; (case hd => rfl); (case hg => rfl); (case hr => first | (go_simp; done) | (go_simp; rfl)); intro gb101 hg w2 hbox hb; have n0_ := Aside0.mk (below_step (by repeat first | exact HB.1 | apply bA_ | apply bB_ | apply bC_) hb); have n1_ := Aside0.mk (hbox); have n2_ := Aside0.mk ((by rw [hg]; exact (below_size (by repeat first | exact HB.1 | apply bA_ | apply bB_ | apply bC_)) : w.heap.size ≤ gb101)); have n3_ := n2_; clear HB; have HB := n0_; have BK101 := n1_; have GW101 := n2_; have GE101 := n3_; clear n0_ n1_ n2_ n3_; clear hb hbox hg))
  go_loopg [3, 4] k (fun kq v3 v4 w' => ∃ (x3_1 : Int) (x4_1 : Int), v3 = .int .i64 x3_1 ∧ v4 = .int .i64 x4_1 ∧ Aside0 (impl_CountSwaps.l0 kq x3_1 x4_1 a0_0 a0_1 a0_2 = some r) ∧ Aside0 (kq ≤ k) ∧ Aside0 (w'.heap[gb101]? = some (.cells #[.int .i64 a0_0, .int .i64 a0_1, .int .i64 a0_2] 34 (0, 0))) ∧ Aside0 (Below w.heap.size w w'))
  case atStart => exact ⟨(0), (0), (by first | rfl | (simp; done) | (simp [*]; done)), (by first | rfl | (simp; done) | (simp [*]; done)), H', ⟨Nat.le_refl _⟩, ⟨by (with_reducible repeat (first | refine blk_drewN ?_ _ | refine blk_drew ?_ | refine blk_alloc ?_ _)); exact BK101.out⟩, ⟨by repeat (first | (with_reducible first | exact HB.out | apply below_alloc | apply pw_below_drewN | apply below_drew1 | refine below_set ?_ GE101.out) | exact HB.out)⟩⟩
  case round =>
    clear H'; try clear p2
    obtain ⟨x3_1, x4_1, rfl, rfl, HA, HK1, BK101, HB⟩ := hrel
    cases gk with
    | zero => exact absurd HA.out (by simp [impl_CountSwaps.l0])
    | succ k1 =>
      have H := HA.out
      clear HA
      simp only [impl_CountSwaps.l0] at H
      obtain ⟨t102, A30, H⟩ := Option.bind_eq_some_iff.mp H
      (try dsimp only at H); have A3 := Aside0.mk A30; clear A30
      by_cases c4 : x4_1 < t102
      · rw [if_pos c4] at H
        have c4b0 : decide (x4_1 < t102) = true := decide_eq_true c4
        clear c4
        obtain ⟨t103, A50, H⟩ := Option.bind_eq_some_iff.mp H
        (try dsimp only at H); have A5 := Aside0.mk A50; clear A50
        have H' := Aside0.mk H
        clear H
        obtain ⟨hcz6_0, hcz6_1, hcz6_2⟩ := kk3_ BK101.1
        have hfz6_0 := blk_frozen BK101.out 0
        have hfz6_1 := blk_frozen BK101.out 1
        have hfz6_2 := blk_frozen BK101.out 2
        go_wp2_with (first | ((with_reducible refine gate_callee (f := 94) rfl ?_); refine goesL_ (some 8) rfl rfl Try.func94 (by kernel_rfl) rfl #[.agg #[.int .i64 a0_0, .int .i64 a0_1]] rfl (by (try simp only [M3_]); first | done | rfl | (simp only [List.length_drop, List.length_take]; rfl)) ?_; (with_reducible refine (impl_CountGaps.calls a0_0 a0_1 t102 _ A3.out).mono ?_); rintro e w7 ⟨rfl, hb⟩; refine ⟨_, rfl, ?_⟩; have n0_ := Aside0.mk (blk_below (g := gb101) (o := .cells #[.int .i64 a0_0, .int .i64 a0_1, .int .i64 a0_2] 34 (0, 0)) (by (with_reducible repeat first | refine cA_ ?_ _ | refine cB_ ?_ | refine cC_ ?_ _); exact BK101.1) hb); have n1_ := Aside0.mk (below_step (by repeat first | exact HB.1 | apply bA_ | apply bB_ | apply bC_ | refine below_set ?_ GE101.out) hb); clear BK101; clear HB; have BK101 := n0_; have HB := n1_; clear n0_ n1_; (try clear hb); (try clear hb2); (try clear hk); (try clear hi); obtain ⟨hcz8_0, hcz8_1, hcz8_2⟩ := kk3_ BK101.1; have hfz8_0 := blk_frozen BK101.out 0; have hfz8_1 := blk_frozen BK101.out 1; have hfz8_2 := blk_frozen BK101.out 2) | ((with_reducible refine gate_callee (f := 51) rfl ?_); refine goesL_ (some 15) rfl rfl Try.func51 (by kernel_rfl) rfl #[.agg #[.int .i64 a0_0, .int .i64 a0_1, .int .i64 a0_2], .int .i64 x4_1] rfl (by (try simp only [M3_]); first | done | rfl | (simp only [List.length_drop, List.length_take]; rfl)) ?_; (with_reducible refine (impl_LoopGaps.calls k1 a0_0 a0_1 a0_2 x4_1 t103 _ A5.out).mono ?_); rintro e w9 ⟨v104, rfl, ho0, hb⟩; refine ⟨_, rfl, ?_⟩; have n0_ := Aside0.mk (Kd.R_lower ho0 (below_size (by repeat first | exact HB.1 | apply bA_ | apply bB_ | apply bC_ | refine below_set ?_ GE101.out))); have n1_ := Aside0.mk (blk_below (g := gb101) (o := .cells #[.int .i64 a0_0, .int .i64 a0_1, .int .i64 a0_2] 34 (0, 0)) (by (with_reducible repeat first | refine cA_ ?_ _ | refine cB_ ?_ | refine cC_ ?_ _); exact BK101.1) hb); have n2_ := Aside0.mk (below_step (by repeat first | exact HB.1 | apply bA_ | apply bB_ | apply bC_ | refine below_set ?_ GE101.out) hb); clear BK101; clear HB; have HO105 := n0_; have BK101 := n1_; have HB := n2_; clear n0_ n1_ n2_; (try clear hb); (try clear hb2); (try clear hk); (try clear hi); (try clear ho0); obtain ⟨Ao10, co10, eo10⟩ := Kd.R_slice HO105.out; subst eo10))
        go_roundg k1
        case measure => have := HK1.out; omega
        case rel => exact ⟨(wrap64 (x3_1 + (t103.length : Int))), (wrap64 (x4_1 + 1)), (by first | rfl | (simp; done) | (simp [*]; done)), (by first | rfl | (simp; done) | (simp [*]; done)), H', ⟨by have := HK1.out; omega⟩, ⟨by (with_reducible repeat (first | refine blk_drewN ?_ _ | refine blk_drew ?_ | refine blk_alloc ?_ _)); exact BK101.out⟩, ⟨by repeat (first | (with_reducible first | exact HB.out | apply below_alloc | apply pw_below_drewN | apply below_drew1 | refine below_set ?_ GE101.out) | exact HB.out)⟩⟩
      · rw [if_neg c4] at H
        have c4b0 : decide (x4_1 < t102) = false := decide_eq_false c4
        clear c4
        obtain rfl := Option.some.inj H
        obtain ⟨hcz11_0, hcz11_1, hcz11_2⟩ := kk3_ BK101.1
        have hfz11_0 := blk_frozen BK101.out 0
        have hfz11_1 := blk_frozen BK101.out 1
        have hfz11_2 := blk_frozen BK101.out 2
        go_wp2_with (first | ((with_reducible refine gate_callee (f := 94) rfl ?_); refine goesL_ (some 8) rfl rfl Try.func94 (by kernel_rfl) rfl #[.agg #[.int .i64 a0_0, .int .i64 a0_1]] rfl (by (try simp only [M3_]); first | done | rfl | (simp only [List.length_drop, List.length_take]; rfl)) ?_; (with_reducible refine (impl_CountGaps.calls a0_0 a0_1 t102 _ A3.out).mono ?_); rintro e w12 ⟨rfl, hb⟩; refine ⟨_, rfl, ?_⟩; have n0_ := Aside0.mk (blk_below (g := gb101) (o := .cells #[.int .i64 a0_0, .int .i64 a0_1, .int .i64 a0_2] 34 (0, 0)) (by (with_reducible repeat first | refine cA_ ?_ _ | refine cB_ ?_ | refine cC_ ?_ _); exact BK101.1) hb); have n1_ := Aside0.mk (below_step (by repeat first | exact HB.1 | apply bA_ | apply bB_ | apply bC_ | refine below_set ?_ GE101.out) hb); clear BK101; clear HB; have BK101 := n0_; have HB := n1_; clear n0_ n1_; (try clear hb); (try clear hb2); (try clear hk); (try clear hi)))
        go_ret
        exact ⟨by first | rfl | (simp [errW_none, errW_some] <;> rfl) | (simp [*, errW_none, errW_some] <;> rfl), by repeat (first | (with_reducible first | exact HB.out | apply below_alloc | apply pw_below_drewN | apply below_drew1 | refine below_set ?_ GE101.out) | exact HB.out)⟩

/-! ### laws_FnExactCountSwaps: function 9 -/
def laws_FnExactCountSwaps.f (k : Nat) (a0_0 : Int) (a0_1 : Int) (a0_2 : Int) : Option (Bool) := (laws_toMaze.f a0_0 a0_1 a0_2).bind fun bt102 => ((spec_CountSwaps.f k bt102.1 bt102.2.1 bt102.2.2).bind fun t105 => ((laws_toMaze.f a0_0 a0_1 a0_2).bind fun bt106 => ((impl_CountSwaps.f k bt106.1 bt106.2.1 bt106.2.2).bind fun t109 => (if t109 = t105 then (some true) else (some false)))))
set_option maxHeartbeats 8000000 in
set_option maxRecDepth 100000 in
theorem laws_FnExactCountSwaps.calls (k : Nat) (a0_0 : Int) (a0_1 : Int) (a0_2 : Int) (r : Bool) (w : World) (h : laws_FnExactCountSwaps.f k a0_0 a0_1 a0_2 = some r) :
    Calls Try.prog 9 #[.agg #[.int .i64 a0_0, .int .i64 a0_1, .int .i64 a0_2]] w fun e w' => e = .returned (.bool r) ∧ Below w.heap.size w w' := by
  have hu29 := Try.underlying29
  have HB := Aside0.mk (Below.refl w.heap.size w)
  have H : ((laws_toMaze.f a0_0 a0_1 a0_2).bind fun bt102 => ((spec_CountSwaps.f k bt102.1 bt102.2.1 bt102.2.2).bind fun t105 => ((laws_toMaze.f a0_0 a0_1 a0_2).bind fun bt106 => ((impl_CountSwaps.f k bt106.1 bt106.2.1 bt106.2.2).bind fun t109 => (if t109 = t105 then (some true) else (some false)))))) = some r := h
  clear h
  obtain ⟨⟨t102, t103, t104⟩, A20, H⟩ := Option.bind_eq_some_iff.mp H
  (try dsimp only at H); have A2 := Aside0.mk A20; clear A20
  obtain ⟨t105, A30, H⟩ := Option.bind_eq_some_iff.mp H
  (try dsimp only at H); have A3 := Aside0.mk A30; clear A30
  obtain ⟨⟨t106, t107, t108⟩, A40, H⟩ := Option.bind_eq_some_iff.mp H
  (try dsimp only at H); have A4 := Aside0.mk A40; clear A40
  obtain ⟨t109, A50, H⟩ := Option.bind_eq_some_iff.mp H
  (try dsimp only at H); have A5 := Aside0.mk A50; clear A50
  by_cases c6 : t109 = t105
  · rw [if_pos c6] at H
    have c6b0 : (t109 == t105) = true := beq_iff_eq.mpr c6
    have c6b1 : (t109 != t105) = false := bne_eq_false_iff_eq.mpr c6
    clear c6
    obtain rfl := Option.some.inj H
    go_enter Try.func9, Try.ntmps9
    go_wp2_with (first | ((with_reducible refine gate_dst (N := 1) rfl ?_); refine box_event ?hg (N := 1) ?hd (cs := #[.int .i64 a0_0, .int .i64 a0_1, .int .i64 a0_2]) (t := 29) ?hr ?_; (case hd => rfl); (case hg => rfl); (case hr => first | (go_simp; done) | (go_simp; rfl)); intro gb101 hg w7 hbox hb; have n0_ := Aside0.mk (below_step (by repeat first | exact HB.1 | apply bA_ | apply bB_ | apply bC_) hb); have n1_ := Aside0.mk (hbox); have n2_ := Aside0.mk ((by rw [hg]; exact (below_size (by repeat first | exact HB.1 | apply bA_ | apply bB_ | apply bC_)) : w.heap.size ≤ gb101)); have n3_ := n2_; clear HB; have HB := n0_; have BK101 := n1_; have GW101 := n2_; have GE101 := n3_; clear n0_ n1_ n2_ n3_; clear hb hbox hg; obtain ⟨hcz8_0, hcz8_1, hcz8_2⟩ := kk3_ BK101.1; have hfz8_0 := blk_frozen BK101.out 0; have hfz8_1 := blk_frozen BK101.out 1; have hfz8_2 := blk_frozen BK101.out 2) | ((with_reducible refine gate_callee (f := 18) rfl ?_); refine goesL_ (some 6) rfl rfl Try.func18 (by kernel_rfl) rfl #[.agg #[.int .i64 a0_0, .int .i64 a0_1, .int .i64 a0_2]] rfl (by (try simp only [M3_]); first | done | rfl | (simp only [List.length_drop, List.length_take]; rfl)) ?_; (with_reducible refine (laws_toMaze.calls a0_0 a0_1 a0_2 t102 t103 t104 _ A2.out).mono ?_); rintro e w9 ⟨rfl, hb⟩; (try clear A2); refine ⟨_, rfl, ?_⟩; have n0_ := Aside0.mk (blk_below (g := gb101) (o := .cells #[.int .i64 a0_0, .int .i64 a0_1, .int .i64 a0_2] 29 (0, 0)) (by (with_reducible repeat first | refine cA_ ?_ _ | refine cB_ ?_ | refine cC_ ?_ _); exact BK101.1) hb); have n1_ := Aside0.mk (below_step (by repeat first | exact HB.1 | apply bA_ | apply bB_ | apply bC_ | refine below_set ?_ GE101.out) hb); clear BK101; clear HB; have BK101 := n0_; have HB := n1_; clear n0_ n1_; (try clear hb); (try clear hb2); (try clear hk); (try clear hi)) | ((with_reducible refine gate_callee (f := 48) rfl ?_); refine goesL_ (some 7) rfl rfl Try.func48 (by kernel_rfl) rfl #[.agg #[.int .i64 t102, .int .i64 t103, .int .i64 t104]] rfl (by (try simp only [M3_]); first | done | rfl | (simp only [List.length_drop, List.length_take]; rfl)) ?_; (with_reducible refine (spec_CountSwaps.calls k t102 t103 t104 t105 _ A3.out).mono ?_); rintro e w10 ⟨rfl, hb⟩; (try clear A3); refine ⟨_, rfl, ?_⟩; have n0_ := Aside0.mk (blk_below (g := gb101) (o := .cells #[.int .i64 a0_0, .int .i64 a0_1, .int .i64 a0_2] 29 (0, 0)) (by (with_reducible repeat first | refine cA_ ?_ _ | refine cB_ ?_ | refine cC_ ?_ _); exact BK101.1) hb); have n1_ := Aside0.mk (below_step (by repeat first | exact HB.1 | apply bA_ | apply bB_ | apply bC_ | refine below_set ?_ GE101.out) hb); clear BK101; clear HB; have BK101 := n0_; have HB := n1_; clear n0_ n1_; (try clear hb); (try clear hb2); (try clear hk); (try clear hi); obtain ⟨hcz11_0, hcz11_1, hcz11_2⟩ := kk3_ BK101.1; have hfz11_0 := blk_frozen BK101.out 0; have hfz11_1 := blk_frozen BK101.out 1; have hfz11_2 := blk_frozen BK101.out 2) | ((with_reducible refine gate_callee (f := 18) rfl ?_); refine goesL_ (some 9) rfl rfl Try.func18 (by kernel_rfl) rfl #[.agg #[.int .i64 a0_0, .int .i64 a0_1, .int .i64 a0_2]] rfl (by (try simp only [M3_]); first | done | rfl | (simp only [List.length_drop, List.length_take]; rfl)) ?_; (with_reducible refine (laws_toMaze.calls a0_0 a0_1 a0_2 t106 t107 t108 _ A4.out).mono ?_); rintro e w12 ⟨rfl, hb⟩; (try clear A4); refine ⟨_, rfl, ?_⟩; have n0_ := Aside0.mk (blk_below (g := gb101) (o := .cells #[.int .i64 a0_0, .int .i64 a0_1, .int .i64 a0_2] 29 (0, 0)) (by (with_reducible repeat first | refine cA_ ?_ _ | refine cB_ ?_ | refine cC_ ?_ _); exact BK101.1) hb); have n1_ := Aside0.mk (below_step (by repeat first | exact HB.1 | apply bA_ | apply bB_ | apply bC_ | refine below_set ?_ GE101.out) hb); clear BK101; clear HB; have BK101 := n0_; have HB := n1_; clear n0_ n1_; (try clear hb); (try clear hb2); (try clear hk); (try clear hi)) | ((with_reducible refine gate_callee (f := 49) rfl ?_); refine goesL_ (some 10) rfl rfl Try.func49 (by kernel_rfl) rfl #[.agg #[.int .i64 t106, .int .i64 t107, .int .i64 t108]] rfl (by (try simp only [M3_]); first | done | rfl | (simp only [List.length_drop, List.length_take]; rfl)) ?_; (with_reducible refine (impl_CountSwaps.calls k t106 t107 t108 t109 _ A5.out).mono ?_); rintro e w13 ⟨rfl, hb⟩; (try clear A5); refine ⟨_, rfl, ?_⟩; have n0_ := Aside0.mk (blk_below (g := gb101) (o := .cells #[.int .i64 a0_0, .int .i64 a0_1, .int .i64 a0_2] 29 (0, 0)) (by (with_reducible repeat first | refine cA_ ?_ _ | refine cB_ ?_ | refine cC_ ?_ _); exact BK101.1) hb); have n1_ := Aside0.mk (below_step (by repeat first | exact HB.1 | apply bA_ | apply bB_ | apply bC_ | refine below_set ?_ GE101.out) hb); clear BK101; clear HB; have BK101 := n0_; have HB := n1_; clear n0_ n1_; (try clear hb); (try clear hb2); (try clear hk); (try clear hi)))
    go_ret
    exact ⟨by first | rfl | (simp [errW_none, errW_some] <;> rfl) | (simp [*, errW_none, errW_some] <;> rfl), by repeat (first | (with_reducible first | exact HB.out | apply below_alloc | apply pw_below_drewN | apply below_drew1 | refine below_set ?_ GE101.out) | exact HB.out)⟩
  · rw [if_neg c6] at H
    have c6b0 : (t109 == t105) = false := beq_eq_false_iff_ne.mpr c6
    have c6b1 : (t109 != t105) = true := bne_iff_ne.mpr c6
    obtain rfl := Option.some.inj H
    go_enter Try.func9, Try.ntmps9
    go_wp2_with (first | ((with_reducible refine gate_dst (N := 1) rfl ?_); refine box_event ?hg (N := 1) ?hd (cs := #[.int .i64 a0_0, .int .i64 a0_1, .int .i64 a0_2]) (t := 29) ?hr ?_; (case hd => rfl); (case hg => rfl); (case hr => first | (go_simp; done) | (go_simp; rfl)); intro gb101 hg w14 hbox hb; have n0_ := Aside0.mk (below_step (by repeat first | exact HB.1 | apply bA_ | apply bB_ | apply bC_) hb); have n1_ := Aside0.mk (hbox); have n2_ := Aside0.mk ((by rw [hg]; exact (below_size (by repeat first | exact HB.1 | apply bA_ | apply bB_ | apply bC_)) : w.heap.size ≤ gb101)); have n3_ := n2_; clear HB; have HB := n0_; have BK101 := n1_; have GW101 := n2_; have GE101 := n3_; clear n0_ n1_ n2_ n3_; clear hb hbox hg; obtain ⟨hcz15_0, hcz15_1, hcz15_2⟩ := kk3_ BK101.1; have hfz15_0 := blk_frozen BK101.out 0; have hfz15_1 := blk_frozen BK101.out 1; have hfz15_2 := blk_frozen BK101.out 2) | ((with_reducible refine gate_callee (f := 18) rfl ?_); refine goesL_ (some 6) rfl rfl Try.func18 (by kernel_rfl) rfl #[.agg #[.int .i64 a0_0, .int .i64 a0_1, .int .i64 a0_2]] rfl (by (try simp only [M3_]); first | done | rfl | (simp only [List.length_drop, List.length_take]; rfl)) ?_; (with_reducible refine (laws_toMaze.calls a0_0 a0_1 a0_2 t102 t103 t104 _ A2.out).mono ?_); rintro e w16 ⟨rfl, hb⟩; (try clear A2); refine ⟨_, rfl, ?_⟩; have n0_ := Aside0.mk (blk_below (g := gb101) (o := .cells #[.int .i64 a0_0, .int .i64 a0_1, .int .i64 a0_2] 29 (0, 0)) (by (with_reducible repeat first | refine cA_ ?_ _ | refine cB_ ?_ | refine cC_ ?_ _); exact BK101.1) hb); have n1_ := Aside0.mk (below_step (by repeat first | exact HB.1 | apply bA_ | apply bB_ | apply bC_ | refine below_set ?_ GE101.out) hb); clear BK101; clear HB; have BK101 := n0_; have HB := n1_; clear n0_ n1_; (try clear hb); (try clear hb2); (try clear hk); (try clear hi)) | ((with_reducible refine gate_callee (f := 48) rfl ?_); refine goesL_ (some 7) rfl rfl Try.func48 (by kernel_rfl) rfl #[.agg #[.int .i64 t102, .int .i64 t103, .int .i64 t104]] rfl (by (try simp only [M3_]); first | done | rfl | (simp only [List.length_drop, List.length_take]; rfl)) ?_; (with_reducible refine (spec_CountSwaps.calls k t102 t103 t104 t105 _ A3.out).mono ?_); rintro e w17 ⟨rfl, hb⟩; (try clear A3); refine ⟨_, rfl, ?_⟩; have n0_ := Aside0.mk (blk_below (g := gb101) (o := .cells #[.int .i64 a0_0, .int .i64 a0_1, .int .i64 a0_2] 29 (0, 0)) (by (with_reducible repeat first | refine cA_ ?_ _ | refine cB_ ?_ | refine cC_ ?_ _); exact BK101.1) hb); have n1_ := Aside0.mk (below_step (by repeat first | exact HB.1 | apply bA_ | apply bB_ | apply bC_ | refine below_set ?_ GE101.out) hb); clear BK101; clear HB; have BK101 := n0_; have HB := n1_; clear n0_ n1_; (try clear hb); (try clear hb2); (try clear hk); (try clear hi); obtain ⟨hcz18_0, hcz18_1, hcz18_2⟩ := kk3_ BK101.1; have hfz18_0 := blk_frozen BK101.out 0; have hfz18_1 := blk_frozen BK101.out 1; have hfz18_2 := blk_frozen BK101.out 2) | ((with_reducible refine gate_callee (f := 18) rfl ?_); refine goesL_ (some 9) rfl rfl Try.func18 (by kernel_rfl) rfl #[.agg #[.int .i64 a0_0, .int .i64 a0_1, .int .i64 a0_2]] rfl (by (try simp only [M3_]); first | done | rfl | (simp only [List.length_drop, List.length_take]; rfl)) ?_; (with_reducible refine (laws_toMaze.calls a0_0 a0_1 a0_2 t106 t107 t108 _ A4.out).mono ?_); rintro e w19 ⟨rfl, hb⟩; (try clear A4); refine ⟨_, rfl, ?_⟩; have n0_ := Aside0.mk (blk_below (g := gb101) (o := .cells #[.int .i64 a0_0, .int .i64 a0_1, .int .i64 a0_2] 29 (0, 0)) (by (with_reducible repeat first | refine cA_ ?_ _ | refine cB_ ?_ | refine cC_ ?_ _); exact BK101.1) hb); have n1_ := Aside0.mk (below_step (by repeat first | exact HB.1 | apply bA_ | apply bB_ | apply bC_ | refine below_set ?_ GE101.out) hb); clear BK101; clear HB; have BK101 := n0_; have HB := n1_; clear n0_ n1_; (try clear hb); (try clear hb2); (try clear hk); (try clear hi)) | ((with_reducible refine gate_callee (f := 49) rfl ?_); refine goesL_ (some 10) rfl rfl Try.func49 (by kernel_rfl) rfl #[.agg #[.int .i64 t106, .int .i64 t107, .int .i64 t108]] rfl (by (try simp only [M3_]); first | done | rfl | (simp only [List.length_drop, List.length_take]; rfl)) ?_; (with_reducible refine (impl_CountSwaps.calls k t106 t107 t108 t109 _ A5.out).mono ?_); rintro e w20 ⟨rfl, hb⟩; (try clear A5); refine ⟨_, rfl, ?_⟩; have n0_ := Aside0.mk (blk_below (g := gb101) (o := .cells #[.int .i64 a0_0, .int .i64 a0_1, .int .i64 a0_2] 29 (0, 0)) (by (with_reducible repeat first | refine cA_ ?_ _ | refine cB_ ?_ | refine cC_ ?_ _); exact BK101.1) hb); have n1_ := Aside0.mk (below_step (by repeat first | exact HB.1 | apply bA_ | apply bB_ | apply bC_ | refine below_set ?_ GE101.out) hb); clear BK101; clear HB; have BK101 := n0_; have HB := n1_; clear n0_ n1_; (try clear hb); (try clear hb2); (try clear hk); (try clear hi)))
    go_ret
    exact ⟨by first | rfl | (simp [errW_none, errW_some] <;> rfl) | (simp [*, errW_none, errW_some] <;> rfl), by repeat (first | (with_reducible first | exact HB.out | apply below_alloc | apply pw_below_drewN | apply below_drew1 | refine below_set ?_ GE101.out) | exact HB.out)⟩

end Go.Proofs.Ytcajhmldbkfhiaa.P
namespace Go.Proofs.Ytcajhmldbkfhiaa.P
open Go.RowKit Go.Proofs.YtcajhmldbkfhiaaW.PrintWords
set_option linter.unusedVariables false
set_option linter.unusedSimpArgs false
section
variable {α β : Type}
theorem Ev.tt {c : Prop} [Decidable c] {g f : Nat → Option α} {r : α} (h : c) (e : Ev g r) : Ev (fun k => if c then g k else f k) r := by simpa only [if_pos h] using e
theorem Ev.ff {c : Prop} [Decidable c] {g f : Nat → Option α} {r : α} (h : ¬ c) (e : Ev f r) : Ev (fun k => if c then g k else f k) r := by simpa only [if_neg h] using e
theorem Ev.ite {c : Prop} [Decidable c] {g f : Nat → Option α} {r : α} (e1 : c → Ev g r) (e2 : ¬ c → Ev f r) : Ev (fun k => if c then g k else f k) r := by
  by_cases h : c
  · exact Ev.tt h (e1 h)
  · exact Ev.ff h (e2 h)
theorem Ev.bnd0 {o : Option α} {f : Nat → α → Option β} {a : α} {r : β} (h : o = some a) (k : Ev (fun n => f n a) r) : Ev (fun n => o.bind (f n)) r := by subst h; exact k
theorem Ev.ret {a r : α} (h : a = r) : Ev (fun _ => some a) r := ⟨0, fun _ _ => by rw [h]⟩
theorem Ev.eq {g : Nat → Option α} {r r' : α} (h : Ev g r) (e : r = r') : Ev g r' := e ▸ h
end
theorem wrap64_id {x : Int} (h0 : -9223372036854775808 ≤ x) (h1 : x ≤ 9223372036854775807) : wrap64 x = x := by unfold wrap64; omega
theorem wsucc {i : Nat} (h : i < 4611686018427387904) : wrap64 ((i : Int) + 1) = ((i + 1 : Nat) : Int) := by unfold wrap64; omega
theorem rd_nat (l : List Int) (i : Nat) : rd l (i : Int) = l.getD i 0 := rfl
theorem rd_get {l : List Int} {i : Nat} (h : i < l.length) : rd l (i : Int) = l[i] := by simp [rd_nat, List.getD_eq_getElem?_getD, List.getElem?_eq_getElem h]
end Go.Proofs.Ytcajhmldbkfhiaa.P
namespace Go.Proofs.Ytcajhmldbkfhiaa.P
open Go Go.RowKit Go.Proofs.YtcajhmldbkfhiaaW.PrintWords
set_option linter.unusedVariables false
set_option linter.unusedSimpArgs false

theorem wrap_small {n : Nat} (h : n < 9223372036854775808) : IntKind.i64.wrap (n : Int) = n := by
  rw [IntKind.wrap_i64]; omega
theorem shl_pow {k : Nat} (h : k < 63) : shl .i64 1 (k : Int) = ((2 ^ k : Nat) : Int) := by
  have h1 : (2 : Nat) ^ k < 2 ^ 63 := Nat.pow_lt_pow_right (by decide) h
  unfold shl
  rw [show min (k : Int).toNat IntKind.i64.bits = k by simp [IntKind.bits]; omega, Int.one_mul]
  have := wrap_small (n := 2 ^ k) (by simpa using h1)
  simpa using this
theorem bits_and {a b : Nat} (ha : a < 4611686018427387904) (hb : b < 4611686018427387904) : Go.bits .and .i64 a b = ((a &&& b : Nat) : Int) :=
  (bits_nat .i64 62 (by decide) (fun n h0 h1 => by rw [IntKind.wrap_i64]; omega) a b (by simpa using ha) (by simpa using hb)).1
theorem bits_xor {a b : Nat} (ha : a < 4611686018427387904) (hb : b < 4611686018427387904) : Go.bits .xor .i64 a b = ((a ^^^ b : Nat) : Int) := by
  have e : (BitVec.ofInt 64 (a : Int) ^^^ BitVec.ofInt 64 (b : Int)).toNat = a ^^^ b := by
    rw [BitVec.ofInt_natCast, BitVec.ofInt_natCast, BitVec.toNat_xor, BitVec.toNat_ofNat, BitVec.toNat_ofNat, Nat.mod_eq_of_lt (by omega), Nat.mod_eq_of_lt (by omega)]
  show IntKind.i64.wrap ((BitVec.ofInt 64 (a : Int) ^^^ BitVec.ofInt 64 (b : Int)).toNat : Int) = _
  rw [e]
  exact wrap_small (Nat.lt_of_lt_of_le (Nat.xor_lt_two_pow (n := 62) (by simpa using ha) (by simpa using hb)) (by decide))
/-- a without the bits of b. -/
def andNot (a b : Nat) : Nat := a ^^^ (a &&& b)
theorem testBit_andNot (a b i : Nat) : (andNot a b).testBit i = (a.testBit i && !b.testBit i) := by
  simp [andNot]
  cases a.testBit i <;> cases b.testBit i <;> rfl
theorem andNot_le (a b : Nat) : andNot a b ≤ a := by
  apply Nat.le_of_testBit
  intro i h
  rw [testBit_andNot] at h
  simp at h
  exact h.1
theorem shr_nat {m : Nat} (hm : m < 4611686018427387904) (k : Nat) : shr .i64 (m : Int) (k : Int) = ((m / 2 ^ k : Nat) : Int) := by
  unfold shr
  by_cases h : k ≤ 64
  · rw [show min (k : Int).toNat IntKind.i64.bits = k by simp [IntKind.bits]; omega]
    simp
  · rw [show min (k : Int).toNat IntKind.i64.bits = 64 by simp [IntKind.bits]; omega]
    have h1 : m / 2 ^ k = 0 := Nat.div_eq_of_lt (Nat.lt_of_lt_of_le (by simpa using hm : m < 2 ^ 62) (Nat.pow_le_pow_right (by decide) (by omega)))
    rw [h1]
    have : (m : Int) / 2 ^ 64 = ((m / 2 ^ 64 : Nat) : Int) := by simp
    rw [this, Nat.div_eq_of_lt (by omega)]
/-- The test of a bit, as the program and the reference make it. -/
theorem bit_test {m : Nat} (hm : m < 4611686018427387904) (k : Nat) (c : Int) : (Go.bits .and .i64 (shr .i64 (m : Int) (k : Int)) 1 == c) = (((m.testBit k).toNat : Int) == c) := by
  rw [shr_nat hm, show (1 : Int) = ((1 : Nat) : Int) from rfl, bits_and (Nat.lt_of_le_of_lt (Nat.div_le_self _ _) hm) (by decide)]
  congr 2
  rw [Nat.testBit_eq_decide_div_mod_eq, Nat.and_one_is_mod]
  have := Nat.mod_two_eq_zero_or_one (m / 2 ^ k)
  rcases this with h | h <;> simp [h]
theorem bit_one {m : Nat} (hm : m < 4611686018427387904) (k : Nat) : (Go.bits .and .i64 (shr .i64 (m : Int) (k : Int)) 1 == 1) = m.testBit k := by
  rw [bit_test hm]
  cases m.testBit k <;> rfl
/-- A number with one bit set, or not. -/
def setB (o g : Nat) (b : Bool) : Nat := if b then o ||| 2 ^ g else andNot o (2 ^ g)
theorem testBit_setB (o g : Nat) (b : Bool) (i : Nat) : (setB o g b).testBit i = if i = g then b else o.testBit i := by
  unfold setB
  cases b
  · simp only [Bool.false_eq_true, if_false, testBit_andNot, Nat.testBit_two_pow]
    by_cases h : i = g
    · simp [h]
    · simp [h, show ¬ g = i from fun e => h e.symm]
  · simp only [if_true, Nat.testBit_or, Nat.testBit_two_pow]
    by_cases h : i = g
    · simp [h]
    · simp [h, show ¬ g = i from fun e => h e.symm]
theorem setB_lt {o g n : Nat} (b : Bool) (ho : o < 2 ^ n) (hg : g < n) : setB o g b < 2 ^ n := by
  unfold setB
  split
  · exact Nat.or_lt_two_pow ho (Nat.pow_lt_pow_right (by decide) hg)
  · exact Nat.lt_of_le_of_lt (andNot_le _ _) ho
theorem setB_self {o g : Nat} : setB o g (o.testBit g) = o := by
  apply Nat.eq_of_testBit_eq
  intro i
  rw [testBit_setB]
  split
  · rename_i h; rw [h]
  · rfl
theorem xor_setB {o g : Nat} {b : Bool} (h : (o.testBit g) ≠ b) : o ^^^ 2 ^ g = setB o g b := by
  apply Nat.eq_of_testBit_eq
  intro i
  rw [testBit_setB, Nat.testBit_xor, Nat.testBit_two_pow]
  by_cases e : i = g
  · subst e
    cases hb : b <;> cases ho : o.testBit i <;> simp_all
  · simp [e, show ¬ g = i from fun e' => e e'.symm]
end Go.Proofs.Ytcajhmldbkfhiaa.P
namespace Go.Proofs.Ytcajhmldbkfhiaa.P
open Go.RowKit Go.Proofs.YtcajhmldbkfhiaaW.PrintWords
set_option linter.unusedVariables false
set_option linter.unusedSimpArgs false

/-- The number of set bits of s under n. -/
def pop : Nat → Nat → Nat
  | 0, _ => 0
  | n + 1, s => pop n s + (s.testBit n).toNat
theorem pop_le (n s : Nat) : pop n s ≤ n := by
  induction n with
  | zero => simp [pop]
  | succ n ih => simp only [pop]; have := Bool.toNat_le (s.testBit n); omega
theorem pop_congr {n s t : Nat} (h : ∀ i, i < n → s.testBit i = t.testBit i) : pop n s = pop n t := by
  induction n with
  | zero => rfl
  | succ n ih => simp only [pop]; rw [ih (fun i hi => h i (by omega)), h n (by omega)]
theorem pop_add (m n s : Nat) : pop (m + n) s = pop m s + pop n (s / 2 ^ m) := by
  induction n with
  | zero => simp [pop]
  | succ n ih =>
    rw [← Nat.add_assoc]
    simp only [pop]
    rw [ih, Nat.add_assoc, Nat.testBit_div_two_pow, Nat.add_comm n m]
theorem pop_mod (n s : Nat) : pop n (s % 2 ^ n) = pop n s := pop_congr fun i hi => by rw [Nat.testBit_mod_two_pow]; simp [hi]
theorem pop_big {n m s : Nat} (h : s < 2 ^ n) (hm : n ≤ m) : pop m s = pop n s := by
  obtain ⟨d, rfl⟩ := Nat.exists_eq_add_of_le hm
  rw [pop_add, Nat.div_eq_of_lt h]
  have : pop d 0 = 0 := by
    induction d with
    | zero => rfl
    | succ d ih => simp only [pop, Nat.zero_testBit]; rw [ih (by omega)]; rfl
  rw [this, Nat.add_zero]
/-- A valid grid. -/
def gridOk (w h : Int) : Bool := decide (1 ≤ w ∧ w ≤ 4 ∧ 1 ≤ h ∧ h ≤ 4)
theorem gridOk_iff {w h : Int} : gridOk w h = true ↔ 1 ≤ w ∧ w ≤ 4 ∧ 1 ≤ h ∧ h ≤ 4 := by simp [gridOk]
/-- The sixteen grids. -/
theorem grid_cases {w h : Int} (hg : gridOk w h = true) : (w = 1 ∨ w = 2 ∨ w = 3 ∨ w = 4) ∧ (h = 1 ∨ h = 2 ∨ h = 3 ∨ h = 4) := by
  rw [gridOk_iff] at hg
  omega
def cellsOf (w h : Int) : Int := if gridOk w h then w * h else 0
def eastOf (w h : Int) : Int := (w - 1) * h
def gapsOf (w h : Int) : Int := if gridOk w h then (w - 1) * h + w * (h - 1) else 0
theorem cellsOf_range (w h : Int) : 0 ≤ cellsOf w h ∧ cellsOf w h ≤ 16 := by
  unfold cellsOf
  split
  · rename_i hg
    obtain ⟨h1 | h1 | h1 | h1, h2 | h2 | h2 | h2⟩ := grid_cases hg <;> subst h1 <;> subst h2 <;> decide
  · omega
theorem gapsOf_range (w h : Int) : 0 ≤ gapsOf w h ∧ gapsOf w h ≤ 24 := by
  unfold gapsOf
  split
  · rename_i hg
    obtain ⟨h1 | h1 | h1 | h1, h2 | h2 | h2 | h2⟩ := grid_cases hg <;> subst h1 <;> subst h2 <;> decide
  · omega
theorem pow_le {n : Int} (h0 : 0 ≤ n) (h1 : n ≤ 24) : (1 : Int) ≤ 2 ^ n.toNat ∧ (2 : Int) ^ n.toNat ≤ 16777216 := by
  obtain ⟨m, rfl⟩ := Int.eq_ofNat_of_zero_le h0
  have : m ≤ 24 := by omega
  clear h0 h1
  revert m
  decide +kernel
def isCellI (w h c : Int) : Bool := decide (0 ≤ c ∧ c < cellsOf w h)
/-- The neighbor of a cell in a direction. -/
def nbI (w h c d : Int) : Int :=
  if 0 ≤ c ∧ c < cellsOf w h then
    (if d = 0 ∧ 0 < c / w then c - w else if d = 1 ∧ c % w < w - 1 then c + 1 else if d = 2 ∧ c / w < h - 1 then c + w else if d = 3 ∧ 0 < c % w then c - 1 else -1)
  else -1
theorem cellsOf_valid {w h c : Int} (h1 : 0 ≤ c) (h2 : c < cellsOf w h) : gridOk w h = true ∧ cellsOf w h = w * h := by
  unfold cellsOf at *
  by_cases hg : gridOk w h = true
  · exact ⟨hg, if_pos hg⟩
  · rw [if_neg hg] at h2; omega
/-- The number of gaps, as a natural number. -/
def gapsN (w h : Int) : Nat := (gapsOf w h).toNat
theorem gapsN_le (w h : Int) : gapsN w h ≤ 24 := by have := gapsOf_range w h; unfold gapsN; omega
theorem gapsN_cast (w h : Int) : ((gapsN w h : Nat) : Int) = gapsOf w h := by have := gapsOf_range w h; unfold gapsN; omega
/-- A valid maze. -/
def mazeOk (w h o : Int) : Bool := gridOk w h && decide (0 ≤ o ∧ o < 2 ^ gapsN w h)
theorem mazeOk_iff {w h o : Int} : mazeOk w h o = true ↔ gridOk w h = true ∧ ∃ n : Nat, o = (n : Int) ∧ n < 2 ^ gapsN w h := by
  unfold mazeOk
  simp only [Bool.and_eq_true, decide_eq_true_eq]
  constructor
  · rintro ⟨h1, h2, h3⟩
    obtain ⟨n, rfl⟩ := Int.eq_ofNat_of_zero_le h2
    exact ⟨h1, n, rfl, by exact_mod_cast h3⟩
  · rintro ⟨h1, n, rfl, h3⟩
    exact ⟨h1, by omega, by exact_mod_cast h3⟩
theorem open_small {w h : Int} {n : Nat} (hn : n < 2 ^ gapsN w h) : n < 16777216 := Nat.lt_of_lt_of_le hn (Nat.pow_le_pow_right (by decide) (gapsN_le w h))
/-- Is a gap open? -/
def openI (n : Nat) (g : Int) : Bool := decide (0 ≤ g) && n.testBit g.toNat
theorem openI_nat' (n j : Nat) : openI n (j : Int) = n.testBit j := by simp [openI]
def isGapI (w h g : Int) : Bool := decide (0 ≤ g ∧ g < gapsOf w h)
theorem open_isGap {w h g : Int} {n : Nat} (hn : n < 2 ^ gapsN w h) (ho : openI n g = true) : isGapI w h g = true := by
  unfold openI isGapI at *
  simp only [Bool.and_eq_true, decide_eq_true_eq] at *
  have : g.toNat < gapsN w h := by
    rcases Nat.lt_or_ge g.toNat (gapsN w h) with h1 | h1
    · exact h1
    · rw [Nat.testBit_lt_two_pow (Nat.lt_of_lt_of_le hn (Nat.pow_le_pow_right (by decide) h1))] at ho
      exact absurd ho.2 (by decide)
  have := gapsN_cast w h
  omega
theorem gapsOf_valid {w h g : Int} (h1 : 0 ≤ g) (h2 : g < gapsOf w h) : gridOk w h = true ∧ gapsOf w h = (w - 1) * h + w * (h - 1) := by
  unfold gapsOf at *
  by_cases hg : gridOk w h = true
  · exact ⟨hg, if_pos hg⟩
  · rw [if_neg hg] at h2; omega
/-- The gap between a cell and its neighbor. -/
def gapI (w h c d : Int) : Int :=
  if nbI w h c d < 0 then -1 else if d = 1 ∨ d = 3 then (min c (nbI w h c d)) / w * (w - 1) + (min c (nbI w h c d)) % w else (w - 1) * h + min c (nbI w h c d)
/-- The ends of a gap. -/
def endsI (w h g : Int) : Int × Int :=
  if 0 ≤ g ∧ g < gapsOf w h then (if g < (w - 1) * h then (g / (w - 1) * w + g % (w - 1), g / (w - 1) * w + g % (w - 1) + 1) else (g - (w - 1) * h, g - (w - 1) * h + w)) else (-1, -1)
theorem nb_dir {w h c d : Int} (hn : 0 ≤ nbI w h c d) : (d = 0 ∨ d = 1 ∨ d = 2 ∨ d = 3) ∧ 0 ≤ c ∧ c < cellsOf w h := by
  unfold nbI at hn
  by_cases hc : 0 ≤ c ∧ c < cellsOf w h
  · rw [if_pos hc] at hn
    refine ⟨?_, hc⟩
    repeat' split at hn
    all_goals omega
  · rw [if_neg hc] at hn
    omega
theorem grid_nat {w h : Int} (hg : gridOk w h = true) : ∃ W H : Nat, w = W ∧ h = H ∧ 1 ≤ W ∧ W < 5 ∧ 1 ≤ H ∧ H < 5 := by
  have := gridOk_iff.1 hg
  exact ⟨w.toNat, h.toNat, by omega, by omega, by omega, by omega, by omega, by omega⟩
/-- What is to be known of a step: the other cell, the gap, and the way back. -/
def StepFacts (w h c d : Int) : Prop :=
  nbI w h c d = -1 ∧ gapI w h c d = -1 ∨
  (0 ≤ nbI w h c d ∧ nbI w h c d < cellsOf w h ∧ nbI w h c d ≠ c ∧ 0 ≤ gapI w h c d ∧ gapI w h c d < gapsOf w h ∧
    endsI w h (gapI w h c d) = (min c (nbI w h c d), max c (nbI w h c d)) ∧ nbI w h (nbI w h c d) ((d + 2) % 4) = c ∧ gapI w h (nbI w h c d) ((d + 2) % 4) = gapI w h c d)
instance (w h c d : Int) : Decidable (StepFacts w h c d) := by unfold StepFacts; infer_instance
theorem step_facts_all : ∀ W : Nat, W < 5 → ∀ H : Nat, H < 5 → ∀ c : Nat, c < 16 → ∀ d : Nat, d < 4 → StepFacts W H c d := by decide +kernel
theorem step_facts (w h c d : Int) : StepFacts w h c d := by
  by_cases hn : 0 ≤ nbI w h c d
  · obtain ⟨hd, h0, h1⟩ := nb_dir hn
    obtain ⟨hg, hcw⟩ := cellsOf_valid h0 h1
    obtain ⟨W, H, rfl, rfl, hW1, hW2, hH1, hH2⟩ := grid_nat hg
    have hcr := cellsOf_range (W : Int) (H : Int)
    have := step_facts_all W hW2 H hH2 c.toNat (by omega) d.toNat (by omega)
    rwa [show ((c.toNat : Nat) : Int) = c by omega, show ((d.toNat : Nat) : Int) = d by omega] at this
  · have hm : nbI w h c d = -1 := by
      unfold nbI at *
      by_cases hc : 0 ≤ c ∧ c < cellsOf w h
      · rw [if_pos hc] at *
        obtain ⟨hg, hcw⟩ := cellsOf_valid hc.1 hc.2
        have hgr := gridOk_iff.1 hg
        have hyw : c / w * w + c % w = c := by rw [Int.mul_comm]; exact Int.mul_ediv_add_emod c w
        have hx0 : 0 ≤ c % w := Int.emod_nonneg _ (by omega)
        repeat' split
        · rename_i hh
          rw [if_pos hh] at hn
          have : w ≤ c := by
            have : w * 1 ≤ w * (c / w) := Int.mul_le_mul_of_nonneg_left (by omega) (by omega)
            rw [Int.mul_comm (c / w)] at hyw
            omega
          omega
        · rename_i h1 hh
          rw [if_neg h1, if_pos hh] at hn
          omega
        · rename_i h1 h2 hh
          rw [if_neg h1, if_neg h2, if_pos hh] at hn
          omega
        · rename_i h1 h2 h3 hh
          rw [if_neg h1, if_neg h2, if_neg h3, if_pos hh] at hn
          have : 1 ≤ c := by
            have : 0 ≤ c / w * w := Int.mul_nonneg (Int.ediv_nonneg hc.1 (by omega)) (by omega)
            omega
          omega
        · rfl
      · rw [if_neg hc]
    refine .inl ⟨hm, ?_⟩
    unfold gapI
    rw [if_pos (by omega)]
def EndFacts (w h g : Int) : Prop :=
  0 ≤ g ∧ g < gapsOf w h → 0 ≤ (endsI w h g).1 ∧ (endsI w h g).1 < (endsI w h g).2 ∧ (endsI w h g).2 < cellsOf w h ∧
    (nbI w h (endsI w h g).1 1 = (endsI w h g).2 ∧ gapI w h (endsI w h g).1 1 = g ∨ nbI w h (endsI w h g).1 2 = (endsI w h g).2 ∧ gapI w h (endsI w h g).1 2 = g)
instance (w h g : Int) : Decidable (EndFacts w h g) := by unfold EndFacts; infer_instance
theorem end_facts_all : ∀ W : Nat, W < 5 → ∀ H : Nat, H < 5 → ∀ g : Nat, g < 24 → EndFacts W H g := by decide +kernel
theorem end_facts {w h g : Int} (h0 : 0 ≤ g) (h1 : g < gapsOf w h) : 0 ≤ (endsI w h g).1 ∧ (endsI w h g).1 < (endsI w h g).2 ∧ (endsI w h g).2 < cellsOf w h ∧
    (nbI w h (endsI w h g).1 1 = (endsI w h g).2 ∧ gapI w h (endsI w h g).1 1 = g ∨ nbI w h (endsI w h g).1 2 = (endsI w h g).2 ∧ gapI w h (endsI w h g).1 2 = g) := by
  obtain ⟨hg, _⟩ := gapsOf_valid h0 h1
  obtain ⟨W, H, rfl, rfl, hW1, hW2, hH1, hH2⟩ := grid_nat hg
  have hr := gapsOf_range (W : Int) (H : Int)
  have := end_facts_all W hW2 H hH2 g.toNat (by omega)
  rw [show ((g.toNat : Nat) : Int) = g by omega] at this
  exact this ⟨h0, h1⟩
theorem nb_lt {w h c d : Int} : nbI w h c d = -1 ∨ 0 ≤ nbI w h c d ∧ nbI w h c d < cellsOf w h := by
  rcases step_facts w h c d with h1 | h1
  · exact .inl h1.1
  · exact .inr ⟨h1.1, h1.2.1⟩
/-- The cell behind an open gap, or -1. -/
def stepI (w h : Int) (n : Nat) (c d : Int) : Int := if openI n (gapI w h c d) then nbI w h c d else -1
theorem step_lt {w h c d : Int} {n : Nat} : stepI w h n c d = -1 ∨ 0 ≤ stepI w h n c d ∧ stepI w h n c d < cellsOf w h := by
  unfold stepI
  split
  · exact nb_lt
  · exact .inl rfl
/-- Connected by the edges of n. -/
inductive Cn (e : Nat → Nat × Nat) (n : Nat) : Nat → Nat → Prop
  | refl (x : Nat) : Cn e n x x
  | fwd {x : Nat} (k : Nat) : n.testBit k = true → Cn e n x (e k).1 → Cn e n x (e k).2
  | bwd {x : Nat} (k : Nat) : n.testBit k = true → Cn e n x (e k).2 → Cn e n x (e k).1
theorem Cn.trans {e : Nat → Nat × Nat} {n x y z : Nat} (h : Cn e n x y) (g : Cn e n y z) : Cn e n x z := by
  induction g with
  | refl => exact h
  | fwd k hk _ ih => exact .fwd k hk ih
  | bwd k hk _ ih => exact .bwd k hk ih
theorem Cn.edge {e : Nat → Nat × Nat} {n k : Nat} (h : n.testBit k = true) : Cn e n (e k).1 (e k).2 := .fwd k h (.refl _)
theorem Cn.edge' {e : Nat → Nat × Nat} {n k : Nat} (h : n.testBit k = true) : Cn e n (e k).2 (e k).1 := .bwd k h (.refl _)
theorem Cn.symm {e : Nat → Nat × Nat} {n x y : Nat} (h : Cn e n x y) : Cn e n y x := by
  induction h with
  | refl => exact .refl _
  | fwd k hk _ ih => exact (Cn.edge' hk).trans ih
  | bwd k hk _ ih => exact (Cn.edge hk).trans ih
theorem Cn.mono {e : Nat → Nat × Nat} {n m x y : Nat} (hm : ∀ i, n.testBit i = true → m.testBit i = true) (h : Cn e n x y) : Cn e m x y := by
  induction h with
  | refl => exact .refl _
  | fwd k hk _ ih => exact .fwd k (hm k hk) ih
  | bwd k hk _ ih => exact .bwd k (hm k hk) ih
theorem Cn_add {e : Nat → Nat × Nat} {n k x y : Nat} : Cn e (setB n k true) x y ↔ Cn e n x y ∨ (Cn e n x (e k).1 ∧ Cn e n (e k).2 y) ∨ (Cn e n x (e k).2 ∧ Cn e n (e k).1 y) := by
  have hm : ∀ i, n.testBit i = true → (setB n k true).testBit i = true := fun i hi => by rw [testBit_setB]; split <;> simp [hi]
  have hk : (setB n k true).testBit k = true := by rw [testBit_setB]; simp
  constructor
  · intro h
    induction h with
    | refl => exact .inl (.refl _)
    | fwd j hj _ ih =>
      rw [testBit_setB] at hj
      by_cases e1 : j = k
      · subst e1
        rcases ih with ih | ⟨h1, h2⟩ | ⟨h1, h2⟩
        · exact .inr (.inl ⟨ih, .refl _⟩)
        · exact .inr (.inl ⟨h1, .refl _⟩)
        · exact .inl h1
      · rw [if_neg e1] at hj
        rcases ih with ih | ⟨h1, h2⟩ | ⟨h1, h2⟩
        · exact .inl (.fwd j hj ih)
        · exact .inr (.inl ⟨h1, .fwd j hj h2⟩)
        · exact .inr (.inr ⟨h1, .fwd j hj h2⟩)
    | bwd j hj _ ih =>
      rw [testBit_setB] at hj
      by_cases e1 : j = k
      · subst e1
        rcases ih with ih | ⟨h1, h2⟩ | ⟨h1, h2⟩
        · exact .inr (.inr ⟨ih, .refl _⟩)
        · exact .inl h1
        · exact .inr (.inr ⟨h1, .refl _⟩)
      · rw [if_neg e1] at hj
        rcases ih with ih | ⟨h1, h2⟩ | ⟨h1, h2⟩
        · exact .inl (.bwd j hj ih)
        · exact .inr (.inl ⟨h1, .bwd j hj h2⟩)
        · exact .inr (.inr ⟨h1, .bwd j hj h2⟩)
  · rintro (h | ⟨h1, h2⟩ | ⟨h1, h2⟩)
    · exact h.mono hm
    · exact ((h1.mono hm).trans (Cn.edge hk)).trans (h2.mono hm)
    · exact ((h1.mono hm).trans (Cn.edge' hk)).trans (h2.mono hm)
theorem Cn_zero {e : Nat → Nat × Nat} {x y : Nat} : Cn e 0 x y ↔ x = y := by
  constructor
  · intro h
    induction h with
    | refl => rfl
    | fwd k hk => simp at hk
    | bwd k hk => simp at hk
  · rintro rfl; exact .refl _
/-- The first k bits of n. -/
def low (n k : Nat) : Nat := n % 2 ^ k
theorem testBit_low (n k i : Nat) : (low n k).testBit i = (decide (i < k) && n.testBit i) := Nat.testBit_mod_two_pow ..
theorem low_all {n k : Nat} (h : n < 2 ^ k) : low n k = n := Nat.mod_eq_of_lt h
theorem low_succ_set {n k : Nat} (h : n.testBit k = true) : low n (k + 1) = setB (low n k) k true := by
  apply Nat.eq_of_testBit_eq
  intro i
  rw [testBit_setB, testBit_low, testBit_low]
  by_cases e : i = k
  · subst e; simp [h]
  · rw [if_neg e]
    congr 1
    rw [decide_eq_decide]; omega
theorem low_succ_not {n k : Nat} (h : n.testBit k = false) : low n (k + 1) = low n k := by
  apply Nat.eq_of_testBit_eq
  intro i
  rw [testBit_low, testBit_low]
  by_cases e : i = k
  · subst e; simp [h]
  · congr 1
    rw [decide_eq_decide]; omega
/-- The least vertex of the part of v, by the first k edges. -/
def lab (e : Nat → Nat × Nat) (n : Nat) : Nat → Nat → Nat
  | 0, v => v
  | k + 1, v =>
    if n.testBit k = true then
      (if lab e n k v = max (lab e n k (e k).1) (lab e n k (e k).2) then min (lab e n k (e k).1) (lab e n k (e k).2) else lab e n k v)
    else lab e n k v
theorem lab_facts (e : Nat → Nat × Nat) (n : Nat) : ∀ k, (∀ v, lab e n k v ≤ v ∧ lab e n k (lab e n k v) = lab e n k v) ∧ ∀ x y, lab e n k x = lab e n k y ↔ Cn e (low n k) x y
  | 0 => by
    refine ⟨fun v => ⟨Nat.le_refl _, rfl⟩, fun x y => ?_⟩
    have : low n 0 = 0 := by unfold low; simp [Nat.mod_one]
    rw [this, Cn_zero]
    rfl
  | k + 1 => by
    obtain ⟨h1, h2⟩ := lab_facts e n k
    cases hb : n.testBit k with
    | false =>
      simp only [lab, hb, Bool.false_eq_true, if_false]
      rw [low_succ_not hb]
      exact ⟨h1, h2⟩
    | true =>
      simp only [lab, hb, if_true]
      rw [low_succ_set hb]
      refine ⟨fun v => ?_, fun x y => ?_⟩
      · have a1 := h1 v
        have a2 := h1 (e k).1
        have a3 := h1 (e k).2
        grind
      · rw [Cn_add, ← h2, ← h2, ← h2, ← h2, ← h2]
        grind
/-- Tells whether a vertex is the least of its part. -/
theorem lab_le (e : Nat → Nat × Nat) (n k v : Nat) : lab e n k v ≤ v := ((lab_facts e n k).1 v).1
theorem lab_lab (e : Nat → Nat × Nat) (n k v : Nat) : lab e n k (lab e n k v) = lab e n k v := ((lab_facts e n k).1 v).2
theorem lab_iff {e : Nat → Nat × Nat} {n k : Nat} (hn : n < 2 ^ k) (x y : Nat) : lab e n k x = lab e n k y ↔ Cn e n x y := by
  have := (lab_facts e n k).2 x y
  rwa [low_all hn] at this
theorem lab_least {e : Nat → Nat × Nat} {n k : Nat} (hn : n < 2 ^ k) {x y : Nat} (h : Cn e n x y) : lab e n k x ≤ y := by
  rw [(lab_iff hn x y).2 h]
  exact lab_le ..
theorem lab_cn {e : Nat → Nat × Nat} {n k : Nat} (hn : n < 2 ^ k) (x : Nat) : Cn e n x (lab e n k x) := (lab_iff hn _ _).1 (lab_lab ..).symm
/-- How many of the numbers under v. -/
def cnt (p : Nat → Bool) : Nat → Nat
  | 0 => 0
  | v + 1 => cnt p v + (p v).toNat
theorem cnt_congr {p q : Nat → Bool} {v : Nat} (h : ∀ i, i < v → p i = q i) : cnt p v = cnt q v := by
  induction v with
  | zero => rfl
  | succ n ih => simp only [cnt]; rw [ih (fun i hi => h i (by omega)), h n (by omega)]
theorem cnt_one {p q : Nat → Bool} {v m : Nat} (hm : m < v) (h1 : p m = true) (h2 : q m = false) (h : ∀ i, i < v → i ≠ m → p i = q i) : cnt p v = cnt q v + 1 := by
  induction v with
  | zero => omega
  | succ n ih =>
    simp only [cnt]
    by_cases e : m = n
    · subst e
      rw [cnt_congr (q := q) (fun i hi => h i (by omega) (by omega)), h1, h2]
      simp
    · rw [ih (by omega) (fun i hi hne => h i (by omega) hne), h n (by omega) (fun e' => e e'.symm)]
      omega
/-- The number of parts of v vertices, by k edges. -/
def parts (e : Nat → Nat × Nat) (v k n : Nat) : Nat := cnt (fun c => lab e n k c == c) v
theorem rep_iff {e : Nat → Nat × Nat} {n k : Nat} (hn : n < 2 ^ k) (c : Nat) : (lab e n k c == c) = true ↔ ∀ y, Cn e n c y → c ≤ y := by
  rw [beq_iff_eq]
  constructor
  · intro h y hy
    have := lab_least hn hy
    omega
  · intro h
    have := h _ (lab_cn hn c)
    have := lab_le e n k c
    omega
theorem parts_zero (e : Nat → Nat × Nat) (v k : Nat) : parts e v k 0 = v := by
  have : ∀ k c, lab e 0 k c = c := by
    intro k
    induction k with
    | zero => intro c; rfl
    | succ k ih => intro c; simp [lab, ih]
  unfold parts
  simp only [this, beq_self_eq_true]
  induction v with
  | zero => rfl
  | succ n ih => simp only [cnt]; rw [ih]; rfl
/-- One more edge joins two parts, or none. -/
theorem parts_add {e : Nat → Nat × Nat} {v k n j : Nat} (hn : n < 2 ^ k) (hj : j < k) (h1 : (e j).1 < v) (h2 : (e j).2 < v) :
    (Cn e n (e j).1 (e j).2 → parts e v k (setB n j true) = parts e v k n) ∧ (¬ Cn e n (e j).1 (e j).2 → parts e v k n = parts e v k (setB n j true) + 1) := by
  have hn' : setB n j true < 2 ^ k := setB_lt true hn hj
  constructor
  · intro hc
    unfold parts
    refine cnt_congr fun c hcv => ?_
    rw [Bool.eq_iff_iff, rep_iff hn, rep_iff hn']
    simp only [Cn_add]
    constructor
    · intro h y hy; exact h y (.inl hy)
    · rintro h y (hy | ⟨ha, hb⟩ | ⟨ha, hb⟩)
      · exact h y hy
      · exact h y ((ha.trans hc).trans hb)
      · exact h y ((ha.trans hc.symm).trans hb)
  · intro hc
    have hne : lab e n k (e j).1 ≠ lab e n k (e j).2 := fun h => hc ((lab_iff hn _ _).1 h)
    have l1 := lab_le e n k (e j).1
    have l2 := lab_le e n k (e j).2
    have c1 := lab_cn (e := e) hn (e j).1
    have c2 := lab_cn (e := e) hn (e j).2
    unfold parts
    refine cnt_one (m := max (lab e n k (e j).1) (lab e n k (e j).2)) (by omega) ?_ ?_ ?_
    · have := lab_lab e n k (e j).1
      have := lab_lab e n k (e j).2
      rw [beq_iff_eq]
      rcases Nat.le_total (lab e n k (e j).1) (lab e n k (e j).2) with hle | hle
      · rw [Nat.max_eq_right hle]; assumption
      · rw [Nat.max_eq_left hle]; assumption
    · rw [Bool.eq_false_iff]
      intro h
      rw [rep_iff hn'] at h
      rcases Nat.le_total (lab e n k (e j).1) (lab e n k (e j).2) with hle | hle
      · rw [Nat.max_eq_right hle] at h
        have := h (lab e n k (e j).1) (Cn_add.2 (.inr (.inr ⟨c2.symm, c1⟩)))
        omega
      · rw [Nat.max_eq_left hle] at h
        have := h (lab e n k (e j).2) (Cn_add.2 (.inr (.inl ⟨c1.symm, c2⟩)))
        omega
    · intro c hcv hcm
      rw [Bool.eq_iff_iff, rep_iff hn, rep_iff hn']
      simp only [Cn_add]
      constructor
      · rintro h y (hy | ⟨ha, hb⟩ | ⟨ha, hb⟩)
        · exact h y hy
        · have e1 : lab e n k (e j).1 = c := by
            have := h _ (ha.trans c1)
            have := lab_least (e := e) hn ha.symm
            omega
          have := lab_least (e := e) hn hb
          have := lab_le e n k c
          omega
        · have e1 : lab e n k (e j).2 = c := by
            have := h _ (ha.trans c2)
            have := lab_least (e := e) hn ha.symm
            omega
          have := lab_least (e := e) hn hb
          omega
      · intro h y hy; exact h y (.inl hy)
theorem pop_setB {m n j : Nat} (hj : j < m) (h : n.testBit j = false) : pop m (setB n j true) = pop m n + 1 := by
  induction m with
  | zero => omega
  | succ m ih =>
    simp only [pop]
    by_cases e : j = m
    · subst e
      rw [pop_congr (t := n) (fun i hi => by rw [testBit_setB, if_neg (by omega)]), testBit_setB, if_pos rfl, h]
      simp
    · rw [ih (by omega), testBit_setB, if_neg (by omega)]
      omega
theorem setB_off_on {n j : Nat} (h : n.testBit j = true) : setB (setB n j false) j true = n := by
  apply Nat.eq_of_testBit_eq
  intro i
  rw [testBit_setB, testBit_setB]
  by_cases e : i = j
  · subst e; simp [h]
  · simp [e]
theorem setB_bit (n j : Nat) (b : Bool) : (setB n j b).testBit j = b := by rw [testBit_setB, if_pos rfl]
theorem setB_ne {n j i : Nat} (b : Bool) (h : i ≠ j) : (setB n j b).testBit i = n.testBit i := by rw [testBit_setB, if_neg h]
/-- A statement over masks, from none on, an edge at a time. -/
theorem mask_induction {P : Nat → Prop} {k : Nat} (h0 : P 0) (hs : ∀ n j, n < 2 ^ k → j < k → n.testBit j = false → P n → P (setB n j true)) : ∀ n, n < 2 ^ k → P n := by
  intro n hn
  have : ∀ d, d ≤ k → P (low n d) := by
    intro d
    induction d with
    | zero => intro _; have : low n 0 = 0 := by unfold low; simp [Nat.mod_one]
              rw [this]; exact h0
    | succ d ih =>
      intro hd
      cases hb : n.testBit d with
      | false => rw [low_succ_not hb]; exact ih (by omega)
      | true =>
        rw [low_succ_set hb]
        refine hs _ _ (Nat.lt_of_le_of_lt (Nat.mod_le _ _) hn) (by omega) ?_ (ih (by omega))
        rw [testBit_low]; simp
  have := this k (Nat.le_refl k)
  rwa [low_all hn] at this
/-- A graph: the ends of its edges are vertices. -/
def Gr (e : Nat → Nat × Nat) (v k : Nat) : Prop := ∀ j, j < k → (e j).1 < v ∧ (e j).2 < v
/-- The number of loops is no number under 0. -/
theorem loops_nonneg {e : Nat → Nat × Nat} {v k : Nat} (hg : Gr e v k) : ∀ n, n < 2 ^ k → v ≤ pop k n + parts e v k n := by
  refine mask_induction ?_ ?_
  · rw [parts_zero]; omega
  · intro n j hn hj hb ih
    have hp := parts_add (e := e) hn hj (hg j hj).1 (hg j hj).2
    rw [pop_setB hj hb]
    by_cases hc : Cn e n (e j).1 (e j).2
    · rw [hp.1 hc]; omega
    · have := hp.2 hc; omega
theorem lt_of_testBit {n k j : Nat} (hn : n < 2 ^ k) (h : n.testBit j = true) : j < k := by
  rcases Nat.lt_or_ge j k with h1 | h1
  · exact h1
  · rw [Nat.testBit_lt_two_pow (Nat.lt_of_lt_of_le hn (Nat.pow_le_pow_right (by decide) h1))] at h
    cases h
/-- Taking an edge away. -/
theorem parts_del {e : Nat → Nat × Nat} {v k n j : Nat} (hg : Gr e v k) (hn : n < 2 ^ k) (hb : n.testBit j = true) :
    pop k n = pop k (setB n j false) + 1 ∧ (Cn e (setB n j false) (e j).1 (e j).2 → parts e v k (setB n j false) = parts e v k n) ∧ (¬ Cn e (setB n j false) (e j).1 (e j).2 → parts e v k (setB n j false) = parts e v k n + 1) := by
  have hj := lt_of_testBit hn hb
  have hp := parts_add (e := e) (setB_lt false hn hj) hj (hg j hj).1 (hg j hj).2
  have h2 := pop_setB (m := k) (n := setB n j false) hj (setB_bit ..)
  rw [setB_off_on hb] at hp h2
  exact ⟨h2, fun h => (hp.1 h).symm, hp.2⟩
/-- No loops: every edge is a bridge. -/
theorem bridge_of_forest {e : Nat → Nat × Nat} {v k n j : Nat} (hg : Gr e v k) (hn : n < 2 ^ k) (hf : pop k n + parts e v k n = v) (hb : n.testBit j = true) : ¬ Cn e (setB n j false) (e j).1 (e j).2 := by
  intro hc
  obtain ⟨h1, h2, _⟩ := parts_del hg hn hb
  have := h2 hc
  have := loops_nonneg hg (setB n j false) (setB_lt false hn (lt_of_testBit hn hb))
  omega
/-- One part: all are connected. -/
theorem parts_one {e : Nat → Nat × Nat} {v k n : Nat} (hn : n < 2 ^ k) (hv : 0 < v) : parts e v k n = 1 ↔ ∀ x, x < v → Cn e n 0 x := by
  have h0 : (lab e n k 0 == 0) = true := by have := lab_le e n k 0; rw [beq_iff_eq]; omega
  have hq : cnt (fun c => c == 0) v = 1 := by
    obtain ⟨v, rfl⟩ : ∃ u, v = u + 1 := ⟨v - 1, by omega⟩
    clear hv
    induction v with
    | zero => rfl
    | succ v ih => simp only [cnt] at *; rw [ih]; simp
  constructor
  · intro h x hx
    have hl := lab_lab e n k x
    have hle := lab_le e n k x
    have hxc := lab_cn (e := e) hn x
    by_cases hz : lab e n k x = 0
    · rw [hz] at hxc; exact hxc.symm
    · exfalso
      unfold parts at h
      have : 2 ≤ cnt (fun c => lab e n k c == c) v := by
        have h2 : cnt (fun c => c == 0 || c == lab e n k x) v = cnt (fun c => c == 0) v + 1 := cnt_one (m := lab e n k x) (by omega) (by simp) (by simpa using hz) (fun i hi hne => by simp [hne])
        have hmono : ∀ (p q : Nat → Bool) (u : Nat), (∀ i, p i = true → q i = true) → cnt p u ≤ cnt q u := by
          intro p q u hpq
          induction u with
          | zero => exact Nat.le_refl _
          | succ u ih =>
            simp only [cnt]
            have := hpq u
            cases hp : p u <;> cases hq : q u <;> simp_all <;> omega
        have h3 := hmono (fun c => c == 0 || c == lab e n k x) (fun c => lab e n k c == c) v (fun i hi => by
          simp at hi
          rcases hi with rfl | rfl
          · exact h0
          · simpa using hl)
        omega
      omega
  · intro h
    unfold parts
    rw [← hq]
    refine cnt_congr fun c hc => ?_
    have := lab_least hn (h c hc).symm
    rw [Bool.eq_iff_iff, beq_iff_eq, beq_iff_eq]
    constructor
    · intro h1; omega
    · rintro rfl; omega
def upd (D : Nat → Int) (y : Nat) (v : Int) : Nat → Int := fun c => if c = y then v else D c
/-- One direction of one cell. -/
def relax (s : Nat → Nat → Int) (x d : Nat) (S : (Nat → Int) × List Nat) : (Nat → Int) × List Nat :=
  if 0 ≤ s x d ∧ S.1 (s x d).toNat < 0 then (upd S.1 (s x d).toNat (S.1 x + 1), S.2 ++ [(s x d).toNat]) else S
def bround (s : Nat → Nat → Int) (x : Nat) (S : (Nat → Int) × List Nat) : (Nat → Int) × List Nat := relax s x 3 (relax s x 2 (relax s x 1 (relax s x 0 S)))
def bfsF (s : Nat → Nat → Int) : Nat → (Nat → Int) × List Nat → Nat → (Nat → Int)
  | 0, S, _ => S.1
  | f + 1, S, i => match S.2[i]? with
    | none => S.1
    | some x => bfsF s f (bround s x S) (i + 1)
/-- The distances from a cell, or -1. -/
def bfsD (s : Nat → Nat → Int) (v src : Nat) : Nat → Int := bfsF s (v + 1) (upd (fun _ => -1) src 0, [src]) 0
/-- Steps stay among v cells. -/
def Rng (s : Nat → Nat → Int) (v : Nat) : Prop := ∀ x d, x < v → d < 4 → s x d = -1 ∨ (0 ≤ s x d ∧ s x d < (v : Int))

structure BInv (s : Nat → Nat → Int) (v src : Nat) (S : (Nat → Int) × List Nat) (i : Nat) (m : Nat) : Prop where
  src0 : S.1 src = 0
  zero : ∀ c, S.1 c = 0 → c = src
  srcq : src ∈ S.2
  inr : ∀ c ∈ S.2, c < v
  nodup : S.2.Nodup
  neg : ∀ c, S.1 c = -1 ∨ 0 ≤ S.1 c
  mem : ∀ c, 0 ≤ S.1 c ↔ c ∈ S.2
  sorted : S.2.Pairwise (fun a b => S.1 a ≤ S.1 b)
  top : ∀ x, S.2[i]? = some x → ∀ c ∈ S.2, S.1 c ≤ S.1 x + 1
  done : ∀ j x, S.2[j]? = some x → ∀ d, d < 4 → (j < i ∨ (j = i ∧ d < m)) → 0 ≤ s x d → 0 ≤ S.1 (s x d).toNat ∧ S.1 (s x d).toNat ≤ S.1 x + 1
  pred : ∀ c ∈ S.2, c = src ∨ ∃ c' d, c' ∈ S.2 ∧ d < 4 ∧ s c' d = (c : Int) ∧ S.1 c = S.1 c' + 1
theorem BInv.start {s : Nat → Nat → Int} {v src : Nat} (h : src < v) : BInv s v src (upd (fun _ => -1) src 0, [src]) 0 0 where
  src0 := by simp [upd]
  zero := fun c => by simp only [upd]; split <;> simp_all
  srcq := by simp
  inr := by simpa using h
  nodup := by simp
  neg := fun c => by simp only [upd]; split <;> simp
  mem := fun c => by
    simp only [upd, List.mem_singleton]
    split
    · rename_i e; simp [e]
    · rename_i e; simp [e]
  sorted := by simp
  top := fun x hx c hc => by
    simp at hx hc
    subst hx hc
    omega
  done := fun j x hx d hd hj => by omega
  pred := fun c hc => .inl (by simpa using hc)
theorem BInv.relax {s : Nat → Nat → Int} {v src : Nat} (hs : Rng s v) {S : (Nat → Int) × List Nat} {i m x : Nat} (hm : m < 4) (hx : S.2[i]? = some x) (I : BInv s v src S i m) :
    BInv s v src (relax s x m S) i (m + 1) ∧ (relax s x m S).2[i]? = some x := by
  have hxq : x ∈ S.2 := List.mem_of_getElem? hx
  have hi : i < S.2.length := by
    rcases Nat.lt_or_ge i S.2.length with h | h
    · exact h
    · rw [List.getElem?_eq_none h] at hx; cases hx
  have hxv := I.inr x hxq
  have hx0 := (I.mem x).2 hxq
  unfold Go.Proofs.Ytcajhmldbkfhiaa.P.relax
  by_cases hc : 0 ≤ s x m ∧ S.1 (s x m).toNat < 0
  · rw [if_pos hc]
    obtain ⟨y, hy⟩ : ∃ y : Nat, s x m = y := ⟨(s x m).toNat, by omega⟩
    have hyv : y < v := by have := hs x m hxv hm; omega
    rw [hy] at hc ⊢
    simp only [Int.toNat_natCast] at hc ⊢
    have hyq : y ∉ S.2 := fun h => by have := (I.mem y).2 h; omega
    have keep : ∀ c, c ∈ S.2 → upd S.1 y (S.1 x + 1) c = S.1 c := by
      intro c h
      unfold upd
      rw [if_neg]
      rintro rfl
      exact hyq h
    have uy : upd S.1 y (S.1 x + 1) y = S.1 x + 1 := by unfold upd; rw [if_pos rfl]
    have idx : ∀ j z, (S.2 ++ [y])[j]? = some z → S.2[j]? = some z ∨ (j = S.2.length ∧ z = y) := by
      intro j z h
      rcases Nat.lt_or_ge j S.2.length with h1 | h1
      · rw [List.getElem?_append_left h1] at h; exact .inl h
      · rw [List.getElem?_append_right h1] at h
        have : j - S.2.length = 0 := by
          rcases Nat.eq_zero_or_pos (j - S.2.length) with h2 | h2
          · exact h2
          · rw [List.getElem?_eq_none (by simp only [List.length_singleton]; omega)] at h; cases h
        rw [this] at h
        simp at h
        exact .inr ⟨by omega, h.symm⟩
    have I0 : ∀ c, (upd S.1 y (S.1 x + 1), S.2 ++ [y]).1 c = 0 → c = src := by
      intro c
      show upd _ _ _ c = 0 → _
      unfold upd
      split
      · intro h; omega
      · exact I.zero c
    refine ⟨{ src0 := ?_, zero := I0, srcq := ?_, inr := ?_, nodup := ?_, neg := ?_, mem := ?_, sorted := ?_, top := ?_, done := ?_, pred := ?_ }, by rw [List.getElem?_append_left hi]; exact hx⟩
    · show upd _ _ _ src = 0
      rw [keep _ I.srcq]; exact I.src0
    · exact List.mem_append_left _ I.srcq
    · intro c hcq
      rcases List.mem_append.1 hcq with h | h
      · exact I.inr c h
      · simp at h; omega
    · rw [List.nodup_append]
      refine ⟨I.nodup, by simp, ?_⟩
      intro a ha b hb hab
      simp at hb
      subst hab hb
      exact hyq ha
    · intro c
      show upd _ _ _ c = -1 ∨ 0 ≤ upd _ _ _ c
      by_cases e : c = y
      · subst e; rw [uy]; omega
      · rw [show upd S.1 y (S.1 x + 1) c = S.1 c from if_neg e]; exact I.neg c
    · intro c
      rw [List.mem_append, List.mem_singleton]
      show 0 ≤ upd _ _ _ c ↔ _
      unfold upd
      by_cases e : c = y
      · rw [if_pos e]; exact ⟨fun _ => .inr e, fun _ => by omega⟩
      · rw [if_neg e, I.mem]; simp [e]
    · rw [List.pairwise_append]
      refine ⟨I.sorted.imp_of_mem fun {a b} ha hb h => ?_, by simp, ?_⟩
      · show upd _ _ _ a ≤ upd _ _ _ b
        rw [keep a ha, keep b hb]; exact h
      · intro a ha b hb
        simp at hb
        subst hb
        show upd _ _ _ a ≤ upd _ _ _ b
        rw [keep a ha, uy]
        exact I.top x hx a ha
    · intro z hz c hcq
      rw [List.getElem?_append_left hi, hx] at hz
      obtain rfl := Option.some.inj hz
      show upd _ _ _ c ≤ upd _ _ _ x + 1
      rw [keep x hxq]
      rcases List.mem_append.1 hcq with h | h
      · rw [keep c h]; exact I.top x hx c h
      · simp at h; subst h; rw [uy]; omega
    · intro j z hz d hd hj h0
      rcases idx j z hz with h | ⟨h, _⟩
      · have hzq : z ∈ S.2 := List.mem_of_getElem? h
        show 0 ≤ upd _ _ _ _ ∧ upd _ _ _ _ ≤ upd _ _ _ z + 1
        rw [keep z hzq]
        by_cases e : j = i ∧ d = m
        · obtain ⟨rfl, rfl⟩ := e
          rw [hx] at h
          obtain rfl := Option.some.inj h
          rw [hy, Int.toNat_natCast, uy]
          omega
        · have := I.done j z h d hd (by omega) h0
          have h1 := (I.mem _).1 this.1
          rw [keep _ h1]
          exact this
      · omega
    · intro c hcq
      rcases List.mem_append.1 hcq with h | h
      · rcases I.pred c h with h1 | ⟨c', d, h1, h2, h3, h4⟩
        · exact .inl h1
        · refine .inr ⟨c', d, List.mem_append_left _ h1, h2, h3, ?_⟩
          show upd _ _ _ c = upd _ _ _ c' + 1
          rw [keep c h, keep c' h1]; exact h4
      · simp at h
        subst h
        refine .inr ⟨x, m, List.mem_append_left _ hxq, hm, hy, ?_⟩
        show upd _ _ _ c = upd _ _ _ x + 1
        rw [uy, keep x hxq]
  · rw [if_neg hc]
    refine ⟨{ I with done := ?_ }, hx⟩
    intro j z hz d hd hj h0
    by_cases e : j = i ∧ d = m
    · obtain ⟨rfl, rfl⟩ := e
      rw [hx] at hz
      obtain rfl := Option.some.inj hz
      have h1 : 0 ≤ S.1 (s x d).toNat := by
        have := I.neg (s x d).toNat
        omega
      exact ⟨h1, I.top x hx _ ((I.mem _).1 h1)⟩
    · exact I.done j z hz d hd (by omega) h0
theorem BInv.next {s : Nat → Nat → Int} {v src : Nat} {S : (Nat → Int) × List Nat} {i x : Nat} (hx : S.2[i]? = some x) (I : BInv s v src S i 4) : BInv s v src S (i + 1) 0 :=
  { I with
    top := fun z hz c hc => by
      have h1 := I.top x hx c hc
      have h2 := List.pairwise_iff_getElem.1 I.sorted i (i + 1)
      obtain ⟨a, rfl⟩ := List.getElem?_eq_some_iff.1 hx
      obtain ⟨b, rfl⟩ := List.getElem?_eq_some_iff.1 hz
      have := h2 a b (by omega)
      omega
    done := fun j z hz d hd hj h0 => I.done j z hz d hd (by omega) h0 }
theorem BInv.round {s : Nat → Nat → Int} {v src : Nat} (hs : Rng s v) {S : (Nat → Int) × List Nat} {i x : Nat} (hx : S.2[i]? = some x) (I : BInv s v src S i 0) : BInv s v src (bround s x S) (i + 1) 0 := by
  obtain ⟨I1, h1⟩ := I.relax hs (by omega) hx
  obtain ⟨I2, h2⟩ := I1.relax hs (by omega) h1
  obtain ⟨I3, h3⟩ := I2.relax hs (by omega) h2
  obtain ⟨I4, h4⟩ := I3.relax hs (by omega) h3
  exact I4.next h4
theorem nodup_len {v : Nat} : ∀ {q : List Nat}, q.Nodup → (∀ c ∈ q, c < v) → q.length ≤ v := by
  induction v with
  | zero =>
    intro q _ h
    cases q with
    | nil => simp
    | cons a l => have := h a (by simp); omega
  | succ v ih =>
    intro q hn h
    have h1 := ih (q := q.erase v) (hn.erase v) (fun c hc => by
      have h1 := h c (List.mem_of_mem_erase hc)
      have : c ≠ v := by rintro rfl; exact absurd hc (List.Nodup.not_mem_erase hn)
      omega)
    have h2 := List.length_erase (a := v) (l := q)
    split at h2 <;> omega
theorem BInv.len {s : Nat → Nat → Int} {v src : Nat} {S : (Nat → Int) × List Nat} {i m : Nat} (I : BInv s v src S i m) : S.2.length ≤ v := nodup_len I.nodup I.inr
/-- What distances are. -/
structure Dist (s : Nat → Nat → Int) (v src : Nat) (D : Nat → Int) : Prop where
  src0 : D src = 0
  zero : ∀ c, D c = 0 → c = src
  neg : ∀ c, D c = -1 ∨ 0 ≤ D c
  inr : ∀ c, 0 ≤ D c → c < v
  lip : ∀ x d, d < 4 → 0 ≤ D x → 0 ≤ s x d → 0 ≤ D (s x d).toNat ∧ D (s x d).toNat ≤ D x + 1
  pred : ∀ c, 0 < D c → ∃ c' d, d < 4 ∧ s c' d = (c : Int) ∧ 0 ≤ D c' ∧ D c = D c' + 1
theorem BInv.dist {s : Nat → Nat → Int} {v src : Nat} {S : (Nat → Int) × List Nat} {i : Nat} (hi : S.2[i]? = none) (I : BInv s v src S i 0) : Dist s v src S.1 where
  src0 := I.src0
  zero := I.zero
  neg := I.neg
  inr := fun c h => I.inr c ((I.mem c).1 h)
  lip := fun x d hd hx h0 => by
    obtain ⟨j, hj⟩ := List.mem_iff_getElem?.1 ((I.mem x).1 hx)
    refine I.done j x hj d hd (.inl ?_) h0
    rcases Nat.lt_or_ge j i with h | h
    · exact h
    · rw [List.getElem?_eq_none_iff] at hi
      rw [List.getElem?_eq_none (by omega)] at hj
      cases hj
  pred := fun c h => by
    rcases I.pred c ((I.mem c).1 (by omega)) with h1 | ⟨c', d, h1, h2, h3, h4⟩
    · rw [h1, I.src0] at h; omega
    · exact ⟨c', d, h2, h3, (I.mem c').2 h1, h4⟩
theorem bfsF_dist {s : Nat → Nat → Int} {v src : Nat} (hs : Rng s v) : ∀ (f : Nat) (S : (Nat → Int) × List Nat) (i : Nat), BInv s v src S i 0 → i ≤ S.2.length → v + 1 - i ≤ f → Dist s v src (bfsF s f S i)
  | 0, S, i, I, hi, hf => by have := I.len; omega
  | f + 1, S, i, I, hi, hf => by
    simp only [bfsF]
    cases h : S.2[i]? with
    | none => exact I.dist h
    | some x =>
      have I2 := I.round hs h
      have hl : S.2.length ≤ (bround s x S).2.length := by
        have h1 : ∀ m T, T.2.length ≤ (Go.Proofs.Ytcajhmldbkfhiaa.P.relax s x m T).2.length := by
          intro m T
          unfold Go.Proofs.Ytcajhmldbkfhiaa.P.relax
          split <;> simp
        exact Nat.le_trans (h1 0 S) (Nat.le_trans (h1 1 _) (Nat.le_trans (h1 2 _) (h1 3 _)))
      have h2 := (List.getElem?_eq_some_iff.1 h).1
      exact bfsF_dist hs f _ (i + 1) I2 (by omega) (by omega)
theorem bfsD_dist {s : Nat → Nat → Int} {v src : Nat} (hs : Rng s v) (h : src < v) : Dist s v src (bfsD s v src) := bfsF_dist hs _ _ 0 (BInv.start h) (by simp) (by omega)
/-- Steps are the edges of n. -/
structure Net (s : Nat → Nat → Int) (e : Nat → Nat × Nat) (v n : Nat) : Prop where
  rng : Rng s v
  edge : ∀ x d, x < v → d < 4 → 0 ≤ s x d → ∃ k, n.testBit k = true ∧ (e k = (x, (s x d).toNat) ∨ e k = ((s x d).toNat, x))
  lt : ∀ k, n.testBit k = true → (e k).1 < v ∧ (e k).2 < v
  fwd : ∀ k, n.testBit k = true → ∃ d, d < 4 ∧ s (e k).1 d = ((e k).2 : Int)
  bwd : ∀ k, n.testBit k = true → ∃ d, d < 4 ∧ s (e k).2 d = ((e k).1 : Int)
theorem Dist.cn {s : Nat → Nat → Int} {e : Nat → Nat × Nat} {v n src : Nat} {D : Nat → Int} (N : Net s e v n) (I : Dist s v src D) (c : Nat) : 0 ≤ D c ↔ Cn e n src c := by
  constructor
  · intro h
    obtain ⟨m, hm⟩ : ∃ m : Nat, D c = m := ⟨(D c).toNat, by omega⟩
    clear h
    induction m using Nat.strongRecOn generalizing c with
    | _ m ih =>
      by_cases h0 : 0 < D c
      · obtain ⟨c', d, hd, h1, h2, h3⟩ := I.pred c h0
        have := ih (D c').toNat (by omega) c' (by omega)
        obtain ⟨k, hk, hk2⟩ := N.edge c' d (I.inr _ h2) hd (by omega)
        rw [h1] at hk2
        simp only [Int.toNat_natCast] at hk2
        rcases hk2 with h | h
        · have e1 := Cn.edge (e := e) hk
          rw [h] at e1
          exact this.trans e1
        · have e1 := Cn.edge' (e := e) hk
          rw [h] at e1
          exact this.trans e1
      · rw [I.zero c (by omega)]
        exact .refl _
  · intro h
    induction h with
    | refl => rw [I.src0]; omega
    | fwd k hk _ ih =>
      obtain ⟨d, hd, h1⟩ := N.fwd k hk
      have := I.lip _ d hd ih (by omega)
      rw [h1] at this
      simpa using this.1
    | bwd k hk _ ih =>
      obtain ⟨d, hd, h1⟩ := N.bwd k hk
      have := I.lip _ d hd ih (by omega)
      rw [h1] at this
      simpa using this.1
def cellsN (w h : Int) : Nat := (cellsOf w h).toNat
theorem cellsN_cast (w h : Int) : ((cellsN w h : Nat) : Int) = cellsOf w h := by have := cellsOf_range w h; unfold cellsN; omega
theorem cellsN_le (w h : Int) : cellsN w h ≤ 16 := by have := cellsOf_range w h; unfold cellsN; omega
def ends (w h : Int) (g : Nat) : Nat × Nat := ((endsI w h g).1.toNat, (endsI w h g).2.toNat)
def st (w h : Int) (n : Nat) (c d : Nat) : Int := stepI w h n c d
theorem ends_facts {w h : Int} {g : Nat} (hg : g < gapsN w h) : endsI w h g = (((ends w h g).1 : Int), ((ends w h g).2 : Int)) ∧ (ends w h g).1 < (ends w h g).2 ∧ (ends w h g).2 < cellsN w h := by
  have hc := gapsN_cast w h
  have hc2 := cellsN_cast w h
  obtain ⟨h1, h2, h3, _⟩ := end_facts (w := w) (h := h) (g := g) (by omega) (by omega)
  unfold ends
  refine ⟨?_, by simp only; omega, by simp only; omega⟩
  apply Prod.ext
  · simp only; omega
  · simp only; omega
theorem gr_grid (w h : Int) : Gr (ends w h) (cellsN w h) (gapsN w h) := fun g hg => by
  have := ends_facts hg
  omega
theorem step_open {w h : Int} {n : Nat} {c d : Int} (hn : n < 2 ^ gapsN w h) (h0 : 0 ≤ stepI w h n c d) : ∃ g : Nat, g < gapsN w h ∧ gapI w h c d = g ∧ n.testBit g = true ∧ stepI w h n c d = nbI w h c d ∧ endsI w h g = (min c (nbI w h c d), max c (nbI w h c d)) := by
  have hc := gapsN_cast w h
  unfold stepI at *
  by_cases ho : openI n (gapI w h c d) = true
  · rw [if_pos ho] at *
    rcases step_facts w h c d with ⟨h1, _⟩ | ⟨h1, h2, h3, h4, h5, h6, _⟩
    · omega
    · refine ⟨(gapI w h c d).toNat, by omega, by omega, ?_, rfl, ?_⟩
      · unfold openI at ho
        simp only [Bool.and_eq_true] at ho
        exact ho.2
      · rw [show (((gapI w h c d).toNat : Nat) : Int) = gapI w h c d by omega]; exact h6
  · rw [if_neg ho] at h0; omega
theorem net_grid {w h : Int} {n : Nat} (hn : n < 2 ^ gapsN w h) : Net (st w h n) (ends w h) (cellsN w h) n where
  rng := fun x d _ _ => by
    have := cellsN_cast w h
    unfold st
    rcases step_lt (w := w) (h := h) (c := x) (d := d) (n := n) with h1 | h1
    · exact .inl h1
    · exact .inr (by omega)
  edge := fun x d hx hd h0 => by
    unfold st at *
    obtain ⟨g, h1, h2, h3, h4, h5⟩ := step_open hn h0
    refine ⟨g, h3, ?_⟩
    unfold ends
    rw [h5, h4]
    rw [h4] at h0
    rcases Int.le_total x (nbI w h x d) with hl | hl
    · left
      rw [Int.min_eq_left hl, Int.max_eq_right hl]; rfl
    · right
      rw [Int.min_eq_right hl, Int.max_eq_left hl]; rfl
  lt := fun k hk => by
    have := ends_facts (lt_of_testBit hn hk)
    omega
  fwd := fun k hk => by
    have hkg := lt_of_testBit hn hk
    have hc := gapsN_cast w h
    obtain ⟨e1, e2, e3⟩ := ends_facts hkg
    obtain ⟨_, _, _, h4⟩ := end_facts (w := w) (h := h) (g := k) (by omega) (by omega)
    rw [e1] at h4
    simp only at h4
    have ho : openI n (k : Int) = true := by unfold openI; simp [hk]
    rcases h4 with ⟨a, b⟩ | ⟨a, b⟩
    · exact ⟨1, by omega, by unfold st stepI; rw [show ((1 : Nat) : Int) = 1 from rfl, b, if_pos ho, a]⟩
    · exact ⟨2, by omega, by unfold st stepI; rw [show ((2 : Nat) : Int) = 2 from rfl, b, if_pos ho, a]⟩
  bwd := fun k hk => by
    have hkg := lt_of_testBit hn hk
    have hc := gapsN_cast w h
    obtain ⟨e1, e2, e3⟩ := ends_facts hkg
    obtain ⟨_, _, _, h4⟩ := end_facts (w := w) (h := h) (g := k) (by omega) (by omega)
    rw [e1] at h4
    simp only at h4
    have ho : openI n (k : Int) = true := by unfold openI; simp [hk]
    rcases h4 with ⟨a, b⟩ | ⟨a, b⟩
    · rcases step_facts w h (ends w h k).1 1 with ⟨q, _⟩ | ⟨q1, q2, q3, q4, q5, q6, q7, q8⟩
      · omega
      · rw [a] at q7 q8
        exact ⟨3, by omega, by unfold st stepI; rw [show ((3 : Nat) : Int) = (1 + 2) % 4 from rfl, q8, b, if_pos ho, q7]⟩
    · rcases step_facts w h (ends w h k).1 2 with ⟨q, _⟩ | ⟨q1, q2, q3, q4, q5, q6, q7, q8⟩
      · omega
      · rw [a] at q7 q8
        exact ⟨0, by omega, by unfold st stepI; rw [show ((0 : Nat) : Int) = (2 + 2) % 4 from rfl, q8, b, if_pos ho, q7]⟩
/-- The distance from a cell, or -1. -/
def distN (w h : Int) (n s : Nat) : Nat → Int := bfsD (st w h n) (cellsN w h) s
theorem distN_dist {w h : Int} {n s : Nat} (hn : n < 2 ^ gapsN w h) (hs : s < cellsN w h) : Dist (st w h n) (cellsN w h) s (distN w h n s) := bfsD_dist (net_grid hn).rng hs
theorem distN_cn {w h : Int} {n s : Nat} (hn : n < 2 ^ gapsN w h) (hs : s < cellsN w h) (c : Nat) : 0 ≤ distN w h n s c ↔ Cn (ends w h) n s c := (distN_dist hn hs).cn (net_grid hn) c
end Go.Proofs.Ytcajhmldbkfhiaa.P
namespace Go.Proofs.Ytcajhmldbkfhiaa.P
open Go.RowKit Go.Proofs.YtcajhmldbkfhiaaW.PrintWords
set_option linter.unusedVariables false
set_option linter.unusedSimpArgs false

def dl (x y : Nat) : Int := if x = y then 1 else 0
/-- An edge as a vector over the vertices that stand for their parts, without the root. -/
def vg (l : Nat → Nat) (r : Nat) (e : Nat × Nat) (x : Nat) : Int := if x = r then 0 else dl x (l e.1) - dl x (l e.2)
section
variable {e : Nat → Nat × Nat} {E : Nat} {l : Nat → Nat} {r : Nat} {U : Nat → Bool} {g P Q : Nat}
variable (hl : ∀ x, l (l x) = l x) (hr : l r = r) (hg : g < E) (hU : U g = true) (hP : P = l (e g).1 ∧ Q = l (e g).2 ∨ P = l (e g).2 ∧ Q = l (e g).1) (hPQ : P ≠ Q)
include hl hr hg hU hP hPQ
end
end Go.Proofs.Ytcajhmldbkfhiaa.P
namespace Go.Proofs.Ytcajhmldbkfhiaa.P
open Go.RowKit Go.Proofs.YtcajhmldbkfhiaaW.PrintWords
set_option linter.unusedVariables false
set_option linter.unusedSimpArgs false

/-- One part, and no loop. -/
def perf (e : Nat → Nat × Nat) (V E t : Nat) : Bool := decide (parts e V E t = 1 ∧ pop E t + 1 = V)
theorem perf_iff {e : Nat → Nat × Nat} {V E t : Nat} : perf e V E t = true ↔ parts e V E t = 1 ∧ pop E t + 1 = V := by unfold perf; rw [decide_eq_true_eq]
end Go.Proofs.Ytcajhmldbkfhiaa.P
namespace Go.Proofs.Ytcajhmldbkfhiaa.P
open Go.RowKit Go.Proofs.YtcajhmldbkfhiaaW.PrintWords
set_option linter.unusedVariables false
set_option linter.unusedSimpArgs false

section
variable {s : Nat → Nat → Int} {e : Nat → Nat × Nat} {v n z : Nat} {D : Nat → Int}
/-- An edge that stands for a step. -/
theorem Net.edge_of (N : Net s e v n) {x d y : Nat} (hx : x < v) (hd : d < 4) (h : s x d = (y : Int)) : ∃ k, n.testBit k = true ∧ (e k = (x, y) ∨ e k = (y, x)) := by
  obtain ⟨k, hk, h2⟩ := N.edge x d hx hd (by omega)
  rw [h, Int.toNat_natCast] at h2
  exact ⟨k, hk, h2⟩
theorem Net.bwd_of (N : Net s e v n) {x d y : Nat} (hx : x < v) (hd : d < 4) (h : s x d = (y : Int)) : ∃ d', d' < 4 ∧ s y d' = (x : Int) := by
  obtain ⟨k, hk, h2 | h2⟩ := N.edge_of hx hd h
  · have := N.bwd k hk
    rw [h2] at this
    exact this
  · have := N.fwd k hk
    rw [h2] at this
    exact this
/-- Neighbors are at most one step apart. -/
theorem Dist.near (N : Net s e v n) (I : Dist s v z D) {x d y : Nat} (hx : x < v) (hd : d < 4) (h : s x d = (y : Int)) : (0 ≤ D x ↔ 0 ≤ D y) ∧ D y ≤ D x + 1 ∧ D x ≤ D y + 1 := by
  obtain ⟨d', hd', h'⟩ := N.bwd_of hx hd h
  have a := fun h0 => I.lip x d hd h0 (by omega)
  have b := fun h0 => I.lip y d' hd' h0 (by omega)
  rw [h, Int.toNat_natCast] at a
  rw [h', Int.toNat_natCast] at b
  have := I.neg x
  have := I.neg y
  by_cases h1 : 0 ≤ D x
  · have := a h1
    have := b this.1
    omega
  · by_cases h2 : 0 ≤ D y
    · have := b h2; omega
    · omega
/-- Every cell that is nearer leads on without c. -/
theorem Dist.around (N : Net s e v n) (I : Dist s v z D) {g c : Nat} (hc : (e g).1 = c ∨ (e g).2 = c) : ∀ (m : Nat) (y : Nat), D y = m → D y < D c → Cn e (setB n g false) y z
  | m, y, hm, hy => by
    rcases Nat.eq_zero_or_pos m with h0 | h0
    · rw [I.zero y (by omega)]; exact .refl _
    · obtain ⟨y', d, hd, h1, h2, h3⟩ := I.pred y (by omega)
      obtain ⟨k, hk, hk2⟩ := N.edge_of (I.inr _ h2) hd h1
      have hkg : k ≠ g := by
        rintro rfl
        rcases hk2 with q | q <;> rw [q] at hc <;> simp only at hc <;> rcases hc with rfl | rfl <;> omega
      have hk' : (setB n g false).testBit k = true := by rw [setB_ne _ hkg]; exact hk
      have ih := Dist.around N I hc (m - 1) y' (by omega) (by omega)
      rcases hk2 with q | q
      · have := Cn.edge' (e := e) hk'
        rw [q] at this
        exact this.trans ih
      · have := Cn.edge (e := e) hk'
        rw [q] at this
        exact this.trans ih
  termination_by m => m
  decreasing_by omega
end
end Go.Proofs.Ytcajhmldbkfhiaa.P
namespace Go.Proofs.Ytcajhmldbkfhiaa.P
open Go.RowKit Go.Proofs.YtcajhmldbkfhiaaW.PrintWords
set_option linter.unusedVariables false
set_option linter.unusedSimpArgs false

theorem filter_head {p : Nat → Bool} {m v : Nat} (hm : m < v) (hp : p m = true) (h : ∀ i, i < m → p i = false) : ∃ t, (List.range v).filter p = m :: t := by
  obtain ⟨d, rfl⟩ : ∃ d, v = m + (d + 1) := ⟨v - m - 1, by omega⟩
  rw [List.range_add, List.filter_append]
  have h1 : (List.range m).filter p = [] := by
    rw [List.filter_eq_nil_iff]
    intro a ha
    rw [h a (List.mem_range.1 ha)]
    simp
  rw [h1, List.nil_append, List.range_succ_eq_map, List.map_cons, Nat.add_zero, List.filter_cons, if_pos hp]
  exact ⟨_, rfl⟩
/-- The cells that are reached, in ascending order. -/
def reachN (w h : Int) (n s : Nat) : List Nat := (List.range (cellsN w h)).filter fun c => decide (0 ≤ distN w h n s c)
/-- The least cell of the part of a cell. -/
def labN (w h : Int) (n c : Nat) : Nat := lab (ends w h) n (gapsN w h) c
theorem reachN_head {w h : Int} {n s : Nat} (hn : n < 2 ^ gapsN w h) (hs : s < cellsN w h) : ∃ t, reachN w h n s = labN w h n s :: t := by
  have hle := lab_le (ends w h) n (gapsN w h) s
  refine filter_head (show labN w h n s < cellsN w h by unfold labN; omega) ?_ ?_
  · rw [decide_eq_true_eq, distN_cn hn hs]
    exact lab_cn hn s
  · intro i hi
    rw [decide_eq_false_iff_not, distN_cn hn hs]
    intro hc
    have := lab_least hn hc
    unfold labN at hi
    omega
def partsN (w h : Int) (n : Nat) : Nat := parts (ends w h) (cellsN w h) (gapsN w h) n
def perfN (w h : Int) (n : Nat) : Bool := perf (ends w h) (cellsN w h) (gapsN w h) n
theorem cells_pos {w h : Int} (hg : gridOk w h = true) : 1 ≤ cellsN w h := by
  unfold cellsN cellsOf
  rw [if_pos hg]
  obtain ⟨h1 | h1 | h1 | h1, h2 | h2 | h2 | h2⟩ := grid_cases hg <;> subst h1 <;> subst h2 <;> decide
end Go.Proofs.Ytcajhmldbkfhiaa.P
namespace Go.Proofs.Ytcajhmldbkfhiaa.P
open Go.RowKit Go.Proofs.YtcajhmldbkfhiaaW.PrintWords
set_option linter.unusedVariables false
set_option linter.unusedSimpArgs false

section
variable {w h : Int} {n z : Nat}
/-- The first direction that leads nearer. -/
def nearDir (w h : Int) (n z c : Nat) : Nat :=
  if 0 ≤ st w h n c 0 ∧ distN w h n z (st w h n c 0).toNat < distN w h n z c then 0
  else if 0 ≤ st w h n c 1 ∧ distN w h n z (st w h n c 1).toNat < distN w h n z c then 1
  else if 0 ≤ st w h n c 2 ∧ distN w h n z (st w h n c 2).toNat < distN w h n z c then 2 else 3
def nearCell (w h : Int) (n z c : Nat) : Nat := (st w h n c (nearDir w h n z c)).toNat
def nearGap (w h : Int) (n c z : Nat) : Nat := (gapI w h c (nearDir w h n z c)).toNat
/-- The directions of the way, and its gaps. -/
def wayD (w h : Int) (n z : Nat) : Nat → Nat → List Nat
  | 0, _ => []
  | m + 1, c => nearDir w h n z c :: wayD w h n z m (nearCell w h n z c)
def wayG (w h : Int) (n z : Nat) : Nat → Nat → List Nat
  | 0, _ => []
  | m + 1, c => nearGap w h n c z :: wayG w h n z m (nearCell w h n z c)
theorem nearDir_lt (w h : Int) (n z c : Nat) : nearDir w h n z c < 4 := by
  unfold nearDir
  split
  · omega
  · split
    · omega
    · split <;> omega
/-- There is a direction that leads nearer, and what it leads through. -/
theorem near_facts (hn : n < 2 ^ gapsN w h) (hz : z < cellsN w h) {c : Nat} (hc : c < cellsN w h) (h0 : 0 < distN w h n z c) :
    st w h n c (nearDir w h n z c) = (nearCell w h n z c : Int) ∧ nearCell w h n z c < cellsN w h ∧ distN w h n z (nearCell w h n z c) + 1 = distN w h n z c ∧
    nearGap w h n c z < gapsN w h ∧ gapI w h c (nearDir w h n z c) = (nearGap w h n c z : Int) ∧ n.testBit (nearGap w h n c z) = true ∧
    (ends w h (nearGap w h n c z) = (c, nearCell w h n z c) ∨ ends w h (nearGap w h n c z) = (nearCell w h n z c, c)) ∧
    (∀ d, d < nearDir w h n z c → ¬ (0 ≤ st w h n c d ∧ distN w h n z (st w h n c d).toNat < distN w h n z c)) := by
  have I := distN_dist hn hz
  have N := net_grid hn
  obtain ⟨c', d', hd', hp1, hp2, hp3⟩ := I.pred c h0
  obtain ⟨dd, hdd, hback⟩ := N.bwd_of (I.inr _ hp2) hd' hp1
  have hlt : distN w h n z c' < distN w h n z c := by omega
  have hex : 0 ≤ st w h n c (nearDir w h n z c) ∧ distN w h n z (st w h n c (nearDir w h n z c)).toNat < distN w h n z c := by
    have hq : 0 ≤ st w h n c dd ∧ distN w h n z (st w h n c dd).toNat < distN w h n z c := by rw [hback]; exact ⟨by omega, by simpa using hlt⟩
    unfold nearDir
    split
    · assumption
    · split
      · assumption
      · split
        · assumption
        · have : dd = 0 ∨ dd = 1 ∨ dd = 2 ∨ dd = 3 := by omega
          rcases this with rfl | rfl | rfl | rfl
          · contradiction
          · contradiction
          · contradiction
          · exact hq
  have h4 := nearDir_lt w h n z c
  have hcell : st w h n c (nearDir w h n z c) = (nearCell w h n z c : Int) := by unfold nearCell; omega
  have hcl : nearCell w h n z c < cellsN w h := by
    have := N.rng c (nearDir w h n z c) hc h4
    rw [hcell] at this
    omega
  have hnear := I.near N hc h4 hcell
  have hl2 : distN w h n z (nearCell w h n z c) < distN w h n z c := by have := hex.2; unfold nearCell; exact this
  obtain ⟨g, g1, g2, g3, g4, g5⟩ := step_open (w := w) (h := h) (c := c) (d := nearDir w h n z c) hn hex.1
  have hgap : nearGap w h n c z = g := by unfold nearGap; omega
  have hnb : nbI w h c (nearDir w h n z c) = (nearCell w h n z c : Int) := by rw [← hcell, ← g4]; rfl
  refine ⟨hcell, hcl, by omega, by omega, by rw [hgap]; exact g2, by rw [hgap]; exact g3, ?_, ?_⟩
  · rw [hgap]
    unfold ends
    rw [g5, hnb]
    rcases Int.le_total (c : Int) (nearCell w h n z c : Int) with hl | hl
    · left; rw [Int.min_eq_left hl, Int.max_eq_right hl]; simp
    · right; rw [Int.min_eq_right hl, Int.max_eq_left hl]; simp
  · intro d hd
    unfold nearDir at hd
    split at hd
    · omega
    · split at hd
      · obtain rfl : d = 0 := by omega
        assumption
      · split at hd
        · have : d = 0 ∨ d = 1 := by omega
          rcases this with rfl | rfl <;> assumption
        · have : d = 0 ∨ d = 1 ∨ d = 2 := by omega
          rcases this with rfl | rfl | rfl <;> assumption
theorem wayD_len (m c : Nat) : (wayD w h n z m c).length = m := by
  induction m generalizing c with
  | zero => rfl
  | succ m ih => simp [wayD, ih]
theorem wayG_len (m c : Nat) : (wayG w h n z m c).length = m := by
  induction m generalizing c with
  | zero => rfl
  | succ m ih => simp [wayG, ih]
theorem wayG_lt (hn : n < 2 ^ gapsN w h) (hz : z < cellsN w h) : ∀ (m c : Nat), c < cellsN w h → distN w h n z c = m → ∀ k ∈ wayG w h n z m c, k < gapsN w h ∧ n.testBit k = true
  | 0, c, hc, hm, k, hk => by cases hk
  | m + 1, c, hc, hm, k, hk => by
    obtain ⟨_, f2, f3, f4, _, f6, _⟩ := near_facts hn hz hc (by omega)
    rcases List.mem_cons.1 hk with rfl | hk
    · exact ⟨f4, f6⟩
    · exact wayG_lt hn hz m _ f2 (by omega) k hk
/-- The gaps of the way are those without which there is none. -/
theorem wayG_bridge (hn : n < 2 ^ gapsN w h) (hz : z < cellsN w h) (hp : pop (gapsN w h) n + partsN w h n = cellsN w h) : ∀ (m c : Nat), c < cellsN w h → distN w h n z c = m →
    (∀ k, k ∈ wayG w h n z m c ↔ n.testBit k = true ∧ ¬ Cn (ends w h) (setB n k false) c z) ∧ (wayG w h n z m c).Nodup
  | 0, c, hc, hm => by
    have I := distN_dist hn hz
    obtain rfl := I.zero c (by omega)
    exact ⟨fun k => ⟨fun h => (by cases h), fun h => absurd (Cn.refl _) h.2⟩, List.nodup_nil⟩
  | m + 1, c, hc, hm => by
    have I := distN_dist hn hz
    have N := net_grid hn
    obtain ⟨f1, f2, f3, f4, f5, f6, f7, _⟩ := near_facts hn hz hc (by omega)
    obtain ⟨ih, ihn⟩ := wayG_bridge hn hz hp m (nearCell w h n z c) f2 (by omega)
    have hend : (ends w h (nearGap w h n c z)).1 = c ∨ (ends w h (nearGap w h n c z)).2 = c := by rcases f7 with q | q <;> rw [q] <;> simp
    have haround := I.around N hend m (nearCell w h n z c) (by omega) (by omega)
    have hbr := bridge_of_forest (gr_grid w h) hn hp f6
    have hone : ∀ k, k ≠ nearGap w h n c z → Cn (ends w h) (setB n k false) c (nearCell w h n z c) := by
      intro k hk
      have hb : (setB n k false).testBit (nearGap w h n c z) = true := by rw [setB_ne _ (Ne.symm hk)]; exact f6
      rcases f7 with q | q
      · have := Cn.edge (e := ends w h) hb; rwa [q] at this
      · have := Cn.edge' (e := ends w h) hb; rwa [q] at this
    have hnot : nearGap w h n c z ∉ wayG w h n z m (nearCell w h n z c) := fun hm => ((ih _).1 hm).2 haround
    refine ⟨fun k => ?_, List.nodup_cons.2 ⟨hnot, ihn⟩⟩
    unfold wayG
    rw [List.mem_cons]
    by_cases e : k = nearGap w h n c z
    · subst e
      refine ⟨fun _ => ⟨f6, fun hcz => ?_⟩, fun _ => .inl rfl⟩
      have hcc := hcz.trans haround.symm
      rcases f7 with q | q <;> rw [q] at hbr
      · exact hbr hcc
      · exact hbr hcc.symm
    · rw [ih k]
      constructor
      · rintro (e1 | ⟨h1, h2⟩)
        · exact absurd e1 e
        · exact ⟨h1, fun hcz => h2 ((hone k e).symm.trans hcz)⟩
      · rintro ⟨h1, h2⟩
        exact .inr ⟨h1, fun hcz => h2 ((hone k e).trans hcz)⟩
end
end Go.Proofs.Ytcajhmldbkfhiaa.P
namespace Go.Proofs.Ytcajhmldbkfhiaa.P
open Go.RowKit Go.Proofs.YtcajhmldbkfhiaaW.PrintWords
set_option linter.unusedVariables false
set_option linter.unusedSimpArgs false

section
variable {α : Type}
def it (p : α → α) : Nat → α → α
  | 0, u => u
  | k + 1, u => it p k (p u)
theorem it_add (p : α → α) (a b : Nat) (u : α) : it p (a + b) u = it p b (it p a u) := by
  induction a generalizing u with
  | zero => simp [it]
  | succ a ih => rw [show a + 1 + b = (a + b) + 1 by omega]; exact ih (p u)
def Orb (p : α → α) (u v : α) : Prop := ∃ k, it p k u = v
theorem Orb.refl (p : α → α) (u : α) : Orb p u u := ⟨0, rfl⟩
theorem Orb.one (p : α → α) (u : α) : Orb p u (p u) := ⟨1, rfl⟩
theorem Orb.trans {p : α → α} {u v w : α} (h : Orb p u v) (g : Orb p v w) : Orb p u w := by
  obtain ⟨a, rfl⟩ := h
  obtain ⟨b, rfl⟩ := g
  exact ⟨a + b, it_add ..⟩
theorem Orb.symm {p : α → α} (S : ∀ u, Orb p (p u) u) {u v : α} (h : Orb p u v) : Orb p v u := by
  obtain ⟨k, rfl⟩ := h
  induction k generalizing u with
  | zero => exact .refl _ _
  | succ k ih => exact (ih (u := p u)).trans (S u)
end
end Go.Proofs.Ytcajhmldbkfhiaa.P
namespace Go.Proofs.Ytcajhmldbkfhiaa.P
open Go.RowKit Go.Proofs.YtcajhmldbkfhiaaW.PrintWords
set_option linter.unusedVariables false
set_option linter.unusedSimpArgs false

end Go.Proofs.Ytcajhmldbkfhiaa.P
namespace Go.Proofs.Ytcajhmldbkfhiaa.Sup
open Go.ChangeShapes Go.WideShapes Go.ChangeAt Go.RowKit Go.Joins Go.Proofs.YtcajhmldbkfhiaaW.PrintWords
set_option linter.unusedVariables false
set_option linter.unusedSimpArgs false

/-- The range of an int. -/
def InR (a : Int) : Prop := -9223372036854775808 ≤ a ∧ a ≤ 9223372036854775807
theorem inR_of_wf {a : Int} (h : (Lit.int .i64 a).wf = true) : InR a := by
  simp only [Lit.wf, IntKind.min, IntKind.max, IntKind.signed, IntKind.bits, Bool.and_eq_true, decide_eq_true_eq, if_true] at h
  unfold InR
  omega
section
variable {H : Type} {enc : TypeId × Value → H} {P : Program} {w : World} {base : Nat} {spare : Nat → Bool} {held : Bool}

theorem open3 {r : Reach} {b0 : Nat} {t : TypeId} {f0 f1 g0 g1 : Field} {v : Value} {d : DataW H} {p : List MemPlace} (hs : P.underlying t = some (.struct #[f0, f1])) (hs0 : P.underlying f0.type = some (.struct #[g0, g1]))
    (hg0 : P.underlying g0.type = some (.int .i64)) (hg1 : P.underlying g1.type = some (.int .i64)) (h1 : P.underlying f1.type = some (.int .i64))
    (o0 : f0.offset = 0) (o1 : f1.offset = 2) (p0 : g0.offset = 0) (p1 : g1.offset = 1) (c0 : P.cellsOf f0.type = 2) (c1 : P.cellsOf f1.type = 1) (e0 : P.cellsOf g0.type = 1) (e1 : P.cellsOf g1.type = 1) (hC : P.cellsOf t = 3)
    (hv : Value.okWide P w r b0 t v) (h : DataW.Trod enc P w base spare held t v d p) :
    ∃ a b c : Int, v = .agg #[.int .i64 a, .int .i64 b, .int .i64 c] ∧ InR a ∧ InR b ∧ InR c := by
  obtain ⟨cs, rfl, hsz⟩ := okWide_struct hs hv
  obtain ⟨x0, x1, x2, rfl⟩ := array3 (hsz.trans hC)
  obtain ⟨fuel, hf⟩ := h
  obtain ⟨y0, y1, n, hx, _, k0, k1⟩ := trod_struct2 hs hf
  simp only [Value.cells, o0, o1, c0, c1, List.drop_zero, List.take_succ_cons, List.take_zero, List.drop_succ_cons] at k0 k1
  obtain ⟨z0, z1, n', hx', _, j0, j1⟩ := trod_struct2 hs0 k0
  simp only [p0, p1, e0, e1, List.drop_zero, List.take_succ_cons, List.take_zero, List.drop_succ_cons] at j0 j1
  obtain ⟨a, q0, _, w0⟩ := DataW.trod_int hg0 j0
  obtain ⟨b, q1, _, w1⟩ := DataW.trod_int hg1 j1
  obtain ⟨c, q2, _, w2⟩ := DataW.trod_int h1 k1
  simp at q0 q1 q2
  subst q0 q1 q2
  exact ⟨a, b, c, rfl, inR_of_wf w0, inR_of_wf w1, inR_of_wf w2⟩
end

end Go.Proofs.Ytcajhmldbkfhiaa.Sup
namespace Go.Proofs.Ytcajhmldbkfhiaa.P
open Go.RowKit Go.Proofs.YtcajhmldbkfhiaaW.PrintWords
set_option linter.unusedVariables false
set_option linter.unusedSimpArgs false

theorem l01In_eq (a b c : Int) : spec_l01In.f a b c = some (decide (b ≤ a ∧ a ≤ c)) := by
  unfold spec_l01In.f
  by_cases h : a ≥ b
  · rw [if_pos h]; congr 1; simp; omega
  · rw [if_neg h]; congr 1; simp; omega

end Go.Proofs.Ytcajhmldbkfhiaa.P
namespace Go.Proofs.Ytcajhmldbkfhiaa.P
open Go.RowKit Go.Proofs.YtcajhmldbkfhiaaW.PrintWords Go.Proofs.Ytcajhmldbkfhiaa.Sup
set_option linter.unusedVariables false
set_option linter.unusedSimpArgs false

theorem spec_GridOk_eq (w h : Int) : spec_GridOk.f w h = some (gridOk w h) := by
  unfold spec_GridOk.f
  simp only [l01In_eq, Option.bind_some]
  unfold gridOk
  by_cases h1 : 1 ≤ w ∧ w ≤ 4
  · simp only [h1, and_self, decide_true, if_true, true_and]
  · have : ¬ (1 ≤ w ∧ w ≤ 4 ∧ 1 ≤ h ∧ h ≤ 4) := by omega
    rw [decide_eq_false h1, decide_eq_false this]; simp
theorem impl_GridOk_eq (w h : Int) : impl_GridOk.f w h = some (gridOk w h) := by
  unfold impl_GridOk.f gridOk
  repeat' split
  all_goals congr 1
  all_goals first | (rw [decide_eq_decide]; omega) | (symm; rw [decide_eq_false_iff_not]; omega)

theorem impl_CountCells_eq (w h : Int) : impl_CountCells.f w h = some (cellsOf w h) := by
  unfold impl_CountCells.f
  rw [impl_GridOk_eq, Option.bind_some]
  have := cellsOf_range w h
  unfold cellsOf at *
  by_cases hg : gridOk w h = true
  · rw [if_pos hg] at *
    rw [if_pos hg, wrap64_id (by omega) (by omega)]
  · rw [if_neg hg, if_neg hg]
theorem spec_CountCells_eq (w h : Int) : spec_CountCells.f w h = some (cellsOf w h) := by
  unfold spec_CountCells.f
  rw [spec_GridOk_eq, Option.bind_some]
  have := cellsOf_range w h
  unfold cellsOf at *
  by_cases hg : gridOk w h = true
  · rw [if_pos hg] at *
    rw [if_pos hg, wrap64_id (by omega) (by omega)]
  · rw [if_neg hg, if_neg hg]
theorem impl_CountGaps_eq (w h : Int) : impl_CountGaps.f w h = some (gapsOf w h) := by
  unfold impl_CountGaps.f
  rw [impl_GridOk_eq, Option.bind_some]
  unfold gapsOf
  by_cases hg : gridOk w h = true
  · rw [if_pos hg, if_pos hg]
    obtain ⟨h1 | h1 | h1 | h1, h2 | h2 | h2 | h2⟩ := grid_cases hg <;> subst h1 <;> subst h2 <;> simp [wrap64, eastOf]
  · rw [if_neg hg, if_neg hg]
theorem spec_l02East_eq {w h : Int} (hg : gridOk w h = true) : spec_l02East.f w h = some (eastOf w h) := by
  unfold spec_l02East.f eastOf
  obtain ⟨h1 | h1 | h1 | h1, h2 | h2 | h2 | h2⟩ := grid_cases hg <;> subst h1 <;> subst h2 <;> simp [wrap64, eastOf]
theorem spec_CountGaps_eq (w h : Int) : spec_CountGaps.f w h = some (gapsOf w h) := by
  unfold spec_CountGaps.f
  rw [spec_GridOk_eq, Option.bind_some]
  unfold gapsOf
  by_cases hg : gridOk w h = true
  · rw [if_pos hg, if_pos hg, spec_l02East_eq hg, Option.bind_some]
    obtain ⟨h1 | h1 | h1 | h1, h2 | h2 | h2 | h2⟩ := grid_cases hg <;> subst h1 <;> subst h2 <;> simp [wrap64, eastOf]
  · rw [if_neg hg, if_neg hg]

/-- 2 to the power of a small number. -/
theorem shl_one {n : Int} (h0 : 0 ≤ n) (h1 : n ≤ 24) : shl .i64 1 n = 2 ^ n.toNat := by
  obtain ⟨m, rfl⟩ := Int.eq_ofNat_of_zero_le h0
  have : m ≤ 24 := by omega
  clear h0 h1
  revert m
  decide +kernel
end Go.Proofs.Ytcajhmldbkfhiaa.P
namespace Go.Proofs.Ytcajhmldbkfhiaa.P
open Go.RowKit Go.Proofs.YtcajhmldbkfhiaaW.PrintWords
set_option linter.unusedVariables false
set_option linter.unusedSimpArgs false

theorem impl_isCell_eq (w h c : Int) : impl_isCell.f w h c = some (isCellI w h c) := by
  unfold impl_isCell.f isCellI
  rw [impl_CountCells_eq]
  by_cases hc : c ≥ 0
  · rw [if_pos hc, Option.bind_some]; congr 1; rw [decide_eq_decide]; omega
  · rw [if_neg hc]; congr 1; symm; rw [decide_eq_false_iff_not]; omega
theorem impl_Neighbor_ev (w h c d : Int) : Ev (fun k => impl_Neighbor.f k w h c d) (nbI w h c d) := by
  unfold impl_Neighbor.f nbI
  refine Ev.bnd0 (impl_isCell_eq w h c) ?_
  unfold isCellI
  by_cases hc : 0 ≤ c ∧ c < cellsOf w h
  · rw [if_pos hc]
    obtain ⟨hg, hcw⟩ := cellsOf_valid hc.1 hc.2
    have hcr := cellsOf_range w h
    have hgr := gridOk_iff.1 hg
    refine Ev.tt (by simpa using hc) (Ev.ff (by omega) ?_)
    have hx0 : 0 ≤ c % w := Int.emod_nonneg _ (by omega)
    have hx1 : c % w < w := Int.emod_lt_of_pos _ (by omega)
    have hy0 : 0 ≤ c / w := Int.ediv_nonneg hc.1 (by omega)
    have hy1 : c / w ≤ c := Int.ediv_le_self _ hc.1
    rw [Int.tmod_eq_emod_of_nonneg hc.1, Int.tdiv_eq_ediv_of_nonneg hc.1, wrap64_id (x := c / w) (by omega) (by omega)]
    generalize c % w = x at *
    generalize c / w = y at *
    have j2 : ∀ b : Bool, (d ≠ 0 ∨ ¬ 0 < y) → (d ≠ 1 ∨ ¬ x < w - 1) → (b = true ↔ d = 2 ∧ y < h - 1) → Ev (fun k => impl_Neighbor.j2 k c d x b w h) (if d = 2 ∧ y < h - 1 then c + w else if d = 3 ∧ 0 < x then c - 1 else -1) := by
      intro b _ _ hb
      refine Ev.step (fun _ => impl_Neighbor.j2.eq_2 ..) ?_
      refine Ev.ite (fun e => ?_) (fun e => ?_)
      · rw [if_pos (hb.1 e), wrap64_id (by omega) (by omega)]; exact Ev.ret rfl
      · rw [if_neg (fun h => e (hb.2 h))]
        refine Ev.ite (fun e3 => Ev.ite (fun e4 => ?_) (fun e4 => ?_)) (fun e3 => ?_)
        · rw [if_pos ⟨e3, e4⟩, wrap64_id (by omega) (by omega)]; exact Ev.ret rfl
        · rw [if_neg (fun h => e4 h.2)]; exact Ev.ret rfl
        · rw [if_neg (fun h => e3 h.1)]; exact Ev.ret rfl
    have j1 : ∀ b : Bool, (d ≠ 0 ∨ ¬ 0 < y) → (b = true ↔ d = 1 ∧ x < w - 1) → Ev (fun k => impl_Neighbor.j1 k c d x y b w h) (if d = 1 ∧ x < w - 1 then c + 1 else if d = 2 ∧ y < h - 1 then c + w else if d = 3 ∧ 0 < x then c - 1 else -1) := by
      intro b h0 hb
      refine Ev.step (fun _ => impl_Neighbor.j1.eq_2 ..) ?_
      refine Ev.ite (fun e => ?_) (fun e => ?_)
      · rw [if_pos (hb.1 e), wrap64_id (by omega) (by omega)]; exact Ev.ret rfl
      · have hn : ¬ (d = 1 ∧ x < w - 1) := fun h => e (hb.2 h)
        rw [if_neg hn]
        refine Ev.ite (fun e2 => ?_) (fun e2 => ?_)
        · refine j2 _ h0 (by omega) ?_
          rw [wrap64_id (by omega) (by omega)]
          simp [e2]
        · exact j2 _ h0 (by omega) (by simp [e2])
    have j0 : ∀ b : Bool, (b = true ↔ d = 0 ∧ 0 < y) → Ev (fun k => impl_Neighbor.j0 k c d x y b w h) (if d = 0 ∧ 0 < y then c - w else if d = 1 ∧ x < w - 1 then c + 1 else if d = 2 ∧ y < h - 1 then c + w else if d = 3 ∧ 0 < x then c - 1 else -1) := by
      intro b hb
      refine Ev.step (fun _ => impl_Neighbor.j0.eq_2 ..) ?_
      refine Ev.ite (fun e => ?_) (fun e => ?_)
      · rw [if_pos (hb.1 e), wrap64_id (by omega) (by omega)]; exact Ev.ret rfl
      · have hn : ¬ (d = 0 ∧ 0 < y) := fun h => e (hb.2 h)
        rw [if_neg hn]
        refine Ev.ite (fun e2 => ?_) (fun e2 => ?_)
        · refine j1 _ (by omega) ?_
          rw [wrap64_id (by omega) (by omega)]
          simp [e2]
        · exact j1 _ (by omega) (by simp [e2])
    refine Ev.ite (fun e => ?_) (fun e => ?_)
    · exact j0 _ (by simp [e])
    · exact j0 _ (by simp [e])
  · rw [if_neg hc]
    exact Ev.ff (by simpa using hc) (Ev.ret rfl)
theorem spec_Neighbor_ev (w h c d : Int) : Ev (fun k => spec_Neighbor.f k w h c d) (nbI w h c d) := by
  unfold spec_Neighbor.f nbI
  refine Ev.bnd0 (spec_CountCells_eq w h) ?_
  have hcr := cellsOf_range w h
  rw [wrap64_id (by omega) (by omega)]
  refine Ev.bnd0 (l01In_eq ..) ?_
  by_cases hc : 0 ≤ c ∧ c < cellsOf w h
  · rw [if_pos hc]
    obtain ⟨hg, hcw⟩ := cellsOf_valid hc.1 hc.2
    have hgr := gridOk_iff.1 hg
    refine Ev.tt (by simp; omega) (Ev.ff (by omega) ?_)
    have hx0 : 0 ≤ c % w := Int.emod_nonneg _ (by omega)
    have hx1 : c % w < w := Int.emod_lt_of_pos _ (by omega)
    have hy0 : 0 ≤ c / w := Int.ediv_nonneg hc.1 (by omega)
    have hy1 : c / w ≤ c := Int.ediv_le_self _ hc.1
    have hxy : c / w * w + c % w = c := by rw [Int.mul_comm]; exact Int.mul_ediv_add_emod c w
    have hy2 : c / w < h := by
      rw [hcw] at hc
      exact Int.ediv_lt_of_lt_mul (by omega) (by rw [Int.mul_comm]; exact hc.2)
    rw [Int.tmod_eq_emod_of_nonneg hc.1, Int.tdiv_eq_ediv_of_nonneg hc.1, wrap64_id (x := c / w) (by omega) (by omega)]
    generalize c % w = x at *
    generalize c / w = y at *
    have j0 : ∀ (a b r : Int), (r = if 0 ≤ a ∧ a ≤ w - 1 ∧ 0 ≤ b ∧ b ≤ h - 1 then b * w + a else -1) → Ev (fun k => spec_Neighbor.j0 k a b w h) r := by
      intro a b r hr
      subst hr
      refine Ev.step (fun _ => spec_Neighbor.j0.eq_2 ..) ?_
      refine Ev.bnd0 (l01In_eq ..) ?_
      rw [wrap64_id (x := w - 1) (by omega) (by omega), wrap64_id (x := h - 1) (by omega) (by omega)]
      by_cases h1 : 0 ≤ a ∧ a ≤ w - 1
      · refine Ev.tt (by simpa using h1) (Ev.bnd0 (l01In_eq ..) ?_)
        by_cases h2 : 0 ≤ b ∧ b ≤ h - 1
        · refine Ev.tt (by simpa using h2) (Ev.ret ?_)
          rw [if_pos (by omega)]
          have hb4 : b * w ≤ 3 * 4 := Int.mul_le_mul (by omega) (by omega) (by omega) (by omega)
          have hb0 : 0 ≤ b * w := Int.mul_nonneg (by omega) (by omega)
          rw [wrap64_id (x := b * w) (by omega) (by omega), wrap64_id (by omega) (by omega)]
        · refine Ev.ff (by simpa using h2) (Ev.ret ?_)
          rw [if_neg (by omega)]
      · refine Ev.ff (by simpa using h1) (Ev.ret ?_)
        rw [if_neg (by omega)]
    have hm1 : (y - 1) * w + x = c - w := by rw [Int.sub_mul]; omega
    have hp1 : (y + 1) * w + x = c + w := by rw [Int.add_mul]; omega
    refine Ev.ite (fun e => ?_) (fun e => Ev.ite (fun e => ?_) (fun e => Ev.ite (fun e => ?_) (fun e => Ev.ite (fun e => ?_) (fun e => Ev.ret ?_))))
    · rw [wrap64_id (by omega) (by omega)]
      refine j0 _ _ _ ?_
      subst e
      by_cases h0 : 0 < y
      · rw [if_pos ⟨rfl, h0⟩, if_pos (by omega), hm1]
      · rw [if_neg (by omega), if_neg (by omega), if_neg (by omega), if_neg (by omega), if_neg (by omega)]
    · rw [wrap64_id (by omega) (by omega)]
      refine j0 _ _ _ ?_
      subst e
      rw [if_neg (by omega)]
      by_cases h0 : x < w - 1
      · rw [if_pos ⟨rfl, h0⟩, if_pos (by omega)]; omega
      · rw [if_neg (by omega), if_neg (by omega), if_neg (by omega), if_neg (by omega)]
    · rw [wrap64_id (by omega) (by omega)]
      refine j0 _ _ _ ?_
      subst e
      rw [if_neg (by omega), if_neg (by omega)]
      by_cases h0 : y < h - 1
      · rw [if_pos ⟨rfl, h0⟩, if_pos (by omega), hp1]
      · rw [if_neg (by omega), if_neg (by omega), if_neg (by omega)]
    · rw [wrap64_id (by omega) (by omega)]
      refine j0 _ _ _ ?_
      subst e
      rw [if_neg (by omega), if_neg (by omega), if_neg (by omega)]
      by_cases h0 : 0 < x
      · rw [if_pos ⟨rfl, h0⟩, if_pos (by omega)]; omega
      · rw [if_neg (by omega), if_neg (by omega)]
    · rw [if_neg (by omega), if_neg (by omega), if_neg (by omega), if_neg (by omega)]
  · rw [if_neg hc]
    exact Ev.ff (by simp; omega) (Ev.ret rfl)
theorem spec_MazeOk_eq (w h o : Int) : spec_MazeOk.f w h o = some (mazeOk w h o) := by
  have hc := gapsOf_range w h
  have hp := pow_le hc.1 hc.2
  unfold spec_MazeOk.f mazeOk gapsN
  rw [spec_GridOk_eq, Option.bind_some]
  cases hg : gridOk w h
  · simp
  · rw [if_pos rfl, spec_CountGaps_eq, Option.bind_some, if_pos hc.1, shl_one hc.1 hc.2, l01In_eq, Option.bind_some, wrap64_id (by omega) (by omega)]
    simp only [Bool.true_and]
    congr 1
    rw [decide_eq_decide]
    omega
theorem impl_MazeOk_eq (w h o : Int) : impl_MazeOk.f w h o = some (mazeOk w h o) := by
  have hc := gapsOf_range w h
  unfold impl_MazeOk.f mazeOk gapsN
  rw [impl_GridOk_eq, Option.bind_some]
  cases hg : gridOk w h
  · simp
  · rw [if_pos rfl, impl_CountGaps_eq, Option.bind_some, if_pos hc.1, shl_one hc.1 hc.2]
    simp only [Bool.true_and]
    split
    · congr 1; rw [decide_eq_decide]; omega
    · congr 1; symm; rw [decide_eq_false_iff_not]; omega
theorem impl_isOpen_eq (w h : Int) {n : Nat} (hn : n < 16777216) (g : Int) : impl_isOpen.f w h n g = some (openI n g) := by
  unfold impl_isOpen.f openI
  by_cases hg : g ≥ 0
  · rw [if_pos hg, if_pos hg]
    obtain ⟨m, rfl⟩ := Int.eq_ofNat_of_zero_le hg
    rw [bit_one (by omega)]
    simp
  · rw [if_neg hg]
    simp; omega
theorem spec_l03Bit_eq {n : Nat} (hn : n < 16777216) {g : Int} (hg : 0 ≤ g) : spec_l03Bit.f n g = some (openI n g) := by
  unfold spec_l03Bit.f openI
  rw [if_pos hg]
  obtain ⟨m, rfl⟩ := Int.eq_ofNat_of_zero_le hg
  rw [bit_one (by omega)]
  simp
theorem impl_isGap_eq (w h g : Int) : impl_isGap.f w h g = some (isGapI w h g) := by
  unfold impl_isGap.f isGapI
  rw [impl_CountGaps_eq]
  by_cases hc : g ≥ 0
  · rw [if_pos hc, Option.bind_some]; congr 1; rw [decide_eq_decide]; omega
  · rw [if_neg hc]; congr 1; symm; rw [decide_eq_false_iff_not]; omega
/-! Sixteen small graphs: facts that are looked through -/
theorem impl_GapAt_ev (w h c d : Int) : Ev (fun k => impl_GapAt.f k w h c d) (gapI w h c d) := by
  unfold impl_GapAt.f gapI
  refine Ev.bind (impl_Neighbor_ev w h c d) ?_
  by_cases hn : nbI w h c d < 0
  · rw [if_pos hn, if_pos hn]
    exact Ev.ret rfl
  · rw [if_neg hn, if_neg hn]
    obtain ⟨hd, h0, h1⟩ := nb_dir (by omega : 0 ≤ nbI w h c d)
    obtain ⟨hg, hcw⟩ := cellsOf_valid h0 h1
    have hcr := cellsOf_range w h
    have hgr := gridOk_iff.1 hg
    have hlt := nb_lt (w := w) (h := h) (c := c) (d := d)
    have hmn : mn c (nbI w h c d) = min c (nbI w h c d) := by unfold mn; omega
    rw [hmn]
    have hm0 : 0 ≤ min c (nbI w h c d) := by omega
    have hm1 : min c (nbI w h c d) ≤ 15 := by omega
    generalize min c (nbI w h c d) = m at *
    have ha0 : 0 ≤ m / w := Int.ediv_nonneg hm0 (by omega)
    have ha1 : m / w ≤ m := Int.ediv_le_self _ hm0
    have hb0 : 0 ≤ m % w := Int.emod_nonneg _ (by omega)
    have hb1 : m % w < w := Int.emod_lt_of_pos _ (by omega)
    have hp0 : 0 ≤ m / w * (w - 1) := Int.mul_nonneg ha0 (by omega)
    have hp1 : m / w * (w - 1) ≤ 15 * 3 := Int.mul_le_mul (by omega) (by omega) (by omega) (by omega)
    have hq0 : 0 ≤ (w - 1) * h := Int.mul_nonneg (by omega) (by omega)
    have hq1 : (w - 1) * h ≤ 3 * 4 := Int.mul_le_mul (by omega) (by omega) (by omega) (by omega)
    rw [Int.tmod_eq_emod_of_nonneg hm0, Int.tdiv_eq_ediv_of_nonneg hm0, wrap64_id (x := m / w) (by omega) (by omega), wrap64_id (x := w - 1) (by omega) (by omega), wrap64_id (x := m / w * (w - 1)) (by omega) (by omega), wrap64_id (x := m / w * (w - 1) + m % w) (by omega) (by omega)]
    refine Ev.ite (fun e => Ev.ff (by omega) ?_) (fun e => Ev.ite (fun e3 => Ev.ff (by omega) ?_) (fun e3 => ?_))
    · rw [if_pos (.inl e)]; exact Ev.ret rfl
    · rw [if_pos (.inr e3)]; exact Ev.ret rfl
    · rw [if_neg (by omega)]
      rw [wrap64_id (x := (w - 1) * h) (by omega) (by omega), wrap64_id (by omega) (by omega)]
      exact Ev.ret rfl
/-- The directions from d on in which s leads somewhere. -/
def waysFrom (s : Int → Int) (d : Nat) : List Int := ([0, 1, 2, 3].drop d).filter fun x => decide (0 ≤ s x)
theorem waysFrom_succ (s : Int → Int) {d : Nat} (hd : d < 4) : waysFrom s d = if 0 ≤ s d then (d : Int) :: waysFrom s (d + 1) else waysFrom s (d + 1) := by
  have : d = 0 ∨ d = 1 ∨ d = 2 ∨ d = 3 := by omega
  rcases this with rfl | rfl | rfl | rfl <;> simp [waysFrom, List.filter_cons]
def waysI (w h : Int) (n : Nat) (c : Int) : List Int := waysFrom (stepI w h n c) 0
end Go.Proofs.Ytcajhmldbkfhiaa.P
namespace Go.Proofs.Ytcajhmldbkfhiaa.P
end Go.Proofs.Ytcajhmldbkfhiaa.P
namespace Go.Proofs.Ytcajhmldbkfhiaa.P
open Go.RowKit Go.Proofs.YtcajhmldbkfhiaaW.PrintWords
set_option linter.unusedVariables false
set_option linter.unusedSimpArgs false

theorem impl_Step_ev {w h : Int} {n : Nat} (hg : gridOk w h = true) (hn : n < 2 ^ gapsN w h) (c d : Int) : Ev (fun k => impl_Step.f k w h n c d) (stepI w h n c d) := by
  unfold impl_Step.f stepI
  refine Ev.bnd0 (impl_MazeOk_eq w h n) (Ev.tt (mazeOk_iff.2 ⟨hg, n, rfl, hn⟩) ?_)
  refine Ev.bind (impl_GapAt_ev w h c d) (Ev.bnd0 (impl_isOpen_eq w h (open_small hn) _) ?_)
  by_cases ho : openI n (gapI w h c d) = true
  · rw [if_pos ho]
    exact Ev.tt ho (Ev.bind (impl_Neighbor_ev w h c d) (Ev.ret rfl))
  · rw [if_neg ho]
    exact Ev.ff ho (Ev.ret rfl)
theorem impl_Ways_l0 (w h : Int) (o c : Int) (s : Int → Int) (hs : ∀ d, Ev (fun k => impl_Step.f k w h o c d) (s d)) : ∀ (e d : Nat) (out : List Int), 4 - d = e → d ≤ 4 → out.length ≤ d →
    Ev (fun k => impl_WaysFrom.l0 k c out d w h o) (out ++ waysFrom s d)
  | 0, d, out, he, hd, hl => by
    refine Ev.step (fun _ => impl_WaysFrom.l0.eq_2 ..) ?_
    refine Ev.ff (by omega) (Ev.ret ?_)
    obtain rfl : d = 4 := by omega
    simp [waysFrom]
  | e + 1, d, out, he, hd, hl => by
    refine Ev.step (fun _ => impl_WaysFrom.l0.eq_2 ..) ?_
    refine Ev.tt (by omega) (Ev.bind (hs d) ?_)
    rw [wsucc (by omega), waysFrom_succ s (show d < 4 by omega)]
    refine Ev.ite (fun h1 => Ev.tt (by omega) ?_) (fun h1 => ?_)
    · rw [if_pos (by omega)]
      have := impl_Ways_l0 w h o c s hs e (d + 1) (out ++ [(d : Int)]) (by omega) (by omega) (by simp; omega)
      simpa using this
    · rw [if_neg (by omega)]
      exact impl_Ways_l0 w h o c s hs e (d + 1) out (by omega) (by omega) (by omega)
theorem impl_Ways_ev {w h : Int} {n : Nat} (hg : gridOk w h = true) (hn : n < 2 ^ gapsN w h) (c : Int) : Ev (fun k => impl_WaysFrom.f k w h n c) (waysI w h n c) := by
  unfold impl_WaysFrom.f waysI
  have := impl_Ways_l0 w h n c _ (fun d => impl_Step_ev hg hn c d) 4 0 [] (by omega) (by omega) (by simp)
  simpa using this
theorem spec_GapAt_ev (w h c d : Int) : Ev (fun k => spec_GapAt.f k w h c d) (gapI w h c d) := by
  unfold spec_GapAt.f gapI
  refine Ev.bind (spec_Neighbor_ev w h c d) ?_
  by_cases hn : nbI w h c d < 0
  · rw [if_pos hn, if_pos hn]
    exact Ev.ret rfl
  · rw [if_neg hn, if_neg hn]
    obtain ⟨hd, h0, h1⟩ := nb_dir (by omega : 0 ≤ nbI w h c d)
    obtain ⟨hg, hcw⟩ := cellsOf_valid h0 h1
    have hcr := cellsOf_range w h
    have hgr := gridOk_iff.1 hg
    have hlt := nb_lt (w := w) (h := h) (c := c) (d := d)
    have hmn : mn c (nbI w h c d) = min c (nbI w h c d) := by unfold mn; omega
    rw [hmn]
    have hm0 : 0 ≤ min c (nbI w h c d) := by omega
    have hm1 : min c (nbI w h c d) ≤ 15 := by omega
    generalize min c (nbI w h c d) = m at *
    have ha0 : 0 ≤ m / w := Int.ediv_nonneg hm0 (by omega)
    have ha1 : m / w ≤ m := Int.ediv_le_self _ hm0
    have hb0 : 0 ≤ m % w := Int.emod_nonneg _ (by omega)
    have hb1 : m % w < w := Int.emod_lt_of_pos _ (by omega)
    have hp0 : 0 ≤ m / w * (w - 1) := Int.mul_nonneg ha0 (by omega)
    have hp1 : m / w * (w - 1) ≤ 15 * 3 := Int.mul_le_mul (by omega) (by omega) (by omega) (by omega)
    have hq0 : 0 ≤ (w - 1) * h := Int.mul_nonneg (by omega) (by omega)
    have hq1 : (w - 1) * h ≤ 3 * 4 := Int.mul_le_mul (by omega) (by omega) (by omega) (by omega)
    rw [Int.tmod_eq_emod_of_nonneg hm0, Int.tdiv_eq_ediv_of_nonneg hm0, wrap64_id (x := m / w) (by omega) (by omega), wrap64_id (x := w - 1) (by omega) (by omega), wrap64_id (x := m / w * (w - 1)) (by omega) (by omega), wrap64_id (x := m / w * (w - 1) + m % w) (by omega) (by omega)]
    refine Ev.ite (fun e => Ev.ff (by omega) ?_) (fun e => Ev.ite (fun e3 => Ev.ff (by omega) ?_) (fun e3 => ?_))
    · rw [if_pos (.inl e)]; exact Ev.ret rfl
    · rw [if_pos (.inr e3)]; exact Ev.ret rfl
    · rw [if_neg (by omega)]
      refine Ev.bnd0 (spec_l02East_eq hg) (Ev.ret ?_)
      unfold eastOf
      rw [wrap64_id (by omega) (by omega)]
end Go.Proofs.Ytcajhmldbkfhiaa.P
namespace Go.Proofs.Ytcajhmldbkfhiaa.P
open Go.RowKit Go.Proofs.YtcajhmldbkfhiaaW.PrintWords Go.Proofs.YtcajhmldbkfhiaaW.PrintLast Go.Proofs.YtcajhmldbkfhiaaW.PrintMore
attribute [local go_sem] max2_int min2_int max_two min_two max_three min_three max_four min_four   -- for this text's walks alone
set_option linter.unusedVariables false
set_option linter.unusedSimpArgs false

/-! ### spec_WaysFrom: function 128 -/
end Go.Proofs.Ytcajhmldbkfhiaa.P
namespace Go.Proofs.Ytcajhmldbkfhiaa.P
open Go.RowKit Go.Proofs.YtcajhmldbkfhiaaW.PrintWords
set_option linter.unusedVariables false
set_option linter.unusedSimpArgs false

theorem spec_IsPassage_eq {w h : Int} {n : Nat} (hg : gridOk w h = true) (hn : n < 2 ^ gapsN w h) (g : Int) : spec_IsPassage.f w h n g = some (openI n g) := by
  have hr := gapsOf_range w h
  unfold spec_IsPassage.f
  rw [spec_MazeOk_eq, Option.bind_some, if_pos (mazeOk_iff.2 ⟨hg, n, rfl, hn⟩), spec_CountGaps_eq, Option.bind_some, wrap64_id (by omega) (by omega), l01In_eq, Option.bind_some]
  by_cases hc : 0 ≤ g ∧ g < gapsOf w h
  · rw [if_pos (by simp; omega), spec_l03Bit_eq (open_small hn) hc.1]
    rfl
  · rw [if_neg (by simp; omega)]
    congr 1
    symm
    rw [Bool.eq_false_iff]
    intro ho
    have := open_isGap hn ho
    unfold isGapI at this
    simp at this
    omega
theorem spec_Step_ev {w h : Int} {n : Nat} (hg : gridOk w h = true) (hn : n < 2 ^ gapsN w h) (c d : Int) : Ev (fun k => spec_Step.f k w h n c d) (stepI w h n c d) := by
  unfold spec_Step.f stepI
  refine Ev.bnd0 (spec_MazeOk_eq w h n) (Ev.tt (mazeOk_iff.2 ⟨hg, n, rfl, hn⟩) ?_)
  refine Ev.bind (spec_GapAt_ev w h c d) (Ev.bnd0 (spec_IsPassage_eq hg hn _) ?_)
  by_cases ho : openI n (gapI w h c d) = true
  · rw [if_pos ho]
    exact Ev.tt ho (Ev.bind (spec_Neighbor_ev w h c d) (Ev.ret rfl))
  · rw [if_neg ho]
    exact Ev.ff ho (Ev.ret rfl)
end Go.Proofs.Ytcajhmldbkfhiaa.P
namespace Go.Proofs.Ytcajhmldbkfhiaa.P
open Go.RowKit Go.Proofs.YtcajhmldbkfhiaaW.PrintWords
set_option linter.unusedVariables false
set_option linter.unusedSimpArgs false

def ints (q : List Nat) : List Int := q.map fun (x : Nat) => (x : Int)
theorem ints_length (q : List Nat) : (ints q).length = q.length := by simp [ints]
theorem ints_app (q : List Nat) (y : Nat) : ints (q ++ [y]) = ints q ++ [(y : Int)] := by simp [ints]
theorem rd_ints {q : List Nat} {i x : Nat} (h : q[i]? = some x) : rd (ints q) (i : Int) = x := by
  rw [rd_nat, List.getD_eq_getElem?_getD]
  simp [ints, h]
/-- A function on the numbers under v as a list. -/
def dlist (v : Nat) (D : Nat → Int) : List Int := (List.range v).map D
theorem dlist_length (v : Nat) (D : Nat → Int) : (dlist v D).length = v := by simp [dlist]
theorem rd_dlist {v : Nat} {D : Nat → Int} {c : Nat} (h : c < v) : rd (dlist v D) (c : Int) = D c := by
  rw [rd_get (by rw [dlist_length]; exact h)]
  simp [dlist]
theorem dlist_set {v : Nat} {D : Nat → Int} {y : Nat} {a : Int} (h : y < v) : (dlist v D).set y a = dlist v (upd D y a) := by
  refine List.ext_getElem (by simp [dlist]) fun i h1 h2 => ?_
  rw [List.getElem_set]
  simp only [dlist, upd, List.getElem_map, List.getElem_range]
  by_cases e : y = i
  · rw [if_pos e, if_pos e.symm]
  · rw [if_neg e, if_neg (fun e' => e e'.symm)]
/-- What is kept while the search goes on. -/
structure SI (v : Nat) (S : (Nat → Int) × List Nat) : Prop where
  le : ∀ c, S.1 c ≤ S.2.length
  low : ∀ c, -1 ≤ S.1 c
  lt : ∀ c ∈ S.2, c < v
theorem SI.relax {v : Nat} {s : Nat → Nat → Int} (hs : Rng s v) {S : (Nat → Int) × List Nat} (I : SI v S) {x d : Nat} (hx : x < v) (hd : d < 4) : SI v (relax s x d S) ∧ (relax s x d S).2.length ≤ S.2.length + 1 ∧ ∀ (i z : Nat), S.2[i]? = some z → (relax s x d S).2[i]? = some z := by
  unfold Go.Proofs.Ytcajhmldbkfhiaa.P.relax
  split
  · rename_i hc
    refine ⟨⟨fun c => ?_, fun c => ?_, fun c hcq => ?_⟩, by simp, fun i z hz => ?_⟩
    · have := I.le c
      have := I.le x
      show upd _ _ _ c ≤ _
      unfold upd
      simp only [List.length_append, List.length_singleton]
      split <;> omega
    · have := I.low c
      have := I.low x
      show _ ≤ upd _ _ _ c
      unfold upd
      split <;> omega
    · rcases List.mem_append.1 hcq with h | h
      · exact I.lt c h
      · simp at h
        have := hs x d hx hd
        omega
    · have hi := (List.getElem?_eq_some_iff.1 hz).1
      rw [List.getElem?_append_left hi]; exact hz
  · exact ⟨I, by omega, fun i z hz => hz⟩
def relaxL (s : Nat → Nat → Int) (x : Nat) : List Nat → (Nat → Int) × List Nat → (Nat → Int) × List Nat
  | [], S => S
  | d :: ds, S => relaxL s x ds (relax s x d S)
theorem relaxL_filter (s : Nat → Nat → Int) (x : Nat) : ∀ l S, relaxL s x (l.filter fun d => decide (0 ≤ s x d)) S = relaxL s x l S
  | [], S => rfl
  | d :: ds, S => by
    rw [List.filter_cons]
    by_cases h : 0 ≤ s x d
    · simp only [h, decide_true, if_true, relaxL]
      exact relaxL_filter s x ds _
    · simp only [h, decide_false, Bool.false_eq_true, if_false, relaxL]
      rw [relaxL_filter s x ds S, show relax s x d S = S from if_neg fun hc => h hc.1]
theorem bround_eq (s : Nat → Nat → Int) (x : Nat) (S : (Nat → Int) × List Nat) : bround s x S = relaxL s x [0, 1, 2, 3] S := rfl
theorem waysI_ints (w h : Int) (n c : Nat) : waysI w h n c = ints ([0, 1, 2, 3].filter fun d => decide (0 ≤ st w h n c d)) := by
  unfold waysI waysFrom st ints
  simp only [List.drop_zero, List.filter_cons, List.filter_nil]
  by_cases a : 0 ≤ stepI w h n c 0 <;> by_cases b : 0 ≤ stepI w h n c 1 <;> by_cases c' : 0 ≤ stepI w h n c 2 <;> by_cases d : 0 ≤ stepI w h n c 3 <;> simp [a, b, c', d]
section
variable {w h : Int} {n : Nat} (hg : gridOk w h = true) (hn : n < 2 ^ gapsN w h)
include hg hn
theorem impl_dist_l1 {x i : Nat} (W : List Nat) (hW : ∀ d ∈ W, d < 4 ∧ 0 ≤ st w h n x d) (hW4 : W.length ≤ 4) (res : List Int) :
    ∀ (e j : Nat) (S : (Nat → Int) × List Nat), j + e = W.length → SI (cellsN w h) S → S.2[i]? = some x → S.2.length ≤ 100 + j →
      (∀ S', S' = relaxL (st w h n) x (W.drop j) S → SI (cellsN w h) S' → Ev (fun k => impl_distances.l0 k (dlist (cellsN w h) S'.1) (ints S'.2) ((i + 1 : Nat) : Int) w h n) res) →
      Ev (fun k => impl_distances.l1 k (dlist (cellsN w h) S.1) (ints S.2) i (ints W) ((ints W).length : Int) j w h n) res
  | 0, j, S, hj, I, hx, hl, next => by
    have hi := (List.getElem?_eq_some_iff.1 hx).1
    refine Ev.step (fun _ => impl_distances.l1.eq_2 ..) (Ev.ff (by rw [ints_length]; omega) ?_)
    rw [wsucc (by omega)]
    exact next S (by rw [List.drop_eq_nil_of_le (by omega)]; rfl) I
  | e + 1, j, S, hj, I, hx, hl, next => by
    have hcast := cellsN_cast w h
    have hi := (List.getElem?_eq_some_iff.1 hx).1
    have hxv := I.lt x (List.mem_of_getElem? hx)
    have hjW : j < W.length := by omega
    obtain ⟨hd4, hd0⟩ := hW _ (List.getElem_mem hjW)
    have hdrop : W.drop j = W[j] :: W.drop (j + 1) := List.drop_eq_getElem_cons hjW
    have hwj : rd (ints W) (j : Int) = (W[j] : Nat) := rd_ints (List.getElem?_eq_getElem hjW)
    have hrng := (net_grid hn).rng x W[j] hxv hd4
    obtain ⟨y, hy⟩ : ∃ y : Nat, st w h n x W[j] = y := ⟨(st w h n x W[j]).toNat, by omega⟩
    have hyv : y < cellsN w h := by omega
    obtain ⟨I', hl', hk'⟩ := I.relax (net_grid hn).rng hxv hd4
    have ih := impl_dist_l1 W hW hW4 res e (j + 1) (relax (st w h n) x W[j] S) (by omega) I' (hk' i x hx) (by omega) (fun S' hS' I'' => next S' (by rw [hS', hdrop]; rfl) I'')
    refine Ev.step (fun _ => impl_distances.l1.eq_2 ..) ?_
    refine Ev.tt (by rw [ints_length]; omega) (Ev.tt (by omega) (Ev.tt (by rw [ints_length]; omega) (Ev.tt (by omega) (Ev.tt (by rw [ints_length]; omega) ?_))))
    rw [hwj, rd_ints hx]
    refine Ev.bind (impl_Step_ev hg hn x (W[j] : Nat)) ?_
    rw [show stepI w h n x (W[j] : Nat) = y from hy, wsucc (by omega)]
    refine Ev.tt (by omega) (Ev.tt (by rw [dlist_length]; omega) ?_)
    rw [rd_dlist hyv, rd_dlist hxv]
    refine Ev.ite (fun h1 => ?_) (fun h1 => ?_)
    · refine Ev.tt (by omega) (Ev.tt (by rw [dlist_length]; omega) (Ev.tt (by rw [ints_length]; omega) ?_))
      have hb1 := I.le x
      have hb2 : 0 ≤ S.1 x ∨ S.1 x < 0 := by omega
      have hrel : relax (st w h n) x W[j] S = (upd S.1 y (S.1 x + 1), S.2 ++ [y]) := by
        unfold relax
        rw [hy, Int.toNat_natCast, if_pos ⟨by omega, h1⟩]
      rw [hrel] at ih
      rw [Int.toNat_natCast, dlist_set hyv, ← ints_app]
      have := I.low x
      rw [wrap64_id (by omega) (by omega)]
      exact ih
    · have hrel : relax (st w h n) x W[j] S = S := by
        unfold relax
        rw [hy, Int.toNat_natCast, if_neg (fun hc => h1 hc.2)]
      rw [hrel] at ih
      exact ih
theorem impl_dist_l0 {src : Nat} (hs : src < cellsN w h) : ∀ (f i : Nat) (S : (Nat → Int) × List Nat), BInv (st w h n) (cellsN w h) src S i 0 → SI (cellsN w h) S → i ≤ S.2.length → cellsN w h + 1 - i ≤ f →
    Ev (fun k => impl_distances.l0 k (dlist (cellsN w h) S.1) (ints S.2) i w h n) (dlist (cellsN w h) (bfsF (st w h n) f S i))
  | 0, i, S, B, I, hi, hf => by have := B.len; omega
  | f + 1, i, S, B, I, hi, hf => by
    have h16 := cellsN_le w h
    have hlen := B.len
    refine Ev.step (fun _ => impl_distances.l0.eq_2 ..) ?_
    simp only [bfsF]
    cases hx : S.2[i]? with
    | none =>
      rw [List.getElem?_eq_none_iff] at hx
      exact Ev.ff (by rw [ints_length]; omega) (Ev.ret rfl)
    | some x =>
      have hil := (List.getElem?_eq_some_iff.1 hx).1
      have hxv := I.lt x (List.mem_of_getElem? hx)
      refine Ev.tt (by rw [ints_length]; omega) (Ev.tt (by omega) ?_)
      rw [rd_ints hx]
      refine Ev.bind (impl_Ways_ev hg hn _) ?_
      rw [waysI_ints]
      have hW : ∀ d ∈ ([0, 1, 2, 3].filter fun d => decide (0 ≤ st w h n x d)), d < 4 ∧ 0 ≤ st w h n x d := fun d hd => by
        rw [List.mem_filter] at hd
        refine ⟨?_, of_decide_eq_true hd.2⟩
        have := hd.1
        simp at this
        omega
      refine impl_dist_l1 hg hn (i := i) (x := x) _ hW (List.length_filter_le _ _) _ _ 0 S (Nat.zero_add _) I hx (by omega) (fun S' hS' I' => ?_)
      rw [List.drop_zero, relaxL_filter, ← bround_eq] at hS'
      subst hS'
      have B' := B.round (net_grid hn).rng hx
      refine impl_dist_l0 hs f (i + 1) _ B' I' ?_ (by omega)
      have h1 : ∀ m T, T.2.length ≤ (relax (st w h n) x m T).2.length := by
        intro m T
        unfold relax
        split <;> simp
      have := Nat.le_trans (h1 0 S) (Nat.le_trans (h1 1 _) (Nat.le_trans (h1 2 _) (h1 3 _)))
      show i + 1 ≤ (bround (st w h n) x S).2.length
      unfold bround
      omega
omit hg hn in
theorem SI.start {v src : Nat} (h : src < v) : SI v (upd (fun _ => -1) src 0, [src]) where
  le := fun c => by simp only [upd]; split <;> simp
  low := fun c => by simp only [upd]; split <;> omega
  lt := fun c hc => by simp at hc; omega
theorem impl_distances_ev {src : Nat} (hs : src < cellsN w h) : Ev (fun k => impl_distances.f k w h n src) (dlist (cellsN w h) (distN w h n src)) := by
  have h16 := cellsN_le w h
  have hcast := cellsN_cast w h
  unfold impl_distances.f
  refine Ev.bnd0 (impl_CountCells_eq w h) (Ev.bnd0 (a := dlist (cellsN w h) fun _ => -1) ?_ ?_)
  · unfold slices_Repeat_int_int.f
    rw [if_pos ⟨by simp, by omega, by omega⟩]
    congr 1
    refine List.ext_getElem (by simp [dlist]; omega) fun i h1 h2 => ?_
    simp [dlist, rd]
  · refine Ev.tt (by omega) (Ev.tt (by rw [dlist_length]; omega) ?_)
    rw [Int.toNat_natCast, dlist_set hs]
    exact impl_dist_l0 hg hn hs _ 0 _ (BInv.start hs) (SI.start hs) (by simp) (by omega)
theorem spec_dist_l2 {x i : Nat} (res : List Int) :
    ∀ (e j : Nat) (S : (Nat → Int) × List Nat), j + e = 4 → SI (cellsN w h) S → S.2[i]? = some x → S.2.length ≤ 100 + j →
      (∀ S', S' = relaxL (st w h n) x ([0, 1, 2, 3].drop j) S → SI (cellsN w h) S' → Ev (fun k => spec_l04Distances.l1 k (dlist (cellsN w h) S'.1) (ints S'.2) ((i + 1 : Nat) : Int) w h n) res) →
      Ev (fun k => spec_l04Distances.l2 k (dlist (cellsN w h) S.1) (ints S.2) i j w h n) res
  | 0, j, S, hj, I, hx, hl, next => by
    have hi := (List.getElem?_eq_some_iff.1 hx).1
    refine Ev.step (fun _ => spec_l04Distances.l2.eq_2 ..) (Ev.ff (by omega) ?_)
    rw [wsucc (by omega)]
    exact next S (by rw [show j = 4 by omega]; rfl) I
  | e + 1, j, S, hj, I, hx, hl, next => by
    have hcast := cellsN_cast w h
    have hi := (List.getElem?_eq_some_iff.1 hx).1
    have hxv := I.lt x (List.mem_of_getElem? hx)
    have hd4 : j < 4 := by omega
    have hdrop : [0, 1, 2, 3].drop j = j :: [0, 1, 2, 3].drop (j + 1) := by
      have : j = 0 ∨ j = 1 ∨ j = 2 ∨ j = 3 := by omega
      rcases this with rfl | rfl | rfl | rfl <;> rfl
    have hrng := (net_grid hn).rng x j hxv hd4
    obtain ⟨I', hl', hk'⟩ := I.relax (net_grid hn).rng hxv hd4
    have ih := spec_dist_l2 (i := i) res e (j + 1) (relax (st w h n) x j S) (by omega) I' (hk' i x hx) (by omega) (fun S' hS' I'' => next S' (by rw [hS', hdrop]; rfl) I'')
    refine Ev.step (fun _ => spec_l04Distances.l2.eq_2 ..) ?_
    refine Ev.tt (by omega) (Ev.tt (by omega) (Ev.tt (by rw [ints_length]; omega) ?_))
    rw [rd_ints hx]
    refine Ev.bind (spec_Step_ev hg hn x (j : Nat)) ?_
    rw [wsucc (by omega)]
    have hst : stepI w h n x (j : Nat) = st w h n x j := rfl
    rw [hst]
    refine Ev.ite (fun h0 => ?_) (fun h0 => ?_)
    · obtain ⟨y, hy⟩ : ∃ y : Nat, st w h n x j = y := ⟨(st w h n x j).toNat, by omega⟩
      have hyv : y < cellsN w h := by omega
      rw [hy]
      refine Ev.tt (by omega) (Ev.tt (by rw [dlist_length]; omega) ?_)
      rw [rd_dlist hyv, rd_dlist hxv]
      refine Ev.ite (fun h1 => ?_) (fun h1 => ?_)
      · refine Ev.tt (by omega) (Ev.tt (by rw [dlist_length]; omega) (Ev.tt (by rw [ints_length]; omega) ?_))
        have hb1 := I.le x
        have hrel : relax (st w h n) x j S = (upd S.1 y (S.1 x + 1), S.2 ++ [y]) := by
          unfold relax
          rw [hy, Int.toNat_natCast, if_pos ⟨by omega, h1⟩]
        rw [hrel] at ih
        rw [Int.toNat_natCast, dlist_set hyv, ← ints_app]
        have := I.low x
        rw [wrap64_id (by omega) (by omega)]
        exact ih
      · have hrel : relax (st w h n) x j S = S := by
          unfold relax
          rw [hy, Int.toNat_natCast, if_neg (fun hc => h1 hc.2)]
        rw [hrel] at ih
        exact ih
    · have hrel : relax (st w h n) x j S = S := by
        unfold relax
        rw [if_neg (fun hc => h0 hc.1)]
      rw [hrel] at ih
      exact ih
theorem spec_dist_l1 {src : Nat} (hs : src < cellsN w h) : ∀ (f i : Nat) (S : (Nat → Int) × List Nat), BInv (st w h n) (cellsN w h) src S i 0 → SI (cellsN w h) S → i ≤ S.2.length → cellsN w h + 1 - i ≤ f →
    Ev (fun k => spec_l04Distances.l1 k (dlist (cellsN w h) S.1) (ints S.2) i w h n) (dlist (cellsN w h) (bfsF (st w h n) f S i))
  | 0, i, S, B, I, hi, hf => by have := B.len; omega
  | f + 1, i, S, B, I, hi, hf => by
    have h16 := cellsN_le w h
    have hlen := B.len
    refine Ev.step (fun _ => spec_l04Distances.l1.eq_2 ..) ?_
    simp only [bfsF]
    cases hx : S.2[i]? with
    | none =>
      rw [List.getElem?_eq_none_iff] at hx
      exact Ev.ff (by rw [ints_length]; omega) (Ev.ret rfl)
    | some x =>
      have hil := (List.getElem?_eq_some_iff.1 hx).1
      refine Ev.tt (by rw [ints_length]; omega) ?_
      refine spec_dist_l2 hg hn (i := i) (x := x) _ 4 0 S rfl I hx (by omega) (fun S' hS' I' => ?_)
      rw [List.drop_zero, ← bround_eq] at hS'
      subst hS'
      have B' := B.round (net_grid hn).rng hx
      refine spec_dist_l1 hs f (i + 1) _ B' I' ?_ (by omega)
      have h1 : ∀ m T, T.2.length ≤ (relax (st w h n) x m T).2.length := by
        intro m T
        unfold relax
        split <;> simp
      have := Nat.le_trans (h1 0 S) (Nat.le_trans (h1 1 _) (Nat.le_trans (h1 2 _) (h1 3 _)))
      show i + 1 ≤ (bround (st w h n) x S).2.length
      unfold bround
      omega
omit hg hn in
theorem spec_dist_l0 {src : Nat} (hs : src < cellsN w h) (res : List Int) (next : Ev (fun k => spec_l04Distances.l1 k (dlist (cellsN w h) (upd (fun _ => -1) src 0)) (ints [src]) 0 w h n) res) :
    ∀ (d i : Nat) (X : List Int), i + d = cellsN w h → X = dlist (cellsN w h) (fun c => if c < i then -1 else 0) → Ev (fun k => spec_l04Distances.l0 k src X i w h n) res
  | 0, i, X, hd, hX => by
    subst hX
    refine Ev.step (fun _ => spec_l04Distances.l0.eq_2 ..) (Ev.ff (by rw [dlist_length]; omega) (Ev.tt (by omega) (Ev.tt (by rw [dlist_length]; omega) ?_)))
    rw [Int.toNat_natCast, dlist_set hs]
    have e : dlist (cellsN w h) (upd (fun c => if c < i then -1 else 0) src 0) = dlist (cellsN w h) (upd (fun _ => -1) src 0) := by
      unfold dlist
      refine List.map_congr_left fun c hc => ?_
      rw [List.mem_range] at hc
      simp only [upd]
      rw [if_pos (show c < i by omega)]
    rw [e]
    exact next
  | d + 1, i, X, hd, hX => by
    have h16 := cellsN_le w h
    subst hX
    refine Ev.step (fun _ => spec_l04Distances.l0.eq_2 ..) (Ev.tt (by rw [dlist_length]; omega) (Ev.tt (by omega) ?_))
    rw [Int.toNat_natCast, dlist_set (by omega), wsucc (by omega)]
    refine spec_dist_l0 hs res next d (i + 1) _ (by omega) ?_
    unfold dlist
    refine List.map_congr_left fun c hc => ?_
    simp only [upd]
    by_cases e : c = i
    · rw [if_pos e, if_pos (by omega)]
    · rw [if_neg e]
      by_cases e2 : c < i
      · rw [if_pos e2, if_pos (by omega)]
      · rw [if_neg e2, if_neg (by omega)]
theorem spec_distances_ev {src : Nat} (hs : src < cellsN w h) : Ev (fun k => spec_l04Distances.f k w h n src) (dlist (cellsN w h) (distN w h n src)) := by
  have h16 := cellsN_le w h
  have hcast := cellsN_cast w h
  unfold spec_l04Distances.f
  refine Ev.bnd0 (spec_CountCells_eq w h) (Ev.tt (by omega) (Ev.tt (by omega) ?_))
  refine spec_dist_l0 hs _ (spec_dist_l1 hg hn hs _ 0 _ (BInv.start hs) (SI.start hs) (by simp) (by omega)) (cellsN w h) 0 _ (by omega) ?_
  refine List.ext_getElem (by simp [dlist]; omega) fun i h1 h2 => ?_
  simp [dlist]
end
end Go.Proofs.Ytcajhmldbkfhiaa.P
namespace Go.Proofs.Ytcajhmldbkfhiaa.P
open Go.RowKit Go.Proofs.YtcajhmldbkfhiaaW.PrintWords Go.Proofs.Ytcajhmldbkfhiaa.Sup
set_option linter.unusedVariables false
set_option linter.unusedSimpArgs false

theorem impl_isIn_one (w h o c : Int) : impl_isIn.f w h o [c] = some (mazeOk w h o && isCellI w h c) := by
  unfold impl_isIn.f
  rw [impl_MazeOk_eq, Option.bind_some]
  cases hm : mazeOk w h o
  · simp
  · rw [if_pos rfl]
    simp [impl_isCell_eq]
theorem impl_isIn_two (w h o a b : Int) : impl_isIn.f w h o [a, b] = some (mazeOk w h o && (isCellI w h a && isCellI w h b)) := by
  unfold impl_isIn.f
  rw [impl_MazeOk_eq, Option.bind_some]
  cases hm : mazeOk w h o
  · simp
  · rw [if_pos rfl]
    simp [impl_isCell_eq]
theorem spec_l04Has_eq (w h o c : Int) : spec_l04Has.f w h o c = some (mazeOk w h o && isCellI w h c) := by
  have hr := cellsOf_range w h
  unfold spec_l04Has.f isCellI
  rw [spec_MazeOk_eq, Option.bind_some]
  cases hm : mazeOk w h o
  · simp
  · rw [if_pos rfl, spec_CountCells_eq, Option.bind_some, wrap64_id (by omega) (by omega), l01In_eq, Option.bind_some]
    simp only [Bool.true_and]
    congr 1
    rw [decide_eq_decide]
    omega
end Go.Proofs.Ytcajhmldbkfhiaa.P
namespace Go.Proofs.Ytcajhmldbkfhiaa.P
open Go.RowKit Go.Proofs.YtcajhmldbkfhiaaW.PrintWords
set_option linter.unusedVariables false
set_option linter.unusedSimpArgs false

/-- i, i + 1, .. : d of them. -/
def run (i d : Nat) : List Int := (List.range d).map fun t => ((i + t : Nat) : Int)
theorem run_succ (i d : Nat) : run i (d + 1) = (i : Int) :: run (i + 1) d := by
  simp only [run, List.range_succ_eq_map, List.map_cons, List.map_map, Nat.add_zero]
  congr 1
  apply List.map_congr_left
  intro t _
  simp only [Function.comp, Nat.succ_eq_add_one]
  congr 1
  omega
theorem mem_run {i d : Nat} {x : Int} : x ∈ run i d ↔ (i : Int) ≤ x ∧ x < ((i + d : Nat) : Int) := by
  simp only [run, List.mem_map, List.mem_range]
  constructor
  · rintro ⟨t, ht, rfl⟩
    omega
  · intro ⟨h1, h2⟩
    exact ⟨(x - i).toNat, by omega, by omega⟩
theorem upTo_l0 (n : Nat) (hn : n ≤ 1000000) : ∀ (d i : Nat) (out : List Int), n - i = d → i ≤ n → out.length ≤ i → Ev (fun k => impl_upTo.l0 k n out i) (out ++ run i d)
  | 0, i, out, hd, hi, ho => by
    refine Ev.step (fun _ => impl_upTo.l0.eq_2 ..) (Ev.ff (by omega) (Ev.ret ?_))
    simp [run]
  | d + 1, i, out, hd, hi, ho => by
    refine Ev.step (fun _ => impl_upTo.l0.eq_2 ..) (Ev.tt (by omega) (Ev.tt (by omega) ?_))
    rw [wsucc (by omega), run_succ]
    have := upTo_l0 n hn d (i + 1) (out ++ [(i : Int)]) (by omega) (by omega) (by simp; omega)
    simpa using this
theorem impl_upTo_ev (n : Nat) (hn : n ≤ 1000000) : Ev (fun k => impl_upTo.f k n) (run 0 n) := by
  unfold impl_upTo.f
  have := upTo_l0 n hn n 0 [] (by omega) (by omega) (by simp)
  simpa using this
def p1 (x : Nat) : Nat := ((x / 2) &&& 6148914691236517205) + (x &&& 6148914691236517205)
def p2 (x : Nat) : Nat := ((x / 4) &&& 3689348814741910323) + (x &&& 3689348814741910323)
def p3 (x : Nat) : Nat := (x / 16 + x) &&& 1085102592571150095
theorem and_split {a m : Nat} (b M : Nat) (ha : a < 256) (hm : m < 256) : (256 * b + a) &&& (256 * M + m) = 256 * (b &&& M) + (a &&& m) := by
  apply Nat.eq_of_testBit_eq
  intro i
  have h1 := Nat.testBit_two_pow_mul_add b (i := 8) ha i
  have h2 := Nat.testBit_two_pow_mul_add M (i := 8) hm i
  have h3 := Nat.testBit_two_pow_mul_add (b &&& M) (i := 8) (b := a &&& m) (Nat.lt_of_le_of_lt Nat.and_le_left ha) i
  simp only [show (2 : Nat) ^ 8 = 256 from rfl] at h1 h2 h3
  rw [Nat.testBit_and, h1, h2, h3]
  split <;> simp [Nat.testBit_and]
theorem p1_split (b a : Nat) (ha : a < 256) : p1 (256 * b + a) = 256 * (((b / 2) &&& 24019198012642645) + (b &&& 24019198012642645)) + p1 a := by
  have e1 : (256 * b + a) / 2 = 256 * (b / 2) + (128 * (b % 2) + a / 2) := by omega
  have e2 : ∀ c, c < 2 → ∀ a, a < 256 → (128 * c + a / 2) &&& 85 = (a / 2) &&& 6148914691236517205 := by decide +kernel
  have e3 : ∀ a, a < 256 → a &&& 85 = a &&& 6148914691236517205 := by decide +kernel
  unfold p1
  rw [e1, show (6148914691236517205 : Nat) = 256 * 24019198012642645 + 85 from rfl, and_split _ _ (by omega) (by decide), and_split _ _ ha (by decide), ← show (6148914691236517205 : Nat) = 256 * 24019198012642645 + 85 from rfl, e2 _ (Nat.mod_lt _ (by decide)) a ha, e3 a ha]
  omega
theorem p2_split (b a : Nat) (ha : a < 256) : p2 (256 * b + a) = 256 * (((b / 4) &&& 14411518807585587) + (b &&& 14411518807585587)) + p2 a := by
  have e1 : (256 * b + a) / 4 = 256 * (b / 4) + (64 * (b % 4) + a / 4) := by omega
  have e2 : ∀ c, c < 4 → ∀ a, a < 256 → (64 * c + a / 4) &&& 51 = (a / 4) &&& 3689348814741910323 := by decide +kernel
  have e3 : ∀ a, a < 256 → a &&& 51 = a &&& 3689348814741910323 := by decide +kernel
  unfold p2
  rw [e1, show (3689348814741910323 : Nat) = 256 * 14411518807585587 + 51 from rfl, and_split _ _ (by omega) (by decide), and_split _ _ ha (by decide), ← show (3689348814741910323 : Nat) = 256 * 14411518807585587 + 51 from rfl, e2 _ (Nat.mod_lt _ (by decide)) a ha, e3 a ha]
  omega
theorem p3_split (b a : Nat) (ha : a < 72) (hb : b % 16 ≤ 4) : p3 (256 * b + a) = 256 * ((b / 16 + b) &&& 4238682002231055) + p3 a := by
  have e1 : (256 * b + a) / 16 + (256 * b + a) = 256 * (b / 16 + b) + (16 * (b % 16) + a / 16 + a) := by omega
  have e2 : ∀ c, c < 5 → ∀ a, a < 72 → (16 * c + a / 16 + a) &&& 15 = (a / 16 + a) &&& 1085102592571150095 := by decide +kernel
  unfold p3
  rw [e1, show (1085102592571150095 : Nat) = 256 * 4238682002231055 + 15 from rfl, and_split _ _ (by omega) (by decide), ← show (1085102592571150095 : Nat) = 256 * 4238682002231055 + 15 from rfl, e2 _ (by omega) a ha]
theorem byte : ∀ a, a < 256 → p1 a < 256 ∧ p1 a % 4 ≤ 2 ∧ p2 (p1 a) < 72 ∧ p2 (p1 a) % 16 ≤ 4 ∧ p3 (p2 (p1 a)) = pop 8 a := by decide +kernel
theorem and_low {b M : Nat} (hb : b < 65536) : b &&& M = b &&& (M % 65536) := by
  have h := Nat.and_mod_two_pow (a := b) (b := M) (n := 16)
  simp only [show (2 : Nat) ^ 16 = 65536 from rfl] at h
  rw [Nat.mod_eq_of_lt hb, Nat.mod_eq_of_lt (Nat.lt_of_le_of_lt Nat.and_le_left hb)] at h
  exact h
theorem p1_hi {b : Nat} (hb : b < 65536) : ((b / 2) &&& 24019198012642645) + (b &&& 24019198012642645) = p1 b := by
  unfold p1
  rw [and_low (show b / 2 < 65536 by omega), and_low hb, and_low (M := 6148914691236517205) (show b / 2 < 65536 by omega), and_low (M := 6148914691236517205) hb]
theorem p2_hi {b : Nat} (hb : b < 65536) : ((b / 4) &&& 14411518807585587) + (b &&& 14411518807585587) = p2 b := by
  unfold p2
  rw [and_low (show b / 4 < 65536 by omega), and_low hb, and_low (M := 3689348814741910323) (show b / 4 < 65536 by omega), and_low (M := 3689348814741910323) hb]
theorem p3_hi {b : Nat} (hb : b < 61680) : (b / 16 + b) &&& 4238682002231055 = p3 b := by
  unfold p3
  rw [and_low (show b / 16 + b < 65536 by omega), and_low (M := 1085102592571150095) (show b / 16 + b < 65536 by omega)]
theorem p3_three {a b c : Nat} (ha : a < 256) (hb : b < 256) (hc : c < 256) : p3 (p2 (p1 (256 * (256 * c + b) + a))) = 256 * (256 * pop 8 c + pop 8 b) + pop 8 a := by
  obtain ⟨a1, _, a2, a3, a4⟩ := byte a ha
  obtain ⟨b1, _, b2, b3, b4⟩ := byte b hb
  obtain ⟨c1, _, c2, c3, c4⟩ := byte c hc
  rw [p1_split _ _ ha, p1_hi (by omega), p1_split _ _ hb, p1_hi (by omega)]
  rw [p2_split _ _ a1, p2_hi (by omega), p2_split _ _ b1, p2_hi (by omega)]
  rw [p3_split _ _ a2 (by omega), p3_hi (by omega), p3_split _ _ b2 c3, p3_hi (by omega), a4, b4, c4]
theorem pop24 (a b c : Nat) (ha : a < 256) (hb : b < 256) (hc : c < 256) : pop 24 (256 * (256 * c + b) + a) = pop 8 a + pop 8 b + pop 8 c := by
  rw [show 24 = 8 + (8 + 8) from rfl, pop_add, pop_add, show (2 : Nat) ^ 8 = 256 from rfl, show (256 * (256 * c + b) + a) / 256 = 256 * c + b by omega, show (256 * c + b) / 256 = c by omega]
  rw [← pop_mod 8 (256 * (256 * c + b) + a), ← pop_mod 8 (256 * c + b), show (2 : Nat) ^ 8 = 256 from rfl, show (256 * (256 * c + b) + a) % 256 = a by omega, show (256 * c + b) % 256 = b by omega, Nat.add_assoc]
theorem u64_small {n : Nat} (h : n < 18446744073709551616) : IntKind.u64.wrap (n : Int) = n := by
  rw [IntKind.wrap_u64]; omega
theorem u64_and {a b : Nat} (ha : a < 9223372036854775808) (hb : b < 9223372036854775808) : Go.bits .and .u64 a b = ((a &&& b : Nat) : Int) :=
  (bits_nat .u64 63 (by decide) (fun n h0 h1 => by rw [IntKind.wrap_u64]; omega) a b (by simpa using ha) (by simpa using hb)).1
def s1 (a : Int) : Int := IntKind.u64.wrap ((Go.bits .and .u64 (a / 2) 6148914691236517205) + (Go.bits .and .u64 a 6148914691236517205))
def s2 (a : Int) : Int := IntKind.u64.wrap ((Go.bits .and .u64 (a / 4) 3689348814741910323) + (Go.bits .and .u64 a 3689348814741910323))
def s3 (a : Int) : Int := Go.bits .and .u64 (IntKind.u64.wrap (a / 16 + a)) 1085102592571150095
def s4 (a : Int) : Int := IntKind.u64.wrap (a + a / 256)
def s5 (a : Int) : Int := IntKind.u64.wrap (a + a / 65536)
def s6 (a : Int) : Int := IntKind.u64.wrap (a + a / 4294967296)
theorem ones_steps (a : Int) : bits_OnesCount.f a = some (Go.bits .and .i64 (wrap64 (s6 (s5 (s4 (s3 (s2 (s1 a))))))) 127) := rfl
theorem s1_nat {a : Nat} (h : a < 16777216) : s1 (a : Int) = (p1 a : Int) := by
  unfold s1 p1
  rw [show ((a : Int) / 2) = ((a / 2 : Nat) : Int) by omega, show (6148914691236517205 : Int) = ((6148914691236517205 : Nat) : Int) from rfl, u64_and (by omega) (by decide), u64_and (by omega) (by decide)]
  have h1 : (a / 2 &&& 6148914691236517205) ≤ a / 2 := Nat.and_le_left
  have h2 : (a &&& 6148914691236517205) ≤ a := Nat.and_le_left
  rw [← Int.natCast_add, u64_small (by omega)]
theorem s2_nat {a : Nat} (h : a < 67108864) : s2 (a : Int) = (p2 a : Int) := by
  unfold s2 p2
  rw [show ((a : Int) / 4) = ((a / 4 : Nat) : Int) by omega, show (3689348814741910323 : Int) = ((3689348814741910323 : Nat) : Int) from rfl, u64_and (by omega) (by decide), u64_and (by omega) (by decide)]
  have h1 : (a / 4 &&& 3689348814741910323) ≤ a / 4 := Nat.and_le_left
  have h2 : (a &&& 3689348814741910323) ≤ a := Nat.and_le_left
  rw [← Int.natCast_add, u64_small (by omega)]
theorem s3_nat {a : Nat} (h : a < 268435456) : s3 (a : Int) = (p3 a : Int) := by
  unfold s3 p3
  rw [show ((a : Int) / 16 + a) = ((a / 16 + a : Nat) : Int) by omega, u64_small (by omega), show (1085102592571150095 : Int) = ((1085102592571150095 : Nat) : Int) from rfl, u64_and (by omega) (by decide)]
/-- The library's count of bits. -/
theorem ones_eq {s : Nat} (h : s < 16777216) : bits_OnesCount.f (s : Int) = some (pop 24 s : Int) := by
  rw [ones_steps]
  have h1 : p1 s < 67108864 := by
    unfold p1
    have h1 : (s / 2 &&& 6148914691236517205) ≤ s / 2 := Nat.and_le_left
    have h2 : (s &&& 6148914691236517205) ≤ s := Nat.and_le_left
    omega
  have h2 : p2 (p1 s) < 268435456 := by
    unfold p2
    have h3 : (p1 s / 4 &&& 3689348814741910323) ≤ p1 s / 4 := Nat.and_le_left
    have h4 : (p1 s &&& 3689348814741910323) ≤ p1 s := Nat.and_le_left
    omega
  rw [s1_nat h, s2_nat h1, s3_nat h2]
  obtain ⟨a, b, c, ha, hb, hc, rfl⟩ : ∃ a b c, a < 256 ∧ b < 256 ∧ c < 256 ∧ s = 256 * (256 * c + b) + a := ⟨s % 256, s / 256 % 256, s / 65536, by omega, by omega, by omega, by omega⟩
  rw [p3_three ha hb hc, pop24 _ _ _ ha hb hc]
  have qa := pop_le 8 a
  have qb := pop_le 8 b
  have qc := pop_le 8 c
  generalize pop 8 a = x at *
  generalize pop 8 b = y at *
  generalize pop 8 c = z at *
  have e4 : s4 ((256 * (256 * z + y) + x : Nat) : Int) = ((65536 * z + 256 * (y + z) + (x + y) : Nat) : Int) := by
    unfold s4
    rw [show (((256 * (256 * z + y) + x : Nat) : Int) + ((256 * (256 * z + y) + x : Nat) : Int) / 256) = ((65536 * z + 256 * (y + z) + (x + y) : Nat) : Int) by omega, u64_small (by omega)]
  have e5 : s5 ((65536 * z + 256 * (y + z) + (x + y) : Nat) : Int) = ((65536 * z + 256 * (y + z) + (x + y + z) : Nat) : Int) := by
    unfold s5
    rw [show (((65536 * z + 256 * (y + z) + (x + y) : Nat) : Int) + ((65536 * z + 256 * (y + z) + (x + y) : Nat) : Int) / 65536) = ((65536 * z + 256 * (y + z) + (x + y + z) : Nat) : Int) by omega, u64_small (by omega)]
  have e6 : s6 ((65536 * z + 256 * (y + z) + (x + y + z) : Nat) : Int) = ((65536 * z + 256 * (y + z) + (x + y + z) : Nat) : Int) := by
    unfold s6
    rw [show (((65536 * z + 256 * (y + z) + (x + y + z) : Nat) : Int) + ((65536 * z + 256 * (y + z) + (x + y + z) : Nat) : Int) / 4294967296) = ((65536 * z + 256 * (y + z) + (x + y + z) : Nat) : Int) by omega, u64_small (by omega)]
  rw [e4, e5, e6, wrap64_id (by omega) (by omega), show (127 : Int) = ((127 : Nat) : Int) from rfl, bits_and (by omega) (by decide)]
  congr 2
  rw [show (127 : Nat) = 2 ^ 7 - 1 from rfl, Nat.and_two_pow_sub_one_eq_mod]
  omega
theorem ones_eq' {n s : Nat} (hn : n ≤ 24) (h : s < 2 ^ n) : bits_OnesCount.f (s : Int) = some (pop n s : Int) := by
  rw [ones_eq (Nat.lt_of_lt_of_le h (Nat.pow_le_pow_right (by decide) hn)), pop_big h hn]
end Go.Proofs.Ytcajhmldbkfhiaa.P
namespace Go.Proofs.Ytcajhmldbkfhiaa.P
open Go.RowKit Go.Proofs.YtcajhmldbkfhiaaW.PrintWords
set_option linter.unusedVariables false
set_option linter.unusedSimpArgs false

theorem run_zero (v : Nat) : run 0 v = ints (List.range v) := by
  unfold run ints
  exact List.map_congr_left fun t _ => by omega
theorem isCellI_nat {w h : Int} {c : Nat} (hc : c < cellsN w h) : isCellI w h c = true := by
  have := cellsN_cast w h
  unfold isCellI
  rw [decide_eq_true_eq]; omega
section
variable {w h : Int} {n : Nat} (hg : gridOk w h = true) (hn : n < 2 ^ gapsN w h)
include hg hn
theorem mazeOk_nat : mazeOk w h n = true := mazeOk_iff.2 ⟨hg, n, rfl, hn⟩
theorem impl_Reached_ev {s : Nat} (hs : s < cellsN w h) : Ev (fun k => impl_Reached.f k w h n s) (ints (reachN w h n s)) := by
  have h16 := cellsN_le w h
  unfold impl_Reached.f
  refine Ev.bnd0 (impl_isIn_one w h n s) (Ev.tt (by rw [mazeOk_nat hg hn, isCellI_nat hs]; rfl) ?_)
  refine Ev.bind (impl_distances_ev hg hn hs) ?_
  rw [dlist_length]
  refine Ev.bind (impl_upTo_ev _ (by omega)) (Ev.tt ?_ (Ev.ret ?_))
  · rw [List.all_eq_true]
    intro c hc
    have := mem_run.1 hc
    rw [decide_eq_true_eq]
    omega
  · rw [run_zero]
    unfold reachN ints
    rw [List.filter_map]
    congr 1
    refine List.filter_congr fun c hc => ?_
    rw [List.mem_range] at hc
    simp only [Function.comp]
    rw [rd_dlist hc]
    by_cases h1 : distN w h n s c < 0
    · rw [decide_eq_true h1, decide_eq_false (show ¬ 0 ≤ distN w h n s c by omega)]; rfl
    · rw [decide_eq_false h1, decide_eq_true (show 0 ≤ distN w h n s c by omega)]; rfl
omit hg hn in
theorem spec_reach_l0 {s : Nat} : ∀ (d i : Nat) (out : List Nat), i + d = cellsN w h → out.length ≤ i →
    Ev (fun k => spec_Reached.l0 k (ints out) (dlist (cellsN w h) (distN w h n s)) i) (ints (out ++ ((List.range d).map (i + ·)).filter fun c => decide (0 ≤ distN w h n s c)))
  | 0, i, out, hd, ho => by
    refine Ev.step (fun _ => spec_Reached.l0.eq_2 ..) (Ev.ff (by rw [dlist_length]; omega) (Ev.ret ?_))
    simp
  | d + 1, i, out, hd, ho => by
    have h16 := cellsN_le w h
    refine Ev.step (fun _ => spec_Reached.l0.eq_2 ..) (Ev.tt (by rw [dlist_length]; omega) (Ev.tt (by omega) ?_))
    rw [rd_dlist (by omega), wsucc (by omega), List.range_succ_eq_map, List.map_cons, List.map_map, List.filter_cons, Nat.add_zero]
    have hmap : List.map ((fun x => i + x) ∘ Nat.succ) (List.range d) = List.map (fun x => i + 1 + x) (List.range d) := List.map_congr_left fun x _ => by simp only [Function.comp]; omega
    rw [hmap]
    refine Ev.ite (fun h1 => Ev.tt (by rw [ints_length]; omega) ?_) (fun h1 => ?_)
    · rw [if_pos (by simpa using h1), ← ints_app]
      have := spec_reach_l0 (s := s) d (i + 1) (out ++ [i]) (by omega) (by simp; omega)
      simpa using this
    · rw [if_neg (by simpa using h1)]
      exact spec_reach_l0 d (i + 1) out (by omega) (by omega)
theorem spec_Reached_ev {s : Nat} (hs : s < cellsN w h) : Ev (fun k => spec_Reached.f k w h n s) (ints (reachN w h n s)) := by
  unfold spec_Reached.f
  refine Ev.bnd0 rfl (Ev.bnd0 (spec_l04Has_eq w h n s) (Ev.tt (by rw [mazeOk_nat hg hn, isCellI_nat hs]; rfl) ?_))
  refine Ev.bind (spec_distances_ev hg hn hs) ?_
  have := spec_reach_l0 (w := w) (h := h) (n := n) (s := s) (cellsN w h) 0 [] (by omega) (by simp)
  have e : ([] ++ ((List.range (cellsN w h)).map (0 + ·)).filter fun c => decide (0 ≤ distN w h n s c)) = reachN w h n s := by
    unfold reachN
    rw [List.nil_append]
    congr 1
    have : ∀ l : List Nat, l.map (0 + ·) = l := fun l => by
      induction l with
      | nil => rfl
      | cons a t ih => simp
    exact this _
  rw [e] at this
  exact this
/-- The distance between two cells, or -1. -/
theorem impl_DistanceOf_ev {a b : Nat} (ha : a < cellsN w h) (hb : b < cellsN w h) : Ev (fun k => impl_DistanceOf.f k w h n a b) (distN w h n a b) := by
  unfold impl_DistanceOf.f
  refine Ev.bnd0 (impl_isIn_two w h n a b) (Ev.tt (by rw [mazeOk_nat hg hn, isCellI_nat ha, isCellI_nat hb]; rfl) ?_)
  refine Ev.bind (impl_distances_ev hg hn ha) (Ev.tt (by omega) (Ev.tt (by rw [dlist_length]; omega) (Ev.ret ?_)))
  exact rd_dlist hb
theorem spec_DistanceOf_ev {a b : Nat} (ha : a < cellsN w h) (hb : b < cellsN w h) : Ev (fun k => spec_DistanceOf.f k w h n a b) (distN w h n a b) := by
  unfold spec_DistanceOf.f
  refine Ev.bnd0 (spec_l04Has_eq w h n a) (Ev.tt (by rw [mazeOk_nat hg hn, isCellI_nat ha]; rfl) ?_)
  refine Ev.bnd0 (spec_l04Has_eq w h n b) (Ev.tt (by rw [mazeOk_nat hg hn, isCellI_nat hb]; rfl) ?_)
  refine Ev.bind (spec_distances_ev hg hn ha) (Ev.tt (by omega) (Ev.tt (by rw [dlist_length]; omega) (Ev.ret ?_)))
  exact rd_dlist hb
omit hg hn in
theorem head_is {s : Nat} (hn : n < 2 ^ gapsN w h) (hs : s < cellsN w h) : 0 < ((ints (reachN w h n s)).length : Int) ∧ rd (ints (reachN w h n s)) 0 = labN w h n s := by
  obtain ⟨t, ht⟩ := reachN_head hn hs
  rw [ht]
  exact ⟨by simp [ints], rfl⟩
theorem impl_parts_l0 : ∀ (d c m : Nat), c + d = cellsN w h → m ≤ c → Ev (fun k => impl_CountParts.l0 k m c w h n) (((m + (cnt (fun i => labN w h n i == i) (cellsN w h) - cnt (fun i => labN w h n i == i) c) : Nat)) : Int)
  | 0, c, m, hd, hm => by
    have hcast := cellsN_cast w h
    refine Ev.step (fun _ => impl_CountParts.l0.eq_2 ..) (Ev.bnd0 (impl_isIn_one w h n c) (Ev.ff ?_ (Ev.ret ?_)))
    · have : isCellI w h c = false := by unfold isCellI; rw [decide_eq_false_iff_not]; omega
      rw [this]; simp
    · rw [show c = cellsN w h by omega, Nat.sub_self, Nat.add_zero]
  | d + 1, c, m, hd, hm => by
    have h16 := cellsN_le w h
    have hcv : c < cellsN w h := by omega
    obtain ⟨e1, e2⟩ := head_is hn hcv
    refine Ev.step (fun _ => impl_CountParts.l0.eq_2 ..) (Ev.bnd0 (impl_isIn_one w h n c) (Ev.tt (by rw [mazeOk_nat hg hn, isCellI_nat hcv]; rfl) ?_))
    refine Ev.bind (impl_Reached_ev hg hn hcv) (Ev.tt e1 ?_)
    rw [e2, wsucc (by omega), wsucc (by omega)]
    have hle : cnt (fun i => labN w h n i == i) (c + 1) ≤ cnt (fun i => labN w h n i == i) (cellsN w h) := by
      obtain ⟨x, hx⟩ := Nat.exists_eq_add_of_le (show c + 1 ≤ cellsN w h by omega)
      rw [hx]
      have : ∀ x, cnt (fun i => labN w h n i == i) (c + 1) ≤ cnt (fun i => labN w h n i == i) (c + 1 + x) := by
        intro x
        induction x with
        | zero => exact Nat.le_refl _
        | succ x ih => rw [← Nat.add_assoc]; simp only [cnt]; simp only [cnt] at ih; omega
      exact this x
    simp only [cnt] at hle
    refine Ev.ite (fun h1 => ?_) (fun h1 => ?_)
    · refine Ev.eq (impl_parts_l0 d (c + 1) (m + 1) (by omega) (by omega)) ?_
      have : (labN w h n c == c) = true := by rw [beq_iff_eq]; omega
      simp only [cnt, this, Bool.toNat_true] at hle ⊢
      omega
    · refine Ev.eq (impl_parts_l0 d (c + 1) m (by omega) (by omega)) ?_
      have : (labN w h n c == c) = false := by rw [beq_eq_false_iff_ne]; omega
      simp only [cnt, this, Bool.toNat_false] at hle ⊢
      omega
theorem impl_CountParts_ev : Ev (fun k => impl_CountParts.f k w h n) (partsN w h n : Int) := by
  unfold impl_CountParts.f
  refine Ev.eq (impl_parts_l0 hg hn (cellsN w h) 0 0 (by omega) (by omega)) ?_
  simp only [cnt, Nat.zero_add, Nat.sub_zero]
  rfl
theorem spec_parts_l0 : ∀ (d c m : Nat), c + d = cellsN w h → m ≤ c → Ev (fun k => spec_CountParts.l0 k m c w h n) (((m + (cnt (fun i => labN w h n i == i) (cellsN w h) - cnt (fun i => labN w h n i == i) c) : Nat)) : Int)
  | 0, c, m, hd, hm => by
    have hcast := cellsN_cast w h
    refine Ev.step (fun _ => spec_CountParts.l0.eq_2 ..) (Ev.bnd0 (spec_CountCells_eq w h) (Ev.ff (by omega) ?_))
    refine Ev.step (fun _ => spec_CountParts.j1.eq_2 ..) (Ev.ff (by decide) (Ev.ret ?_))
    rw [show c = cellsN w h by omega, Nat.sub_self, Nat.add_zero]
  | d + 1, c, m, hd, hm => by
    have h16 := cellsN_le w h
    have hcast := cellsN_cast w h
    have hcv : c < cellsN w h := by omega
    obtain ⟨e1, e2⟩ := head_is hn hcv
    refine Ev.step (fun _ => spec_CountParts.l0.eq_2 ..) (Ev.bnd0 (spec_CountCells_eq w h) (Ev.tt (by omega) (Ev.bnd0 (spec_MazeOk_eq w h n) ?_)))
    rw [mazeOk_nat hg hn]
    refine Ev.step (fun _ => spec_CountParts.j1.eq_2 ..) (Ev.tt rfl ?_)
    refine Ev.bind (spec_Reached_ev hg hn hcv) (Ev.tt e1 ?_)
    rw [e2, wsucc (by omega), wsucc (by omega)]
    have hle : cnt (fun i => labN w h n i == i) (c + 1) ≤ cnt (fun i => labN w h n i == i) (cellsN w h) := by
      obtain ⟨x, hx⟩ := Nat.exists_eq_add_of_le (show c + 1 ≤ cellsN w h by omega)
      rw [hx]
      have : ∀ x, cnt (fun i => labN w h n i == i) (c + 1) ≤ cnt (fun i => labN w h n i == i) (c + 1 + x) := by
        intro x
        induction x with
        | zero => exact Nat.le_refl _
        | succ x ih => rw [← Nat.add_assoc]; simp only [cnt]; simp only [cnt] at ih; omega
      exact this x
    simp only [cnt] at hle
    refine Ev.ite (fun h1 => ?_) (fun h1 => ?_)
    · refine Ev.eq (spec_parts_l0 d (c + 1) (m + 1) (by omega) (by omega)) ?_
      have : (labN w h n c == c) = true := by rw [beq_iff_eq]; omega
      simp only [cnt, this, Bool.toNat_true] at hle ⊢
      omega
    · refine Ev.eq (spec_parts_l0 d (c + 1) m (by omega) (by omega)) ?_
      have : (labN w h n c == c) = false := by rw [beq_eq_false_iff_ne]; omega
      simp only [cnt, this, Bool.toNat_false] at hle ⊢
      omega
theorem spec_CountParts_ev : Ev (fun k => spec_CountParts.f k w h n) (partsN w h n : Int) := by
  unfold spec_CountParts.f
  refine Ev.eq (spec_parts_l0 hg hn (cellsN w h) 0 0 (by omega) (by omega)) ?_
  simp only [cnt, Nat.zero_add, Nat.sub_zero]
  rfl
end
theorem impl_CountParts_bad {w h o : Int} (hm : mazeOk w h o = false) : Ev (fun k => impl_CountParts.f k w h o) 0 := by
  unfold impl_CountParts.f
  exact Ev.step (fun _ => impl_CountParts.l0.eq_2 ..) (Ev.bnd0 (impl_isIn_one w h o 0) (Ev.ff (by rw [hm]; simp) (Ev.ret rfl)))
theorem spec_CountParts_bad {w h o : Int} (hm : mazeOk w h o = false) : Ev (fun k => spec_CountParts.f k w h o) 0 := by
  unfold spec_CountParts.f
  have hj : Ev (fun k => spec_CountParts.j1 k 0 0 false w h o) 0 := Ev.step (fun _ => spec_CountParts.j1.eq_2 ..) (Ev.ff (by decide) (Ev.ret rfl))
  refine Ev.step (fun _ => spec_CountParts.l0.eq_2 ..) (Ev.bnd0 (spec_CountCells_eq w h) (Ev.ite (fun _ => Ev.bnd0 (spec_MazeOk_eq w h o) ?_) (fun _ => hj)))
  rw [hm]; exact hj
end Go.Proofs.Ytcajhmldbkfhiaa.P
namespace Go.Proofs.Ytcajhmldbkfhiaa.P
open Go.RowKit Go.Proofs.YtcajhmldbkfhiaaW.PrintWords
set_option linter.unusedVariables false
set_option linter.unusedSimpArgs false

theorem cnt_len (p : Nat → Bool) {a b : Nat} (h : a ≤ b) : cnt p a ≤ cnt p b := by
  obtain ⟨x, rfl⟩ := Nat.exists_eq_add_of_le h
  induction x with
  | zero => exact Nat.le_refl _
  | succ x ih => rw [← Nat.add_assoc]; simp only [cnt]; have := ih (by omega); omega
theorem pop_cnt (n k : Nat) : pop k n = cnt n.testBit k := by
  induction k with
  | zero => rfl
  | succ k ih => simp only [pop, cnt]; rw [ih]
theorem shift_count {p : Nat → Bool} {c v m : Nat} (hc : c < v) : m + (p c).toNat + (cnt p v - cnt p (c + 1)) = m + (cnt p v - cnt p c) := by
  have := cnt_len p (show c + 1 ≤ v by omega)
  simp only [cnt] at this ⊢
  omega
section
variable {w h : Int} {n : Nat} (hg : gridOk w h = true) (hn : n < 2 ^ gapsN w h)
include hg hn
theorem impl_CountPassages_eq : impl_CountPassages.f w h n = some (pop (gapsN w h) n : Int) := by
  have hs := open_small hn
  unfold impl_CountPassages.f
  rw [impl_MazeOk_eq, Option.bind_some, if_pos (mazeOk_nat hg hn), u64_small (by omega), ones_eq' (gapsN_le w h) hn, Option.bind_some]
theorem spec_passages_l0 : ∀ (d c m : Nat), c + d = gapsN w h → m ≤ c → Ev (fun k => spec_CountPassages.l0 k m c w h n) (((m + (cnt n.testBit (gapsN w h) - cnt n.testBit c) : Nat)) : Int)
  | 0, c, m, hd, hm => by
    have hcast := gapsN_cast w h
    refine Ev.step (fun _ => spec_CountPassages.l0.eq_2 ..) (Ev.bnd0 (spec_CountGaps_eq w h) (Ev.ff (by omega) ?_))
    refine Ev.step (fun _ => spec_CountPassages.j1.eq_2 ..) (Ev.ff (by decide) (Ev.ret ?_))
    rw [show c = gapsN w h by omega, Nat.sub_self, Nat.add_zero]
  | d + 1, c, m, hd, hm => by
    have hcast := gapsN_cast w h
    have h24 := gapsN_le w h
    have hs := open_small hn
    refine Ev.step (fun _ => spec_CountPassages.l0.eq_2 ..) (Ev.bnd0 (spec_CountGaps_eq w h) (Ev.tt (by omega) (Ev.bnd0 (spec_MazeOk_eq w h n) ?_)))
    rw [mazeOk_nat hg hn]
    refine Ev.step (fun _ => spec_CountPassages.j1.eq_2 ..) (Ev.tt rfl (Ev.bnd0 (spec_l03Bit_eq hs (by omega)) ?_))
    rw [openI_nat', wsucc (by omega), wsucc (by omega)]
    refine Ev.ite (fun h1 => ?_) (fun h1 => ?_)
    · refine Ev.eq (spec_passages_l0 d (c + 1) (m + 1) (by omega) (by omega)) ?_
      rw [← shift_count (p := n.testBit) (c := c) (v := gapsN w h) (m := m) (by omega), h1]
      rfl
    · refine Ev.eq (spec_passages_l0 d (c + 1) m (by omega) (by omega)) ?_
      rw [← shift_count (p := n.testBit) (c := c) (v := gapsN w h) (m := m) (by omega), Bool.eq_false_iff.2 h1]
      rfl
theorem spec_CountPassages_ev : Ev (fun k => spec_CountPassages.f k w h n) (pop (gapsN w h) n : Int) := by
  unfold spec_CountPassages.f
  refine Ev.eq (spec_passages_l0 hg hn (gapsN w h) 0 0 (by omega) (by omega)) ?_
  rw [pop_cnt]
  simp [cnt]
omit hn in
theorem perf_value : (if (decide (((partsN w h n : Nat) : Int) = 1)) = true then decide (((pop (gapsN w h) n : Nat) : Int) = wrap64 (cellsOf w h - 1)) else false) = perfN w h n := by
  have h16 := cellsN_le w h
  have hpos := cells_pos hg
  have hcast := cellsN_cast w h
  have hpop := pop_le (gapsN w h) n
  rw [wrap64_id (by omega) (by omega)]
  unfold perfN perf
  by_cases h1 : partsN w h n = 1
  · have h1' := h1
    unfold partsN at h1'
    rw [h1, h1']
    simp only [Int.natCast_one, decide_true, if_true, true_and]
    rw [decide_eq_decide]
    omega
  · have h1' := h1
    unfold partsN at h1'
    rw [if_neg (by simp; omega)]
    symm
    rw [decide_eq_false_iff_not]
    exact fun h2 => h1' h2.1
theorem impl_IsPerfect_ev : Ev (fun k => impl_IsPerfect.f k w h n) (perfN w h n) := by
  unfold impl_IsPerfect.f impl_IsConnected.f
  rw [← perf_value hg]
  refine Ev.bind (Ev.bind (impl_CountParts_ev hg hn) (Ev.ret rfl)) ?_
  refine Ev.ite (fun h1 => Ev.bnd0 (impl_CountPassages_eq hg hn) (Ev.bnd0 (impl_CountCells_eq w h) (Ev.ret ?_))) (fun h1 => Ev.ret ?_)
  · rw [if_pos (by simpa using h1)]
    rw [Bool.eq_iff_iff]
    simp
  · rw [if_neg (by simpa using h1)]
theorem spec_IsPerfect_ev : Ev (fun k => spec_IsPerfect.f k w h n) (perfN w h n) := by
  unfold spec_IsPerfect.f spec_IsConnected.f
  rw [← perf_value hg]
  refine Ev.bind (Ev.bind (spec_CountParts_ev hg hn) (Ev.ret rfl)) ?_
  refine Ev.ite (fun h1 => Ev.bind (spec_CountPassages_ev hg hn) (Ev.bnd0 (spec_CountCells_eq w h) (Ev.ret ?_))) (fun h1 => Ev.ret ?_)
  · rw [if_pos (by simpa using h1)]
    rw [Bool.eq_iff_iff]
    simp
  · rw [if_neg (by simpa using h1)]
end
/-- A perfect maze, for all arguments. -/
def perfI (w h o : Int) : Bool := mazeOk w h o && perfN w h o.toNat
theorem impl_IsPerfect_all (w h o : Int) : Ev (fun k => impl_IsPerfect.f k w h o) (perfI w h o) := by
  unfold perfI
  by_cases hm : mazeOk w h o = true
  · obtain ⟨hg, n, rfl, hn⟩ := mazeOk_iff.1 hm
    rw [hm]
    exact impl_IsPerfect_ev hg hn
  · rw [Bool.eq_false_iff.2 hm]
    unfold impl_IsPerfect.f impl_IsConnected.f
    exact Ev.bind (Ev.bind (impl_CountParts_bad (Bool.eq_false_iff.2 hm)) (Ev.ret rfl)) (Ev.ff (by decide) (Ev.ret rfl))
theorem spec_IsPerfect_all (w h o : Int) : Ev (fun k => spec_IsPerfect.f k w h o) (perfI w h o) := by
  unfold perfI
  by_cases hm : mazeOk w h o = true
  · obtain ⟨hg, n, rfl, hn⟩ := mazeOk_iff.1 hm
    rw [hm]
    exact spec_IsPerfect_ev hg hn
  · rw [Bool.eq_false_iff.2 hm]
    unfold spec_IsPerfect.f spec_IsConnected.f
    exact Ev.bind (Ev.bind (spec_CountParts_bad (Bool.eq_false_iff.2 hm)) (Ev.ret rfl)) (Ev.ff (by decide) (Ev.ret rfl))
theorem perfI_iff {w h o : Int} : perfI w h o = true ↔ gridOk w h = true ∧ ∃ n : Nat, o = (n : Int) ∧ n < 2 ^ gapsN w h ∧ perfN w h n = true := by
  unfold perfI
  rw [Bool.and_eq_true, mazeOk_iff]
  constructor
  · rintro ⟨⟨h1, n, rfl, h2⟩, h3⟩; exact ⟨h1, n, rfl, h2, h3⟩
  · rintro ⟨h1, n, rfl, h2, h3⟩; exact ⟨⟨h1, n, rfl, h2⟩, h3⟩
end Go.Proofs.Ytcajhmldbkfhiaa.P
namespace Go.Proofs.Ytcajhmldbkfhiaa.P
open Go.RowKit Go.Proofs.YtcajhmldbkfhiaaW.PrintWords
set_option linter.unusedVariables false
set_option linter.unusedSimpArgs false

theorem impl_EndsOf_eq (w h g : Int) : impl_EndsOf.f w h g = some (endsI w h g) := by
  unfold impl_EndsOf.f endsI
  rw [impl_isGap_eq, Option.bind_some]
  unfold isGapI
  by_cases hc : 0 ≤ g ∧ g < gapsOf w h
  · rw [if_pos hc, if_pos (by simpa using hc)]
    obtain ⟨hg, hgw⟩ := gapsOf_valid hc.1 hc.2
    have hgr := gridOk_iff.1 hg
    have hrr := gapsOf_range w h
    have hq0 : 0 ≤ (w - 1) * h := Int.mul_nonneg (by omega) (by omega)
    have hq1 : (w - 1) * h ≤ 3 * 4 := Int.mul_le_mul (by omega) (by omega) (by omega) (by omega)
    have hw1 : w - 1 = 0 → (w - 1) * h = 0 := fun e => by rw [e, Int.zero_mul]
    rw [wrap64_id (x := w - 1) (by omega) (by omega), wrap64_id (x := (w - 1) * h) (by omega) (by omega)]
    by_cases hlt : g < (w - 1) * h
    · rw [if_pos hlt, if_neg (by omega)]
      have hne : w - 1 ≠ 0 := fun e => by have := hw1 e; omega
      have ha0 : 0 ≤ g / (w - 1) := Int.ediv_nonneg hc.1 (by omega)
      have ha1 : g / (w - 1) ≤ g := Int.ediv_le_self _ hc.1
      have hb0 : 0 ≤ g % (w - 1) := Int.emod_nonneg _ (by omega)
      have hb1 : g % (w - 1) < w - 1 := Int.emod_lt_of_pos _ (by omega)
      have hp0 : 0 ≤ g / (w - 1) * w := Int.mul_nonneg ha0 (by omega)
      have hp1 : g / (w - 1) * w ≤ 23 * 4 := Int.mul_le_mul (by omega) (by omega) (by omega) (by omega)
      rw [if_neg hne, Int.tmod_eq_emod_of_nonneg hc.1, Int.tdiv_eq_ediv_of_nonneg hc.1, wrap64_id (x := g / (w - 1)) (by omega) (by omega), wrap64_id (x := g / (w - 1) * w) (by omega) (by omega), wrap64_id (x := g / (w - 1) * w + g % (w - 1)) (by omega) (by omega), wrap64_id (by omega) (by omega)]
    · rw [if_neg hlt, if_pos (by omega)]
      rw [wrap64_id (x := g - (w - 1) * h) (by omega) (by omega), wrap64_id (by omega) (by omega)]
  · rw [if_neg hc, if_neg (by simpa using hc)]
theorem spec_EndsOf_eq (w h g : Int) : spec_EndsOf.f w h g = some (endsI w h g) := by
  unfold spec_EndsOf.f endsI
  have hr0 := gapsOf_range w h
  rw [spec_CountGaps_eq, Option.bind_some, wrap64_id (x := gapsOf w h - 1) (by omega) (by omega), l01In_eq, Option.bind_some]
  by_cases hc : 0 ≤ g ∧ g < gapsOf w h
  · rw [if_pos hc, if_pos (by simp; omega)]
    obtain ⟨hg, hgw⟩ := gapsOf_valid hc.1 hc.2
    have hgr := gridOk_iff.1 hg
    have hrr := gapsOf_range w h
    have hq0 : 0 ≤ (w - 1) * h := Int.mul_nonneg (by omega) (by omega)
    have hq1 : (w - 1) * h ≤ 3 * 4 := Int.mul_le_mul (by omega) (by omega) (by omega) (by omega)
    have hw1 : w - 1 = 0 → (w - 1) * h = 0 := fun e => by rw [e, Int.zero_mul]
    rw [spec_l02East_eq hg]
    unfold eastOf
    simp only [Option.bind_some]
    rw [wrap64_id (x := w - 1) (by omega) (by omega)]
    by_cases hlt : g < (w - 1) * h
    · rw [if_pos hlt, if_pos hlt]
      have hne : w - 1 ≠ 0 := fun e => by have := hw1 e; omega
      have ha0 : 0 ≤ g / (w - 1) := Int.ediv_nonneg hc.1 (by omega)
      have ha1 : g / (w - 1) ≤ g := Int.ediv_le_self _ hc.1
      have hb0 : 0 ≤ g % (w - 1) := Int.emod_nonneg _ (by omega)
      have hb1 : g % (w - 1) < w - 1 := Int.emod_lt_of_pos _ (by omega)
      have hp0 : 0 ≤ g / (w - 1) * w := Int.mul_nonneg ha0 (by omega)
      have hp1 : g / (w - 1) * w ≤ 23 * 4 := Int.mul_le_mul (by omega) (by omega) (by omega) (by omega)
      rw [if_neg hne, Int.tmod_eq_emod_of_nonneg hc.1, Int.tdiv_eq_ediv_of_nonneg hc.1, wrap64_id (x := g / (w - 1)) (by omega) (by omega), wrap64_id (x := g / (w - 1) * w) (by omega) (by omega), wrap64_id (x := g / (w - 1) * w + g % (w - 1)) (by omega) (by omega), wrap64_id (by omega) (by omega)]
    · rw [if_neg hlt, if_neg hlt]
      rw [wrap64_id (x := g - (w - 1) * h) (by omega) (by omega), wrap64_id (by omega) (by omega)]
  · rw [if_neg hc, if_neg (by simp; omega)]
theorem spec_SetGap_ev {w h : Int} {n : Nat} (hg : gridOk w h = true) (hn : n < 2 ^ gapsN w h) {g : Nat} (hgg : g < gapsN w h) (b : Bool) : Ev (fun k => spec_SetGap.f k w h n g b) (w, h, ((setB n g b : Nat) : Int), true) := by
  have hr := gapsOf_range w h
  have hc := gapsN_cast w h
  have hp : 2 ^ g ≤ 2 ^ 24 := Nat.pow_le_pow_right (by decide) (by have := gapsN_le w h; omega)
  have hs := open_small hn
  unfold spec_SetGap.f
  refine Ev.bnd0 (spec_MazeOk_eq w h n) (Ev.tt (mazeOk_iff.2 ⟨hg, n, rfl, hn⟩) ?_)
  refine Ev.bnd0 (spec_CountGaps_eq w h) ?_
  rw [wrap64_id (by omega) (by omega)]
  refine Ev.bnd0 (l01In_eq ..) ?_
  rw [decide_eq_true (by omega)]
  refine Ev.step (fun _ => spec_SetGap.j0.eq_2 ..) ?_
  refine Ev.ff (by decide) (Ev.bnd0 (spec_l03Bit_eq hs (by omega)) ?_)
  have ho : openI n (g : Int) = n.testBit g := by simp [openI]
  rw [ho]
  refine Ev.ite (fun e => Ev.tt (by omega) (Ev.ret ?_)) (fun e => Ev.ret ?_)
  · rw [shl_pow (by omega), bits_xor (by omega) (by omega), xor_setB (by simpa using e)]
  · have : n.testBit g = b := by simpa using e
    rw [← this, setB_self]
end Go.Proofs.Ytcajhmldbkfhiaa.P
namespace Go.Proofs.Ytcajhmldbkfhiaa.P
open Go.RowKit Go.Proofs.YtcajhmldbkfhiaaW.PrintWords
set_option linter.unusedVariables false
set_option linter.unusedSimpArgs false

section
variable {w h : Int} {n z : Nat} (hg : gridOk w h = true) (hn : n < 2 ^ gapsN w h) (hz : z < cellsN w h)
include hg hn hz
theorem way_l1 {c : Nat} (hc : c < cellsN w h) (h0 : 0 < distN w h n z c) (out : List Int) (ho : out.length ≤ 1000) (W : List Nat) (hW : ∀ d ∈ W, d < 4 ∧ 0 ≤ st w h n c d) (hW4 : W.length ≤ 4) (hs : W.Pairwise (· < ·)) {res : List Int × Bool}
    (next : Ev (fun k => impl_WayBetween.l0 k z (dlist (cellsN w h) (distN w h n z)) (out ++ [((nearDir w h n z c : Nat) : Int)]) (nearCell w h n z c) w h n) res) :
    ∀ (d i : Nat), i + d = W.length → nearDir w h n z c ∈ W.drop i → Ev (fun k => impl_WayBetween.l1 k z (dlist (cellsN w h) (distN w h n z)) out c (ints W) ((ints W).length : Int) i w h n) res
  | 0, i, hi, hm => by rw [List.drop_eq_nil_of_le (by omega)] at hm; cases hm
  | d + 1, i, hi, hm => by
    have hV := cellsN_cast w h
    have hiW : i < W.length := by omega
    obtain ⟨f1, f2, f3, f4, _, _, _, f8⟩ := near_facts hn hz hc h0
    obtain ⟨hd4, hd0⟩ := hW _ (List.getElem_mem hiW)
    have hdrop : W.drop i = W[i] :: W.drop (i + 1) := List.drop_eq_getElem_cons hiW
    have hwi : rd (ints W) (i : Int) = (W[i] : Nat) := rd_ints (List.getElem?_eq_getElem hiW)
    have hrng := (net_grid hn).rng c W[i] hc hd4
    obtain ⟨y, hy⟩ : ∃ y : Nat, st w h n c W[i] = y := ⟨(st w h n c W[i]).toNat, by omega⟩
    have hyv : y < cellsN w h := by omega
    refine Ev.step (fun _ => impl_WayBetween.l1.eq_2 ..) (Ev.tt (by rw [ints_length]; omega) (Ev.tt (by omega) (Ev.tt (by rw [ints_length]; omega) ?_)))
    rw [hwi]
    have hstep := impl_Step_ev hg hn (c : Int) (W[i] : Int)
    rw [show stepI w h n c (W[i] : Int) = (y : Int) from hy] at hstep
    refine Ev.bind hstep (Ev.tt (by omega) (Ev.tt (by rw [dlist_length]; omega) (Ev.tt (by omega) (Ev.tt (by rw [dlist_length]; omega) ?_))))
    rw [rd_dlist hyv, rd_dlist hc, wsucc (by omega)]
    by_cases e : W[i] = nearDir w h n z c
    · have hyc : y = nearCell w h n z c := by rw [e, f1] at hy; omega
      rw [e, hyc]
      exact Ev.tt (by omega) (Ev.tt (by omega) next)
    · have hm' : nearDir w h n z c ∈ W.drop (i + 1) := by
        rw [hdrop] at hm
        exact (List.mem_cons.1 hm).resolve_left fun q => e q.symm
      have hlt : W[i] < nearDir w h n z c := by
        have hs2 := List.Pairwise.sublist (List.drop_sublist i W) hs
        rw [hdrop] at hs2
        exact (List.pairwise_cons.1 hs2).1 _ hm'
      refine Ev.ff (fun hq => f8 _ hlt ⟨hd0, ?_⟩) (way_l1 hc h0 out ho W hW hW4 hs next d (i + 1) (by omega) hm')
      rw [hy]; simpa using hq
theorem way_l0 : ∀ (m c : Nat) (out : List Int), c < cellsN w h → distN w h n z c = m → out.length + m ≤ 1000 → Ev (fun k => impl_WayBetween.l0 k z (dlist (cellsN w h) (distN w h n z)) out c w h n) (out ++ ints (wayD w h n z m c), true)
  | 0, c, out, hc, hm, ho => by
    obtain rfl := (distN_dist hn hz).zero c (by omega)
    refine Ev.step (fun _ => impl_WayBetween.l0.eq_2 ..) (Ev.tt rfl (Ev.ret ?_))
    simp [wayD, ints]
  | m + 1, c, out, hc, hm, ho => by
    have I := distN_dist hn hz
    obtain ⟨f1, f2, f3, f4, _, _, _, f8⟩ := near_facts hn hz hc (by omega)
    have hne : ¬ ((c : Int) = (z : Int)) := by
      intro e
      have : c = z := by omega
      rw [this, I.src0] at hm
      omega
    have hw := impl_Ways_ev hg hn (c : Int)
    rw [waysI_ints] at hw
    refine Ev.step (fun _ => impl_WayBetween.l0.eq_2 ..) (Ev.ff hne (Ev.bind hw ?_))
    have ih := way_l0 m (nearCell w h n z c) (out ++ [((nearDir w h n z c : Nat) : Int)]) f2 (by omega) (by rw [List.length_append]; simp; omega)
    have e1 : out ++ [((nearDir w h n z c : Nat) : Int)] ++ ints (wayD w h n z m (nearCell w h n z c)) = out ++ ints (wayD w h n z (m + 1) c) := by
      rw [List.append_assoc]; rfl
    rw [e1] at ih
    have h4 := nearDir_lt w h n z c
    have hmem : nearDir w h n z c ∈ [0, 1, 2, 3].filter fun d => decide (0 ≤ st w h n c d) := by
      rw [List.mem_filter, decide_eq_true_eq]
      refine ⟨?_, by omega⟩
      have : nearDir w h n z c = 0 ∨ nearDir w h n z c = 1 ∨ nearDir w h n z c = 2 ∨ nearDir w h n z c = 3 := by omega
      rcases this with q | q | q | q <;> rw [q] <;> decide
    refine way_l1 hg hn hz hc (by omega) out (by omega) _ ?_ (List.length_filter_le _ [0, 1, 2, 3]) (List.Pairwise.filter _ (by decide)) ih _ 0 (Nat.zero_add _) (by rw [List.drop_zero]; exact hmem)
    intro d hd
    rw [List.mem_filter, decide_eq_true_eq] at hd
    refine ⟨?_, hd.2⟩
    have := hd.1
    simp only [List.mem_cons, List.not_mem_nil, or_false] at this
    omega
theorem gapsOn_l0 : ∀ (m c : Nat) (out : List Int) (W : List Nat) (i : Nat), c < cellsN w h → distN w h n z c = m → out.length + m ≤ 1000 → W.length ≤ 1000 → W.drop i = wayD w h n z m c → i + m = W.length →
    Ev (fun k => impl_gapsOn.l0 k c out (ints W) ((ints W).length : Int) i w h n) (out ++ ints (wayG w h n z m c))
  | 0, c, out, W, i, hc, hm, ho, hW, hd, hi => by
    refine Ev.step (fun _ => impl_gapsOn.l0.eq_2 ..) (Ev.ff (by rw [ints_length]; omega) (Ev.ret ?_))
    simp [wayG, ints]
  | m + 1, c, out, W, i, hc, hm, ho, hW, hd, hi => by
    obtain ⟨f1, f2, f3, f4, f5, _, _, _⟩ := near_facts hn hz hc (by omega)
    have hiW : i < W.length := by omega
    rw [List.drop_eq_getElem_cons hiW] at hd
    have hd1 : W[i] = nearDir w h n z c := (List.cons.inj hd).1
    have hd2 := (List.cons.inj hd).2
    have hwi : rd (ints W) (i : Int) = (W[i] : Nat) := rd_ints (List.getElem?_eq_getElem hiW)
    refine Ev.step (fun _ => impl_gapsOn.l0.eq_2 ..) (Ev.tt (by rw [ints_length]; omega) (Ev.tt (by omega) (Ev.tt (by rw [ints_length]; omega) ?_)))
    rw [hwi, hd1, wsucc (by omega)]
    refine Ev.bind (impl_GapAt_ev w h c (nearDir w h n z c)) (Ev.tt (by omega) (Ev.bind (impl_Step_ev hg hn (c : Int) (nearDir w h n z c : Int)) ?_))
    rw [show stepI w h n c (nearDir w h n z c : Int) = (nearCell w h n z c : Int) from f1, f5]
    refine Ev.eq (gapsOn_l0 m (nearCell w h n z c) _ W (i + 1) f2 (by omega) (by rw [List.length_append]; simp; omega) hW hd2 (by omega)) ?_
    rw [List.append_assoc]
    rfl
theorem gapsOn_ev {c m : Nat} (hc : c < cellsN w h) (hm : distN w h n z c = m) (hm2 : m ≤ 1000) : Ev (fun k => impl_gapsOn.f k w h n c z) (ints (wayG w h n z m c)) := by
  unfold impl_gapsOn.f impl_WayBetween.f
  have hcn : 0 ≤ distN w h n c z := (distN_cn hn hc z).2 ((distN_cn hn hz c).1 (by omega)).symm
  refine Ev.bind (Ev.bind (impl_DistanceOf_ev hg hn hc hz) (Ev.ff (by omega) (Ev.bind (impl_distances_ev hg hn hz) (way_l0 hg hn hz m c [] hc hm (by simpa using hm2))))) ?_
  have := gapsOn_l0 hg hn hz m c [] (wayD w h n z m c) 0 hc hm (by simpa using hm2) (by rw [wayD_len]; omega) rfl (by rw [wayD_len]; omega)
  rw [List.nil_append] at this ⊢
  exact this
end
/-- The passages that lie on the loop of a gap. -/
def loopN (w h : Int) (n g : Nat) : List Nat := (List.range (gapsN w h)).filter fun k => n.testBit k && decide (distN w h (setB n k false) (ends w h g).1 (ends w h g).2 < 0)
theorem loopN_len (w h : Int) (n g : Nat) : (loopN w h n g).length ≤ 24 := by
  have h1 := List.length_filter_le (fun k => n.testBit k && decide (distN w h (setB n k false) (ends w h g).1 (ends w h g).2 < 0)) (List.range (gapsN w h))
  have := gapsN_le w h
  unfold loopN
  rw [List.length_range] at h1
  omega
def loopI (w h o g : Int) : List Int := if perfI w h o = true ∧ isGapI w h g = true ∧ openI o.toNat g = false then ints (loopN w h o.toNat g.toNat) else []
theorem loopI_len (w h o g : Int) : (loopI w h o g).length ≤ 24 := by
  unfold loopI
  split
  · rw [ints_length]; exact loopN_len ..
  · simp
section
variable {w h : Int} {n g : Nat} (hg : gridOk w h = true) (hn : n < 2 ^ gapsN w h) (hgg : g < gapsN w h)
include hg hn hgg
theorem loop_impl (hp : perfN w h n = true) : Ev (fun k => impl_gapsOn.f k w h n (ends w h g).1 (ends w h g).2) (ints (wayG w h n (ends w h g).2 (distN w h n (ends w h g).2 (ends w h g).1).toNat (ends w h g).1)) ∧
    ordF (ints (wayG w h n (ends w h g).2 (distN w h n (ends w h g).2 (ends w h g).1).toNat (ends w h g).1)) = ints (loopN w h n g) ∧ (wayG w h n (ends w h g).2 (distN w h n (ends w h g).2 (ends w h g).1).toNat (ends w h g).1).length ≤ 24 := by
  obtain ⟨_, e2, e3⟩ := ends_facts hgg
  have hp' := perf_iff.1 hp
  have hf : pop (gapsN w h) n + partsN w h n = cellsN w h := by unfold partsN; omega
  have hpos := cells_pos hg
  have hcn : Cn (ends w h) n (ends w h g).2 (ends w h g).1 := by
    have hc := (parts_one hn (by omega)).1 hp'.1
    exact (hc _ e3).symm.trans (hc _ (by omega))
  have hd0 := (distN_cn hn e3 (ends w h g).1).2 hcn
  obtain ⟨b1, b2⟩ := wayG_bridge hn e3 hf (distN w h n (ends w h g).2 (ends w h g).1).toNat (ends w h g).1 (by omega) (by omega)
  have b3 := wayG_lt hn e3 (distN w h n (ends w h g).2 (ends w h g).1).toNat (ends w h g).1 (by omega) (by omega)
  have hlen := nodup_len b2 fun k hk => (b3 k hk).1
  have h24 := gapsN_le w h
  rw [wayG_len] at hlen
  refine ⟨gapsOn_ev hg hn e3 (by omega) (by omega) (by omega), ?_, by rw [wayG_len]; omega⟩
  refine asc_unique (ordF_sorted _) ?_ fun x => ?_
  · unfold ints loopN
    rw [List.pairwise_map]
    have : ((List.range (gapsN w h)).filter fun k => n.testBit k && decide (distN w h (setB n k false) (ends w h g).1 (ends w h g).2 < 0)).Pairwise (· < ·) := List.Pairwise.filter _ List.pairwise_lt_range
    exact this.imp fun {a b} hab => by omega
  · rw [ordF_mem]
    unfold ints
    rw [List.mem_map, List.mem_map]
    have hiff : ∀ k, k ∈ wayG w h n (ends w h g).2 (distN w h n (ends w h g).2 (ends w h g).1).toNat (ends w h g).1 ↔ k ∈ loopN w h n g := by
      intro k
      unfold loopN
      rw [List.mem_filter, List.mem_range, Bool.and_eq_true, decide_eq_true_eq]
      constructor
      · intro hk
        obtain ⟨q1, q2⟩ := b3 k hk
        refine ⟨q1, q2, ?_⟩
        have hnc := ((b1 k).1 hk).2
        have := (distN_cn (setB_lt false hn q1) (show (ends w h g).1 < cellsN w h by omega) (ends w h g).2)
        rcases Int.lt_or_le (distN w h (setB n k false) (ends w h g).1 (ends w h g).2) 0 with q | q
        · exact q
        · exact absurd (this.1 q) hnc
      · rintro ⟨q1, q2, q3⟩
        refine (b1 k).2 ⟨q2, fun hc => ?_⟩
        have := (distN_cn (setB_lt false hn q1) (show (ends w h g).1 < cellsN w h by omega) (ends w h g).2).2 hc
        omega
    constructor <;> rintro ⟨k, hk, rfl⟩
    · exact ⟨k, (hiff k).1 hk, rfl⟩
    · exact ⟨k, (hiff k).2 hk, rfl⟩
theorem loop_spec_l0 : ∀ (d i : Nat) (out : List Int), i + d = gapsN w h → out.length ≤ i → Ev (fun k => spec_LoopGaps.l0 k out (ends w h g).1 (ends w h g).2 i w h n)
    (out ++ ints ((List.range' i d).filter fun k => n.testBit k && decide (distN w h (setB n k false) (ends w h g).1 (ends w h g).2 < 0)))
  | 0, i, out, hd, ho => by
    have hc := gapsN_cast w h
    refine Ev.step (fun _ => spec_LoopGaps.l0.eq_2 ..) (Ev.bnd0 (spec_CountGaps_eq w h) (Ev.ff (by omega) (Ev.ret ?_)))
    simp [ints]
  | d + 1, i, out, hd, ho => by
    have hc := gapsN_cast w h
    have h24 := gapsN_le w h
    obtain ⟨_, e2, e3⟩ := ends_facts hgg
    refine Ev.step (fun _ => spec_LoopGaps.l0.eq_2 ..) (Ev.bnd0 (spec_CountGaps_eq w h) (Ev.tt (by omega) ?_))
    rw [wsucc (by omega), List.range'_succ, List.filter_cons]
    refine Ev.bnd0 (spec_l03Bit_eq (open_small hn) (by omega)) ?_
    rw [openI_nat']
    by_cases hb : n.testBit i = true
    · rw [hb, Bool.true_and]
      refine Ev.tt rfl (Ev.bind (spec_SetGap_ev hg hn (show i < gapsN w h by omega) false) (Ev.bind (spec_DistanceOf_ev hg (setB_lt false hn (by omega)) (show (ends w h g).1 < cellsN w h by omega) e3) ?_))
      refine Ev.ite (fun e => Ev.tt (by omega) ?_) (fun e => ?_)
      · rw [if_pos (decide_eq_true e)]
        refine Ev.eq (loop_spec_l0 d (i + 1) _ (by omega) (by rw [List.length_append]; simp; omega)) ?_
        simp [ints]
      · rw [if_neg (by simpa using e)]
        exact loop_spec_l0 d (i + 1) out (by omega) (by omega)
    · rw [Bool.eq_false_iff.2 hb, Bool.false_and, if_neg (by simp)]
      exact Ev.ff (by simp) (loop_spec_l0 d (i + 1) out (by omega) (by omega))
end
theorem impl_LoopGaps_ev (w h o g : Int) : Ev (fun k => impl_LoopGaps.f k w h o g) (loopI w h o g) := by
  unfold impl_LoopGaps.f
  have hbad : ¬ (perfI w h o = true ∧ isGapI w h g = true ∧ openI o.toNat g = false) → Ev (fun k => impl_LoopGaps.j0 k g true w h o) (loopI w h o g) := by
    intro hc
    unfold loopI
    rw [if_neg hc]
    exact Ev.step (fun _ => impl_LoopGaps.j0.eq_2 ..) (Ev.tt rfl (Ev.ret rfl))
  refine Ev.bind (impl_IsPerfect_all w h o) (Ev.ite (fun e1 => Ev.bnd0 (impl_isGap_eq w h g) (Ev.ite (fun e2 => ?_) (fun e2 => hbad fun hc => e2 hc.2.1))) (fun e1 => hbad fun hc => e1 hc.1))
  obtain ⟨hg, n, rfl, hn, hp⟩ := perfI_iff.1 e1
  refine Ev.bnd0 (impl_isOpen_eq w h (open_small hn) g) ?_
  by_cases e3 : openI n g = true
  · rw [e3]
    exact hbad fun hc => by have := hc.2.2; rw [Int.toNat_natCast, e3] at this; cases this
  · have e3 := Bool.eq_false_iff.2 e3
    have e2' := e2
    unfold isGapI at e2
    rw [decide_eq_true_eq] at e2
    have hgc := gapsN_cast w h
    obtain ⟨gg, rfl⟩ : ∃ gg : Nat, g = gg := ⟨g.toNat, by omega⟩
    have hgg : gg < gapsN w h := by omega
    obtain ⟨p1, p2, p3⟩ := loop_impl hg hn hgg hp
    rw [e3]
    refine Ev.step (fun _ => impl_LoopGaps.j0.eq_2 ..) (Ev.ff (by simp) (Ev.bnd0 (impl_EndsOf_eq w h gg) ?_))
    rw [(ends_facts hgg).1]
    refine Ev.bind p1 ?_
    unfold impl_ordered.f
    rw [if_pos (by rw [ints_length]; omega), p2]
    refine Ev.bnd0 rfl (Ev.ret ?_)
    unfold loopI
    rw [Int.toNat_natCast, if_pos ⟨e1, e2', e3⟩]
    rfl
theorem spec_LoopGaps_ev (w h o g : Int) : Ev (fun k => spec_LoopGaps.f k w h o g) (loopI w h o g) := by
  unfold spec_LoopGaps.f
  have hgr := gapsOf_range w h
  have hbad : ¬ (perfI w h o = true ∧ isGapI w h g = true ∧ openI o.toNat g = false) → Ev (fun k => spec_LoopGaps.j0 k g [] true w h o) (loopI w h o g) := by
    intro hc
    unfold loopI
    rw [if_neg hc]
    exact Ev.step (fun _ => spec_LoopGaps.j0.eq_2 ..) (Ev.tt rfl (Ev.ret rfl))
  refine Ev.bnd0 rfl (Ev.bind (spec_IsPerfect_all w h o) (Ev.ite (fun e1 => Ev.bnd0 (spec_CountGaps_eq w h) ?_) (fun e1 => hbad fun hc => e1 hc.1)))
  rw [wrap64_id (by omega) (by omega)]
  have hin : (decide (0 ≤ g ∧ g ≤ gapsOf w h - 1)) = isGapI w h g := by unfold isGapI; rw [decide_eq_decide]; omega
  refine Ev.bnd0 (l01In_eq _ _ _) ?_
  rw [hin]
  refine Ev.ite (fun e2 => ?_) (fun e2 => hbad fun hc => e2 hc.2.1)
  obtain ⟨hg, n, rfl, hn, hp⟩ := perfI_iff.1 e1
  have e2' := e2
  unfold isGapI at e2
  rw [decide_eq_true_eq] at e2
  refine Ev.bnd0 (spec_l03Bit_eq (open_small hn) e2.1) ?_
  by_cases e3 : openI n g = true
  · rw [e3]
    exact hbad fun hc => by have := hc.2.2; rw [Int.toNat_natCast, e3] at this; cases this
  · have e3 := Bool.eq_false_iff.2 e3
    have hgc := gapsN_cast w h
    obtain ⟨gg, rfl⟩ : ∃ gg : Nat, g = gg := ⟨g.toNat, by omega⟩
    have hgg : gg < gapsN w h := by omega
    rw [e3]
    refine Ev.step (fun _ => spec_LoopGaps.j0.eq_2 ..) (Ev.ff (by simp) (Ev.bnd0 (spec_EndsOf_eq w h gg) ?_))
    rw [(ends_facts hgg).1]
    refine Ev.eq (loop_spec_l0 hg hn hgg (gapsN w h) 0 [] (by omega) (by simp)) ?_
    unfold loopI loopN
    rw [Int.toNat_natCast, if_pos ⟨e1, e2', e3⟩, List.range_eq_range', Int.toNat_natCast, List.nil_append]
end Go.Proofs.Ytcajhmldbkfhiaa.P
namespace Go.Proofs.Ytcajhmldbkfhiaa.P
open Go.RowKit Go.Proofs.YtcajhmldbkfhiaaW.PrintWords Go.Proofs.Ytcajhmldbkfhiaa.Sup
set_option linter.unusedVariables false
set_option linter.unusedSimpArgs false

def swapsI (w h o : Int) : Nat → Nat → Nat → Nat
  | 0, _, s => s
  | d + 1, i, s => swapsI w h o d (i + 1) (s + (loopI w h o i).length)
theorem impl_swaps_l0 (w h o : Int) : ∀ d i s : Nat, i + d = gapsN w h → s ≤ 24 * i → Ev (fun k => impl_CountSwaps.l0 k s i w h o) ((swapsI w h o d i s : Nat) : Int)
  | 0, i, s, hd, hs => by
    have hc := gapsN_cast w h
    exact Ev.step (fun _ => impl_CountSwaps.l0.eq_2 ..) (Ev.bnd0 (impl_CountGaps_eq w h) (Ev.ff (by omega) (Ev.ret rfl)))
  | d + 1, i, s, hd, hs => by
    have hc := gapsN_cast w h
    have h24 := gapsN_le w h
    have hl := loopI_len w h o i
    refine Ev.step (fun _ => impl_CountSwaps.l0.eq_2 ..) (Ev.bnd0 (impl_CountGaps_eq w h) (Ev.tt (by omega) (Ev.bind (impl_LoopGaps_ev w h o i) ?_)))
    rw [wsucc (by omega), wrap64_id (by omega) (by omega), show ((s : Int) + ((loopI w h o i).length : Int)) = ((s + (loopI w h o i).length : Nat) : Int) by omega]
    exact impl_swaps_l0 w h o d (i + 1) _ (by omega) (by omega)
theorem spec_swaps_l0 (w h o : Int) : ∀ d i s : Nat, i + d = gapsN w h → s ≤ 24 * i → Ev (fun k => spec_CountSwaps.l0 k s i w h o) ((swapsI w h o d i s : Nat) : Int)
  | 0, i, s, hd, hs => by
    have hc := gapsN_cast w h
    exact Ev.step (fun _ => spec_CountSwaps.l0.eq_2 ..) (Ev.bnd0 (spec_CountGaps_eq w h) (Ev.ff (by omega) (Ev.ret rfl)))
  | d + 1, i, s, hd, hs => by
    have hc := gapsN_cast w h
    have h24 := gapsN_le w h
    have hl := loopI_len w h o i
    refine Ev.step (fun _ => spec_CountSwaps.l0.eq_2 ..) (Ev.bnd0 (spec_CountGaps_eq w h) (Ev.tt (by omega) (Ev.bind (spec_LoopGaps_ev w h o i) ?_)))
    rw [wsucc (by omega), wrap64_id (by omega) (by omega), show ((s : Int) + ((loopI w h o i).length : Int)) = ((s + (loopI w h o i).length : Nat) : Int) by omega]
    exact spec_swaps_l0 w h o d (i + 1) _ (by omega) (by omega)
theorem FnExactCountSwaps_pure (a0_0 a0_1 a0_2 : Int) (w0_0 : InR a0_0) (w0_1 : InR a0_1) (w0_2 : InR a0_2) : ∃ k, laws_FnExactCountSwaps.f k a0_0 a0_1 a0_2 = some true := by
  refine Ev.rounds ?_
  have hi : Ev (fun k => impl_CountSwaps.f k a0_0 a0_1 a0_2) _ := impl_swaps_l0 a0_0 a0_1 a0_2 (gapsN a0_0 a0_1) 0 0 (by omega) (by omega)
  have hs : Ev (fun k => spec_CountSwaps.f k a0_0 a0_1 a0_2) _ := spec_swaps_l0 a0_0 a0_1 a0_2 (gapsN a0_0 a0_1) 0 0 (by omega) (by omega)
  have ht : laws_toMaze.f a0_0 a0_1 a0_2 = some (a0_0, a0_1, a0_2) := rfl
  unfold laws_FnExactCountSwaps.f
  exact Ev.bnd0 ht (Ev.bind hs (Ev.bnd0 ht (Ev.bind hi (Ev.tt rfl (Ev.ret rfl)))))
end Go.Proofs.Ytcajhmldbkfhiaa.P
namespace Go.Proofs.Ytcajhmldbkfhiaa.fnExactCountSwaps
open Go.ChangeShapes Go.WideShapes Go.ChangeAt Go.RowKit Go.Proofs.YtcajhmldbkfhiaaW.PrintWords Go.Proofs.Ytcajhmldbkfhiaa.Sup
open Go.ChangeMaps (open_string shut_string)
set_option linter.unusedVariables false
theorem own : ownKnob Try.prog.godebug = none := by kernel_rfl
theorem laidOut : laidOutB Try.prog = true := by kernel_rfl
set_option maxRecDepth 100000 in
theorem lifted (os : Os) (started : os.Started) (H : Type) (enc : TypeId × Value → H) :
    ReturnsInHanded {} Try.checked os 9 .any (Rows.fnExactCountSwapsSpec.pre6 enc Try.prog Try.f9 Rows.fnExactCountSwapsRow.domain false) (Rows.fnExactCountSwapsSpec.post enc Try.prog Try.f9 false true false false) := by
  refine returnsInHanded_of_change_sized (C := Try.checked) own started (by kernel_rfl) Try.func9
    (ChangeSpec.witness6 (enc := enc) (C := Try.checked) false ⟨#[], #[.agg #[.int .i64 0, .int .i64 0, .int .i64 0]], []⟩ 8 (by kernel_rfl) (by kernel_rfl) (by kernel_rfl) (by kernel_rfl)) ?_
  intro W base args ds gs before hval0 hW hcnd hsz0 _
  have hsz : (DataW.weightsEach Try.prog (Try.f9.params.toList ++ Rows.fnExactCountSwapsSpec.plain.varTypes Try.prog) (ds ++ gs)).all (· ≤ reachBytes) = true := hsz0
  have hval : ∀ (j : Nat) t v, Try.f9.params[j]? = some t → args[j]? = some v → Value.okWide Try.prog W .any base t v := hval0
  have hW' := hW
  obtain ⟨p, q, hA0, hV, rfl, hfz, hnd⟩ := hW
  have hA : DataW.TrodAll enc Try.prog W 0 (fun _ => true) true Try.f9.params.toList args.toList ds p := hA0
  rw [Try.params9] at hA hval hsz
  obtain ⟨v0, vs0, d0, ds0, p0, q0, hargs, rfl, rfl, h0, r0⟩ := trodAll_cons hA
  obtain ⟨rfl, rfl, rfl⟩ := trodAll_nil r0
  obtain rfl : args = #[v0] := by cases args; simp_all
  obtain ⟨rfl, rfl⟩ := trodVars_none hV
  have k0 := h0
  have lt0 : ∀ x ∈ p0, x.block < W.heap.size := by obtain ⟨m, hm⟩ := k0; exact DataW.trod_lt m _ _ _ hm
  obtain ⟨a0_0, a0_1, a0_2, rfl, w0_0, w0_1, w0_2⟩ := open3 Try.underlying29 Try.underlying27 (by kernel_rfl) (by kernel_rfl) (by kernel_rfl) rfl rfl rfl rfl (by kernel_rfl) (by kernel_rfl) (by kernel_rfl) (by kernel_rfl) (by kernel_rfl) (hval 0 29 v0 rfl rfl) h0
  clear hA0 hval0 hsz0 hsz
  obtain ⟨k, hf⟩ := P.FnExactCountSwaps_pure a0_0 a0_1 a0_2 w0_0 w0_1 w0_2
  refine (P.laws_FnExactCountSwaps.calls k a0_0 a0_1 a0_2 true W  hf).mono fun e W' ⟨he, bel0⟩ => ?_
  have bel : Below W.heap.size W W' := bel0
  subst he
  exact ⟨_, rfl, _, _, _, [], _, [], hW', trodAll_mk1 (shut_bool Try.underlying4 _), (trodAll_cons_mk (Below.trod laidOut (by kernel_rfl) (of_decide_eq_true (by kernel_rfl)) k0 bel lt0) trodAll_mk0), rfl, bel.frame _, fun h => by cases h⟩
theorem over : Rows.fnExactCountSwapsRow.holds Try.pinned (OpenSpec.ofChange Rows.fnExactCountSwapsSpec) :=
  OpenClaim.holds_of_wide 9 Try.f9 rfl rfl rfl rfl rfl rfl rfl ⟨rfl, rfl, rfl, rfl, rfl⟩ rfl rfl rfl rfl rfl (by kernel_rfl) Try.func9 (by kernel_rfl)
    (of_decide_eq_true (by kernel_rfl)) (by unfold Func.isWrapper; first | (rw [if_pos (by decide +kernel)]; kernel_rfl) | (rw [if_neg (by decide +kernel)]; exact ⟨rfl, rfl⟩))
    (fun os started H enc _ => lifted os started H enc)
theorem proved : Rows.FnExactCountSwapsSaid := over
end Go.Proofs.Ytcajhmldbkfhiaa.fnExactCountSwaps
namespace Go.Proofs.Ytcajhmldbkfhiaa
/-- The row, under a short name, for the claim. -/
theorem fnExactCountSwaps_holds : Rows.FnExactCountSwapsSaid := fnExactCountSwaps.proved
#print axioms fnExactCountSwaps_holds
end Go.Proofs.Ytcajhmldbkfhiaa
