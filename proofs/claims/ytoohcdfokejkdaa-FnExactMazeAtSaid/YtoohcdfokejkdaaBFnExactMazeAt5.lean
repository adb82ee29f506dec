/- The statement FnExactMazeAt of the seat, out of its plain form (FnExactMazeAt_pure) and the walk of its Go function. Part 5 of 6: each Go function's walk, then the plain lemmas, then the row. No condition: it holds for every input. -/
import Derived.Test.YtoohcdfokejkdaaBFnExactMazeAt4
import Derived.ChangeSlices
import Derived.Deep.Matrix
import Derived.Lib.SmallJoins
import Derived.SizedLaws
namespace Go.Proofs.Ytoohcdfokejkdaa.P
open Go.RowKit Go.Proofs.YtoohcdfokejkdaaW.PrintWords Go.Proofs.YtoohcdfokejkdaaW.PrintLast Go.Proofs.YtoohcdfokejkdaaW.PrintMore
attribute [local go_sem] max2_int min2_int max_two min_two max_three min_three max_four min_four   -- for this text's walks alone
set_option linter.unusedVariables false
set_option linter.unusedSimpArgs false

/-! ### spec_CountFixed: function 37 -/
mutual
def spec_CountFixed.j0 : Nat → Int → Int → Int → Bool → Int → Int → Option (Int)
  | 0, _, _, _, _, _, _ => none
  | k + 1, x1, x2, x7, x41, x102000, x102001 => if x41 = true then (some 0) else ((spec_CountCells.f x102000 x102001).bind fun t106 => (if 0 ≤ t106 then (if (t106 : Int).toNat ≤ 35184372088832 then (spec_CountFixed.l0 k x1 x2 x7 (List.replicate (t106 : Int).toNat 0) 0 x102000 x102001) else (none)) else (none)))
def spec_CountFixed.l0 : Nat → Int → Int → Int → List Int → Int → Int → Int → Option (Int)
  | 0, _, _, _, _, _, _, _ => none
  | k + 1, x1, x2, x7, x8, x9, x102000, x102001 => if x9 < (x8.length : Int) then (if 0 ≤ x9 then (spec_CountFixed.l0 k x1 x2 x7 (x8.set (x9 : Int).toNat x9) (wrap64 (x9 + 1)) x102000 x102001) else (none)) else (spec_CountFixed.l1 k x1 x2 x7 x8 0 x102000 x102001)
def spec_CountFixed.l1 : Nat → Int → Int → Int → List Int → Int → Int → Int → Option (Int)
  | 0, _, _, _, _, _, _, _ => none
  | k + 1, x1, x2, x7, x8, x10, x102000, x102001 => if x10 < x7 then ((spec_l03Bit.f x1 x10).bind fun t112 => (if t112 = true then ((spec_EndsOf.f x102000 x102001 x10).bind fun bt113 => (if 0 ≤ bt113.1 then (if bt113.1 < (x8.length : Int) then (if 0 ≤ bt113.2 then (if bt113.2 < (x8.length : Int) then (if (rd x8 bt113.1) = (rd x8 bt113.2) then (some 0) else (spec_CountFixed.l2 k x1 x2 x7 x8 x10 bt113.1 (rd x8 bt113.2) 0 x102000 x102001)) else (none)) else (none)) else (none)) else (none))) else (spec_CountFixed.l1 k x1 x2 x7 x8 (wrap64 (x10 + 1)) x102000 x102001))) else ((spec_l12Trees.f k x102000 x102001 (Go.bits .or .i64 x1 x2) x8).bind fun t111 => (some t111))
def spec_CountFixed.l2 : Nat → Int → Int → Int → List Int → Int → Int → Int → Int → Int → Int → Option (Int)
  | 0, _, _, _, _, _, _, _, _, _, _ => none
  | k + 1, x1, x2, x7, x8, x10, x11, x13, x14, x102000, x102001 => if x14 < (x8.length : Int) then (if 0 ≤ x14 then (if (rd x8 x14) = x13 then (if 0 ≤ x11 then (if x11 < (x8.length : Int) then (spec_CountFixed.l2 k x1 x2 x7 (x8.set (x14 : Int).toNat (rd x8 x11)) x10 x11 x13 (wrap64 (x14 + 1)) x102000 x102001) else (none)) else (none)) else (spec_CountFixed.l2 k x1 x2 x7 x8 x10 x11 x13 (wrap64 (x14 + 1)) x102000 x102001)) else (none)) else (spec_CountFixed.l1 k x1 x2 x7 x8 (wrap64 (x10 + 1)) x102000 x102001)
end
def spec_CountFixed.f (k : Nat) (a0_0 : Int) (a0_1 : Int) (a1 : Int) (a2 : Int) : Option (Int) := (spec_CountGaps.f a0_0 a0_1).bind fun t102 => ((spec_GridOk.f a0_0 a0_1).bind fun t103 => (if t103 = true then (if 0 ≤ t102 then ((spec_l01In.f a1 0 (wrap64 ((shl .i64 1 t102) - 1))).bind fun t104 => (if t104 = true then ((spec_l01In.f a2 0 (wrap64 ((shl .i64 1 t102) - 1))).bind fun t105 => (if t105 = true then (spec_CountFixed.j0 k a1 a2 t102 ((Go.bits .and .i64 a1 a2) != 0) a0_0 a0_1) else (spec_CountFixed.j0 k a1 a2 t102 true a0_0 a0_1))) else (spec_CountFixed.j0 k a1 a2 t102 true a0_0 a0_1))) else (none)) else (spec_CountFixed.j0 k a1 a2 t102 true a0_0 a0_1)))
set_option maxHeartbeats 8000000 in
set_option maxRecDepth 100000 in
theorem spec_CountFixed.calls (k : Nat) (a0_0 : Int) (a0_1 : Int) (a1 : Int) (a2 : Int) (r : Int) (w : World) (h : spec_CountFixed.f k a0_0 a0_1 a1 a2 = some r) :
    Calls Try.prog 37 #[.agg #[.int .i64 a0_0, .int .i64 a0_1], .int .i64 a1, .int .i64 a2] w fun e w' => e = .returned (.int .i64 r) ∧ Below w.heap.size w w' := by
  have hu40 := Try.underlying40
  have HB := Aside0.mk (Below.refl w.heap.size w)
  have H : ((spec_CountGaps.f a0_0 a0_1).bind fun t102 => ((spec_GridOk.f a0_0 a0_1).bind fun t103 => (if t103 = true then (if 0 ≤ t102 then ((spec_l01In.f a1 0 (wrap64 ((shl .i64 1 t102) - 1))).bind fun t104 => (if t104 = true then ((spec_l01In.f a2 0 (wrap64 ((shl .i64 1 t102) - 1))).bind fun t105 => (if t105 = true then (spec_CountFixed.j0 k a1 a2 t102 ((Go.bits .and .i64 a1 a2) != 0) a0_0 a0_1) else (spec_CountFixed.j0 k a1 a2 t102 true a0_0 a0_1))) else (spec_CountFixed.j0 k a1 a2 t102 true a0_0 a0_1))) else (none)) else (spec_CountFixed.j0 k a1 a2 t102 true a0_0 a0_1)))) = some r := h
  clear h
  obtain ⟨t102, A40, H⟩ := Option.bind_eq_some_iff.mp H
  (try dsimp only at H); have A4 := Aside0.mk A40; clear A40
  have HC5 := Aside0.mk H
  clear H
  go_enter Try.func37, Try.ntmps37
  go_upto_region 2 with (first | ((with_reducible refine gate_dst (N := 3) rfl ?_); refine box_event ?hg (N := 3) ?hd (cs := #[.int .i64 a0_0, .int .i64 a0_1]) (t := 40) ?hr ?_; (case hd => rfl); (case hg => rfl); (case hr => first | (go_simp; done) | (go_simp; rfl)); intro gb101 hg w6 hbox hb; have n0_ := Aside0.mk (below_step (by repeat first | exact HB.1 | apply bA_ | apply bB_ | apply bC_) hb); have n1_ := Aside0.mk (hbox); have n2_ := Aside0.mk ((by rw [hg]; exact (below_size (by repeat first | exact HB.1 | apply bA_ | apply bB_ | apply bC_)) : w.heap.size ≤ gb101)); have n3_ := n2_; clear HB; have HB := n0_; have BK101 := n1_; have GW101 := n2_; have GE101 := n3_; clear n0_ n1_ n2_ n3_; clear hb hbox hg; obtain ⟨hcz7_0, hcz7_1⟩ := kk2_ BK101.1; have hfz7_0 := blk_frozen BK101.out 0; have hfz7_1 := blk_frozen BK101.out 1) | (go_at_call 32; (with_reducible refine (spec_CountGaps.calls a0_0 a0_1 t102 _ A4.out).mono ?_); rintro e w8 ⟨rfl, hb⟩; have n0_ := Aside0.mk (blk_below (g := gb101) (o := .cells #[.int .i64 a0_0, .int .i64 a0_1] 40 (0, 0)) (by (with_reducible repeat first | refine cA_ ?_ _ | refine cB_ ?_ | refine cC_ ?_ _); exact BK101.1) hb); have n1_ := Aside0.mk (below_step (by repeat first | exact HB.1 | apply bA_ | apply bB_ | apply bC_ | refine below_set ?_ GE101.out) hb); clear BK101; clear HB; have BK101 := n0_; have HB := n1_; clear n0_ n1_; (try clear hb); (try clear hb2); (try clear hk); (try clear hi)))
  repeat (go_quiet (fail); go_upto_region 2 with (first | ((with_reducible refine gate_dst (N := 3) rfl ?_); refine box_event ?hg (N := 3) ?hd (cs := #[.int .i64 a0_0, .int .i64 a0_1]) (t := 40) ?hr ?_; (case hd => rfl); (case hg => rfl); (case hr => first | (go_simp; done) | (go_simp; rfl)); intro gb101 hg w6 hbox hb; have n0_ := Aside0.mk (below_step (by repeat first | exact HB.1 | apply bA_ | apply bB_ | apply bC_) hb); have n1_ := Aside0.mk (hbox); have n2_ := Aside0.mk ((by rw [hg]; exact (below_size (by repeat first | exact HB.1 | apply bA_ | apply bB_ | apply bC_)) : w.heap.size ≤ gb101)); have n3_ := n2_; clear HB; have HB := n0_; have BK101 := n1_; have GW101 := n2_; have GE101 := n3_; clear n0_ n1_ n2_ n3_; clear hb hbox hg; obtain ⟨hcz7_0, hcz7_1⟩ := kk2_ BK101.1; have hfz7_0 := blk_frozen BK101.out 0; have hfz7_1 := blk_frozen BK101.out 1) | (go_at_call 32; (with_reducible refine (spec_CountGaps.calls a0_0 a0_1 t102 _ A4.out).mono ?_); rintro e w8 ⟨rfl, hb⟩; have n0_ := Aside0.mk (blk_below (g := gb101) (o := .cells #[.int .i64 a0_0, .int .i64 a0_1] 40 (0, 0)) (by (with_reducible repeat first | refine cA_ ?_ _ | refine cB_ ?_ | refine cC_ ?_ _); exact BK101.1) hb); have n1_ := Aside0.mk (below_step (by repeat first | exact HB.1 | apply bA_ | apply bB_ | apply bC_ | refine below_set ?_ GE101.out) hb); clear BK101; clear HB; have BK101 := n0_; have HB := n1_; clear n0_ n1_; (try clear hb); (try clear hb2); (try clear hk); (try clear hi))))
  (try simp only [Act.put, List.setIfInBounds_toArray, List.set_cons_zero, List.set_cons_succ])
  go_cut [41] (fun v41 wc => ∃ (kq : Nat) (x41_4 : Bool), v41 = .bool x41_4 ∧ Aside0 (spec_CountFixed.j0 kq a1 a2 t102 x41_4 a0_0 a0_1 = some r) ∧ Aside0 (kq ≤ k) ∧ Aside0 (wc.heap[gb101]? = some (.cells #[.int .i64 a0_0, .int .i64 a0_1] 40 (0, 0))) ∧ Aside0 (Below w.heap.size w wc))
  case first =>
    have H := HC5.out
    clear HC5
    obtain ⟨t103, A90, H⟩ := Option.bind_eq_some_iff.mp H
    (try dsimp only at H); have A9 := Aside0.mk A90; clear A90
    by_cases c10 : t103 = true
    · subst c10
      rw [if_pos rfl] at H
      replace H := iN_ H; obtain ⟨c11, H⟩ := H
      have c11b0 := eq_true c11
      have c11b1 : decide (0 ≤ t102) = true := decide_eq_true c11
      clear c11
      obtain ⟨ji12, hji12⟩ : ∃ j_ : Int, (shl .i64 1 t102) = j_ := ⟨_, rfl⟩
      replace H : ((spec_l01In.f a1 0 (wrap64 ((ji12) - 1))).bind fun t104 => (if t104 = true then ((spec_l01In.f a2 0 (wrap64 ((ji12) - 1))).bind fun t105 => (if t105 = true then (spec_CountFixed.j0 k a1 a2 t102 ((Go.bits .and .i64 a1 a2) != 0) a0_0 a0_1) else (spec_CountFixed.j0 k a1 a2 t102 true a0_0 a0_1))) else (spec_CountFixed.j0 k a1 a2 t102 true a0_0 a0_1))) = some r := by first | (rw [hji12] at H; exact H) | (simp only [hji12] at H ⊢; exact H)
      (try rw [hji12] at A9)
      have hji12_ : (IntKind.i64.wrap (1 * 2 ^ min t102.toNat 64)) = ji12 := hji12
      have hji12z : t102 ≤ 64 → (IntKind.i64.wrap (1 * 2 ^ t102.toNat)) = ji12 := shl_small hji12
      have hji12u : (IntKind.i64.wrap (2 ^ min t102.toNat 64)) = ji12 := by have h_ := hji12_; rw [Int.one_mul] at h_; exact h_
      have hji12v : t102 ≤ 64 → (IntKind.i64.wrap (2 ^ t102.toNat)) = ji12 := fun hle_ => by have h_ := hji12z hle_; rw [Int.one_mul] at h_; exact h_
      have hji12y : (wrap64 (1 * 2 ^ min t102.toNat 64)) = ji12 := (i64_w _).symm.trans hji12_
      have hji12x : t102 ≤ 64 → (wrap64 (1 * 2 ^ t102.toNat)) = ji12 := fun h_ => (i64_w _).symm.trans (hji12z h_)
      obtain ⟨t104, A130, H⟩ := Option.bind_eq_some_iff.mp H
      (try dsimp only at H); have A13 := Aside0.mk A130; clear A130
      by_cases c14 : t104 = true
      · subst c14
        rw [if_pos rfl] at H
        have c15b0 := eq_true (of_decide_eq_true (by first | (with_reducible assumption) | assumption) : 0 ≤ t102)
        obtain ⟨t105, A160, H⟩ := Option.bind_eq_some_iff.mp H
        (try dsimp only at H); have A16 := Aside0.mk A160; clear A160
        by_cases c17 : t105 = true
        · subst c17
          rw [if_pos rfl] at H
          have H' := Aside0.mk H
          clear H
          obtain ⟨hcz18_0, hcz18_1⟩ := kk2_ BK101.1
          have hfz18_0 := blk_frozen BK101.out 0
          have hfz18_1 := blk_frozen BK101.out 1
          go_wp2_with (first | (go_at_call 74; (with_reducible refine (spec_GridOk.calls a0_0 a0_1 true _ A9.out).mono ?_); rintro e w19 ⟨rfl, hb⟩; have n0_ := Aside0.mk (blk_below (g := gb101) (o := .cells #[.int .i64 a0_0, .int .i64 a0_1] 40 (0, 0)) (by (with_reducible repeat first | refine cA_ ?_ _ | refine cB_ ?_ | refine cC_ ?_ _); exact BK101.1) hb); have n1_ := Aside0.mk (below_step (by repeat first | exact HB.1 | apply bA_ | apply bB_ | apply bC_ | refine below_set ?_ GE101.out) hb); clear BK101; clear HB; have BK101 := n0_; have HB := n1_; clear n0_ n1_; (try clear hb); (try clear hb2); (try clear hk); (try clear hi)) | (go_at_call 61; (with_reducible refine (spec_l01In.calls a1 0 (wrap64 ((ji12) - 1)) true _ A13.out).mono ?_); rintro e w' ⟨rfl, ⟨nd, rfl⟩⟩; (try first | exact ⟨rfl, _, World.drewN_drewN _ _ _⟩ | exact ⟨rfl, _, Eq.trans (World.drewN_drewN _ _ _) (congrArg (World.drewN _) (Nat.add_assoc _ _ _))⟩)) | (go_at_call 61; (with_reducible refine (spec_l01In.calls a2 0 (wrap64 ((ji12) - 1)) true _ A16.out).mono ?_); rintro e w' ⟨rfl, ⟨nd, rfl⟩⟩; (try first | exact ⟨rfl, _, World.drewN_drewN _ _ _⟩ | exact ⟨rfl, _, Eq.trans (World.drewN_drewN _ _ _) (congrArg (World.drewN _) (Nat.add_assoc _ _ _))⟩)))
          repeat (go_quiet (fail); try go_wp2_with (fail))
          go_meet
          case rel => exact ⟨_, (((Go.bits .and .i64 a1 a2) != 0)), (by first | rfl | (simp; done) | (simp [*]; done)), H', ⟨by first | omega | exact Nat.le_refl _⟩, ⟨by (with_reducible repeat (first | refine blk_drewN ?_ _ | refine blk_drew ?_ | refine blk_alloc ?_ _)); exact BK101.out⟩, ⟨by repeat (first | (with_reducible first | exact HB.out | apply below_alloc | apply pw_below_drewN | apply below_drew1 | refine below_set ?_ GE101.out) | exact HB.out)⟩⟩
        · replace c17 := Bool.eq_false_iff.mpr c17
          subst c17
          have H1 : (spec_CountFixed.j0 k a1 a2 t102 true a0_0 a0_1) = some r := by rw [if_neg (show ¬ (false = true) by decide)] at H; exact H
          clear H
          have H := H1
          clear H1
          have H' := Aside0.mk H
          clear H
          obtain ⟨hcz20_0, hcz20_1⟩ := kk2_ BK101.1
          have hfz20_0 := blk_frozen BK101.out 0
          have hfz20_1 := blk_frozen BK101.out 1
          go_wp2_with (first | (go_at_call 74; (with_reducible refine (spec_GridOk.calls a0_0 a0_1 true _ A9.out).mono ?_); rintro e w21 ⟨rfl, hb⟩; have n0_ := Aside0.mk (blk_below (g := gb101) (o := .cells #[.int .i64 a0_0, .int .i64 a0_1] 40 (0, 0)) (by (with_reducible repeat first | refine cA_ ?_ _ | refine cB_ ?_ | refine cC_ ?_ _); exact BK101.1) hb); have n1_ := Aside0.mk (below_step (by repeat first | exact HB.1 | apply bA_ | apply bB_ | apply bC_ | refine below_set ?_ GE101.out) hb); clear BK101; clear HB; have BK101 := n0_; have HB := n1_; clear n0_ n1_; (try clear hb); (try clear hb2); (try clear hk); (try clear hi)) | (go_at_call 61; (with_reducible refine (spec_l01In.calls a1 0 (wrap64 ((ji12) - 1)) true _ A13.out).mono ?_); rintro e w' ⟨rfl, ⟨nd, rfl⟩⟩; (try first | exact ⟨rfl, _, World.drewN_drewN _ _ _⟩ | exact ⟨rfl, _, Eq.trans (World.drewN_drewN _ _ _) (congrArg (World.drewN _) (Nat.add_assoc _ _ _))⟩)) | (go_at_call 61; (with_reducible refine (spec_l01In.calls a2 0 (wrap64 ((ji12) - 1)) false _ A16.out).mono ?_); rintro e w' ⟨rfl, ⟨nd, rfl⟩⟩; (try first | exact ⟨rfl, _, World.drewN_drewN _ _ _⟩ | exact ⟨rfl, _, Eq.trans (World.drewN_drewN _ _ _) (congrArg (World.drewN _) (Nat.add_assoc _ _ _))⟩)))
          repeat (go_quiet (fail); try go_wp2_with (fail))
          go_meet
          case rel => exact ⟨_, (true), (by first | rfl | (simp; done) | (simp [*]; done)), H', ⟨by first | omega | exact Nat.le_refl _⟩, ⟨by (with_reducible repeat (first | refine blk_drewN ?_ _ | refine blk_drew ?_ | refine blk_alloc ?_ _)); exact BK101.out⟩, ⟨by repeat (first | (with_reducible first | exact HB.out | apply below_alloc | apply pw_below_drewN | apply below_drew1 | refine below_set ?_ GE101.out) | exact HB.out)⟩⟩
      · replace c14 := Bool.eq_false_iff.mpr c14
        subst c14
        have H1 : (spec_CountFixed.j0 k a1 a2 t102 true a0_0 a0_1) = some r := by rw [if_neg (show ¬ (false = true) by decide)] at H; exact H
        clear H
        have H := H1
        clear H1
        have H' := Aside0.mk H
        clear H
        obtain ⟨hcz22_0, hcz22_1⟩ := kk2_ BK101.1
        have hfz22_0 := blk_frozen BK101.out 0
        have hfz22_1 := blk_frozen BK101.out 1
        go_wp2_with (first | (go_at_call 74; (with_reducible refine (spec_GridOk.calls a0_0 a0_1 true _ A9.out).mono ?_); rintro e w23 ⟨rfl, hb⟩; have n0_ := Aside0.mk (blk_below (g := gb101) (o := .cells #[.int .i64 a0_0, .int .i64 a0_1] 40 (0, 0)) (by (with_reducible repeat first | refine cA_ ?_ _ | refine cB_ ?_ | refine cC_ ?_ _); exact BK101.1) hb); have n1_ := Aside0.mk (below_step (by repeat first | exact HB.1 | apply bA_ | apply bB_ | apply bC_ | refine below_set ?_ GE101.out) hb); clear BK101; clear HB; have BK101 := n0_; have HB := n1_; clear n0_ n1_; (try clear hb); (try clear hb2); (try clear hk); (try clear hi)) | (go_at_call 61; (with_reducible refine (spec_l01In.calls a1 0 (wrap64 ((ji12) - 1)) false _ A13.out).mono ?_); rintro e w' ⟨rfl, ⟨nd, rfl⟩⟩; (try first | exact ⟨rfl, _, World.drewN_drewN _ _ _⟩ | exact ⟨rfl, _, Eq.trans (World.drewN_drewN _ _ _) (congrArg (World.drewN _) (Nat.add_assoc _ _ _))⟩)))
        repeat (go_quiet (fail); try go_wp2_with (fail))
        go_meet
        case rel => exact ⟨_, (true), (by first | rfl | (simp; done) | (simp [*]; done)), H', ⟨by first | omega | exact Nat.le_refl _⟩, ⟨by (with_reducible repeat (first | refine blk_drewN ?_ _ | refine blk_drew ?_ | refine blk_alloc ?_ _)); exact BK101.out⟩, ⟨by repeat (first | (with_reducible first | exact HB.out | apply below_alloc | apply pw_below_drewN | apply below_drew1 | refine below_set ?_ GE101.out) | exact HB.out)⟩⟩
    · replace c10 := Bool.eq_false_iff.mpr c10
      subst c10
      have H1 : (spec_CountFixed.j0 k a1 a2 t102 true a0_0 a0_1) = some r := by rw [if_neg (show ¬ (false = true) by decide)] at H; exact H
      clear H
      have H := H1
      clear H1
      have H' := Aside0.mk H
      clear H
      obtain ⟨hcz24_0, hcz24_1⟩ := kk2_ BK101.1
      have hfz24_0 := blk_frozen BK101.out 0
      have hfz24_1 := blk_frozen BK101.out 1
      go_wp2_with (first | (go_at_call 74; (with_reducible refine (spec_GridOk.calls a0_0 a0_1 false _ A9.out).mono ?_); rintro e w25 ⟨rfl, hb⟩; have n0_ := Aside0.mk (blk_below (g := gb101) (o := .cells #[.int .i64 a0_0, .int .i64 a0_1] 40 (0, 0)) (by (with_reducible repeat first | refine cA_ ?_ _ | refine cB_ ?_ | refine cC_ ?_ _); exact BK101.1) hb); have n1_ := Aside0.mk (below_step (by repeat first | exact HB.1 | apply bA_ | apply bB_ | apply bC_ | refine below_set ?_ GE101.out) hb); clear BK101; clear HB; have BK101 := n0_; have HB := n1_; clear n0_ n1_; (try clear hb); (try clear hb2); (try clear hk); (try clear hi)))
      repeat (go_quiet (fail); try go_wp2_with (fail))
      go_meet
      case rel => exact ⟨_, (true), (by first | rfl | (simp; done) | (simp [*]; done)), H', ⟨by first | omega | exact Nat.le_refl _⟩, ⟨by (with_reducible repeat (first | refine blk_drewN ?_ _ | refine blk_drew ?_ | refine blk_alloc ?_ _)); exact BK101.out⟩, ⟨by repeat (first | (with_reducible first | exact HB.out | apply below_alloc | apply pw_below_drewN | apply below_drew1 | refine below_set ?_ GE101.out) | exact HB.out)⟩⟩
  case rest =>
    clear HC5; try clear c1; try clear p2; try clear c3; try clear p6; try clear c10; try clear c11; try clear c11b0; try clear c11b1; try clear c14; try clear c15; try clear c15b0; try clear c17; try clear hcz18_0; try clear hcz18_1; try clear hcz20_0; try clear hcz20_1; try clear hcz22_0; try clear hcz22_1; try clear hcz24_0; try clear hcz24_1; try clear hcz7_0; try clear hcz7_1; try clear hfz18_0; try clear hfz18_1; try clear hfz20_0; try clear hfz20_1; try clear hfz22_0; try clear hfz22_1; try clear hfz24_0; try clear hfz24_1; try clear hfz7_0; try clear hfz7_1
    obtain ⟨kq, x41_4, rfl, HA, HJ4, BK101, HB⟩ := hcut
    cases kq with
    | zero => exact absurd HA.out (by simp [spec_CountFixed.j0])
    | succ kj4 =>
      have H := HA.out
      clear HA
      simp only [spec_CountFixed.j0] at H
      by_cases c26 : x41_4 = true
      · subst c26
        rw [if_pos rfl] at H
        obtain rfl := Option.some.inj H
        go_wp2
        repeat (go_quiet (fail); try go_wp2)
        go_ret
        exact ⟨by first | rfl | (simp [errW_none, errW_some] <;> rfl) | (simp [*, errW_none, errW_some] <;> rfl), by repeat (first | (with_reducible first | exact HB.out | apply below_alloc | apply pw_below_drewN | apply below_drew1 | refine below_set ?_ GE101.out) | exact HB.out)⟩
      · replace c26 := Bool.eq_false_iff.mpr c26
        subst c26
        have H1 : ((spec_CountCells.f a0_0 a0_1).bind fun t106 => (if 0 ≤ t106 then (if (t106 : Int).toNat ≤ 35184372088832 then (spec_CountFixed.l0 kj4 a1 a2 t102 (List.replicate (t106 : Int).toNat 0) 0 a0_0 a0_1) else (none)) else (none))) = some r := by rw [if_neg (show ¬ (false = true) by decide)] at H; exact H
        clear H
        have H := H1
        clear H1
        obtain ⟨t106, A270, H⟩ := Option.bind_eq_some_iff.mp H
        (try dsimp only at H); have A27 := Aside0.mk A270; clear A270
        replace H := iN_ H; obtain ⟨c28, H⟩ := H
        have c28b0 := eq_true c28
        have c28b1 : decide (0 ≤ t106) = true := decide_eq_true c28
        clear c28
        replace H := iN_ H; obtain ⟨c29, H⟩ := H
        have c29b0 := eq_true c29
        have c29b1 : decide ((t106 : Int).toNat ≤ 35184372088832) = true := decide_eq_true c29
        clear c29
        obtain ⟨y107, hy107⟩ : ∃ y_ : List Int, y_ = (List.replicate (t106 : Int).toNat 0) := ⟨_, rfl⟩
        replace H : (spec_CountFixed.l0 kj4 a1 a2 t102 y107 0 a0_0 a0_1) = some r := by first | (rw [hy107]; with_reducible exact H) | (have H2_ := (Option.bind_some _ _).symm.trans H; rw [hy107]; with_reducible exact H2_) | (have H2_ := (Option.bind_some _ _).symm.trans H; with_reducible exact H2_) | with_reducible exact H | (rw [hy107]; exact H) | exact H
        have Ny107 := Aside0.mk hy107
        clear hy107
        have H' := Aside0.mk H
        clear H
        obtain ⟨hcz30_0, hcz30_1⟩ := kk2_ BK101.1
        have hfz30_0 := blk_frozen BK101.out 0
        have hfz30_1 := blk_frozen BK101.out 1
        go_wp2_with (first | (go_at_call 36; (with_reducible refine (spec_CountCells.calls a0_0 a0_1 t106 _ A27.out).mono ?_); rintro e w31 ⟨rfl, hb⟩; have n0_ := Aside0.mk (blk_below (g := gb101) (o := .cells #[.int .i64 a0_0, .int .i64 a0_1] 40 (0, 0)) (by (with_reducible repeat first | refine cA_ ?_ _ | refine cB_ ?_ | refine cC_ ?_ _); exact BK101.1) hb); have n1_ := Aside0.mk (below_step (by repeat first | exact HB.1 | apply bA_ | apply bB_ | apply bC_ | refine below_set ?_ GE101.out) hb); clear BK101; clear HB; have BK101 := n0_; have HB := n1_; clear n0_ n1_; (try clear hb); (try clear hb2); (try clear hk); (try clear hi)) | ((with_reducible refine gate_dst (N := 44) rfl ?_); refine Kd.R_make (Kd.int .i64) _ 3 rfl (N := 44) rfl 29 _ _ rfl t106 rfl rfl Try.underlying29 (.int .i64 0) 8 info3 rfl (by decide) (by omega) 0 (ok := fun _ => True) (okp := fun _ => True) rfl (fun _ hk => hk) trivial (of_decide_eq_true (by first | (with_reducible assumption) | assumption)) (Nat.le_trans (Nat.mul_le_mul_right _ (of_decide_eq_true (by first | (with_reducible assumption) | assumption) : t106.toNat ≤ 35184372088832)) (by omega)) (Below.refl _ _) (Nat.le_refl _) ?_; intro v108 w32 ho33 hb hg_ hnew_; clear hg_ hnew_; (first | rw [← Ny107.out] at ho33 | (simp only [Int.reduceToNat] at ho33; rw [← Ny107.out] at ho33)); have n0_ := Aside0.mk (Kd.R_lower ho33 (below_size (by repeat first | exact HB.1 | apply bA_ | apply bB_ | apply bC_ | refine below_set ?_ GE101.out))); have n1_ := Aside0.mk (blk_below (g := gb101) (o := .cells #[.int .i64 a0_0, .int .i64 a0_1] 40 (0, 0)) (by (with_reducible repeat first | refine cA_ ?_ _ | refine cB_ ?_ | refine cC_ ?_ _); exact BK101.1) hb); have n2_ := Aside0.mk (below_step (by repeat first | exact HB.1 | apply bA_ | apply bB_ | apply bC_ | refine below_set ?_ GE101.out) hb); clear BK101; clear HB; have HO109 := n0_; have BK101 := n1_; have HB := n2_; clear n0_ n1_ n2_; clear hb ho33))
        repeat (go_quiet (fail); try go_wp2_with (fail))
        go_loopg [9] kj4 (fun kq v9 w' => ∃ (x8_2 : List Int) (x9_2 : Int), v9 = .int .i64 x9_2 ∧ Aside0 (spec_CountFixed.l0 kq a1 a2 t102 x8_2 x9_2 a0_0 a0_1 = some r) ∧ Aside0 (kq ≤ kj4) ∧ Aside0 (Kd.R (Kd.int .i64) 3 w' w.heap.size (fun _ => True) v108 x8_2) ∧ Aside0 (w'.heap[gb101]? = some (.cells #[.int .i64 a0_0, .int .i64 a0_1] 40 (0, 0))) ∧ Aside0 (Below w.heap.size w w'))
        case atStart => exact ⟨(y107), (0), (by first | rfl | (simp; done) | (simp [*]; done)), H', ⟨Nat.le_refl _⟩, ⟨by (with_reducible repeat (first | apply Kd.R_alloc | apply Kd.R_drewN | apply Kd.R_drew)); exact HO109.out⟩, ⟨by (with_reducible repeat (first | refine blk_drewN ?_ _ | refine blk_drew ?_ | refine blk_alloc ?_ _)); exact BK101.out⟩, ⟨by repeat (first | (with_reducible first | exact HB.out | apply below_alloc | apply pw_below_drewN | apply below_drew1 | refine below_set ?_ GE101.out) | exact HB.out)⟩⟩
        case round =>
          clear H'; try clear c1; try clear c2; try clear p2; try clear c3; try clear p6; try clear c10; try clear c11; try clear c11b0; try clear c11b1; try clear c14; try clear c15; try clear c15b0; try clear c17; try clear c26; try clear c28; try clear c28b0; try clear c28b1; try clear c29; try clear c29b0; try clear c29b1; try clear hcz18_0; try clear hcz18_1; try clear hcz20_0; try clear hcz20_1; try clear hcz22_0; try clear hcz22_1; try clear hcz24_0; try clear hcz24_1; try clear hcz30_0; try clear hcz30_1; try clear hcz7_0; try clear hcz7_1; try clear hfz18_0; try clear hfz18_1; try clear hfz20_0; try clear hfz20_1; try clear hfz22_0; try clear hfz22_1; try clear hfz24_0; try clear hfz24_1; try clear hfz30_0; try clear hfz30_1; try clear hfz7_0; try clear hfz7_1; try clear p2; try clear p6
          obtain ⟨x8_2, x9_2, rfl, HA, HK2, HO_8, BK101, HB⟩ := hrel
          cases gk with
          | zero => exact absurd HA.out (by simp [spec_CountFixed.l0])
          | succ k2 =>
            have H := HA.out
            clear HA
            simp only [spec_CountFixed.l0] at H
            by_cases c34 : x9_2 < (x8_2.length : Int)
            · rw [if_pos c34] at H
              have c34b0 : decide (x9_2 < (x8_2.length : Int)) = true := decide_eq_true c34
              clear c34
              replace H := iN_ H; obtain ⟨c35, H⟩ := H
              have c35b0 : decide (0 ≤ x9_2) = true := decide_eq_true c35
              clear c35
              obtain ⟨y110, hy110⟩ : ∃ y_ : List Int, y_ = (x8_2.set (x9_2 : Int).toNat x9_2) := ⟨_, rfl⟩
              replace H : (spec_CountFixed.l0 k2 a1 a2 t102 y110 (wrap64 (x9_2 + 1)) a0_0 a0_1) = some r := by first | (rw [hy110]; with_reducible exact H) | (have H2_ := (Option.bind_some _ _).symm.trans H; rw [hy110]; with_reducible exact H2_) | (have H2_ := (Option.bind_some _ _).symm.trans H; with_reducible exact H2_) | with_reducible exact H | (rw [hy110]; exact H) | exact H
              have Ny110 := Aside0.mk hy110
              clear hy110
              have H' := Aside0.mk H
              clear H
              obtain ⟨Ao37, co37, eo37⟩ := Kd.R_slice HO_8.out
              subst eo37
              have p36 : 0 ≤ (x9_2 : Int) := of_decide_eq_true (by first | (with_reducible assumption) | assumption)
              have q36 : (x9_2 : Int) < ((x8_2.length : Int) : Int) := of_decide_eq_true (by first | (with_reducible assumption) | assumption)
              obtain ⟨go36, co36, eo36, gb36, gl36, cl36, HG36⟩ := Kd.R_form HO_8.out (by omega)
              (first | cases eo36 | (injection eo36 with ea_ en_ ec_; (first | subst ea_ | (injection ea_ with ea_; subst ea_)); subst ec_; clear en_))
              have GB36 := Aside0.mk gb36
              have GG36 := Aside0.mk HG36
              clear gb36 gl36 HG36
              obtain ⟨hx36_0, hf36_0⟩ := Kd.R_celln 0 HO_8.out (x9_2 : Int) p36 q36
              replace p36 := eq_true p36; replace q36 := eq_true q36
              have HP38 := Kd.R_putg HO_8.out (x9_2 : Int) x9_2
              go_wp2_with (first | ((with_reducible refine gate_store (t := 3) (p := 54) rfl ?_); (try (rw [drewN_self wr]; generalize hq_ : World.drewN wr _ = wr; have n0_ := Aside0.mk (Kd.R_at hq_ HO_8.out); have n1_ := Aside0.mk (blk_at hq_ BK101.out); have n2_ := Aside0.mk (below_at hq_ HB.out); clear hq_ HO_8 BK101 HB; have HO_8 := n0_; have BK101 := n1_; have HB := n2_; clear n0_ n1_ n2_; (try (have HP38 := Kd.R_putg HO_8.out (x9_2 : Int) x9_2)))); refine store_event (t := 3) (p := 54) (v := ?vo_w39) (w1 := (wr.setCell ⟨go36, (x9_2 : Int).toNat, none⟩ (.int .i64 x9_2))) ?hg ?ho ?hn ?hr ?_; (case ho => rfl); (case hg => rfl); (case hn => rfl); (case hr => first | (go_simp; done) | (go_simp; rfl)); intro w39 hw; have hg : wr.grownBy w39 (some go36) := (by rw [hw]; exact HP38.2); have hp_ : Kd.R (Kd.int .i64) 3 w39 w.heap.size (fun _ => True) (.slice (some ⟨go36, 0, none⟩) x8_2.length co37) y110 := (by rw [hw, Ny110.out]; exact HP38.1); clear HP38; have n0_ := Aside0.mk (hp_); have n1_ := Aside0.mk (blk_grown (g := gb101) (o := .cells #[.int .i64 a0_0, .int .i64 a0_1] 40 (0, 0)) (by (with_reducible repeat first | refine cA_ ?_ _ | refine cB_ ?_ | refine cC_ ?_ _); exact BK101.1) hg (Kd.R_ne HO_8.out BK101.out (by decide))); have n2_ := Aside0.mk ((by rw [hw]; exact below_set (HB.out) GB36.out : Below w.heap.size w w39)); clear HO_8; clear BK101; clear HB; have HO_8 := n0_; have BK101 := n1_; have HB := n2_; clear n0_ n1_ n2_; clear hg hw hp_))
              repeat (go_quiet (fail); try go_wp2_with (fail))
              go_roundg k2
              case measure => have := HJ4.out; have := HK2.out; omega
              case rel => exact ⟨(y110), (wrap64 (x9_2 + 1)), (by first | rfl | (simp; done) | (simp [*]; done)), H', ⟨by have := HJ4.out; have := HK2.out; omega⟩, ⟨by (with_reducible repeat (first | apply Kd.R_alloc | apply Kd.R_drewN | apply Kd.R_drew)); exact HO_8.out⟩, ⟨by (with_reducible repeat (first | refine blk_drewN ?_ _ | refine blk_drew ?_ | refine blk_alloc ?_ _)); exact BK101.out⟩, ⟨by repeat (first | (with_reducible first | exact HB.out | apply below_alloc | apply pw_below_drewN | apply below_drew1 | refine below_set ?_ GE101.out) | exact HB.out)⟩⟩
            · rw [if_neg c34] at H
              have c34b0 : decide (x9_2 < (x8_2.length : Int)) = false := decide_eq_false c34
              clear c34
              have H' := Aside0.mk H
              clear H
              obtain ⟨Ao40, co40, eo40⟩ := Kd.R_slice HO_8.out
              subst eo40
              go_wp2
              repeat (go_quiet (fail); try go_wp2)
              go_loopg [10] k2 (fun kq v10 w' => ∃ (x8_3 : List Int) (x10_3 : Int), v10 = .int .i64 x10_3 ∧ Aside0 (spec_CountFixed.l1 kq a1 a2 t102 x8_3 x10_3 a0_0 a0_1 = some r) ∧ Aside0 (kq ≤ k2) ∧ Aside0 (Kd.R (Kd.int .i64) 3 w' w.heap.size (fun _ => True) (.slice Ao40 x8_2.length co40) x8_3) ∧ Aside0 (w'.heap[gb101]? = some (.cells #[.int .i64 a0_0, .int .i64 a0_1] 40 (0, 0))) ∧ Aside0 (Below w.heap.size w w'))
              case atStart => exact ⟨(x8_2), (0), (by first | rfl | (simp; done) | (simp [*]; done)), H', ⟨Nat.le_refl _⟩, ⟨by (with_reducible repeat (first | apply Kd.R_alloc | apply Kd.R_drewN | apply Kd.R_drew)); exact HO_8.out⟩, ⟨by (with_reducible repeat (first | refine blk_drewN ?_ _ | refine blk_drew ?_ | refine blk_alloc ?_ _)); exact BK101.out⟩, ⟨by repeat (first | (with_reducible first | exact HB.out | apply below_alloc | apply pw_below_drewN | apply below_drew1 | refine below_set ?_ GE101.out) | exact HB.out)⟩⟩
              case round =>
                clear H'; try clear c1; try clear c2; try clear p2; try clear c3; try clear p3; try clear q3; try clear hx3; try clear hf3; try clear p6; try clear c10; try clear c11; try clear c11b0; try clear c11b1; try clear c14; try clear c15; try clear c15b0; try clear c17; try clear c26; try clear c28; try clear c28b0; try clear c28b1; try clear c29; try clear c29b0; try clear c29b1; try clear c34; try clear c34b0; try clear c35; try clear c35b0; try clear p36; try clear q36; try clear hx36; try clear hf36; try clear c37; try clear hcz18_0; try clear hcz18_1; try clear hcz20_0; try clear hcz20_1; try clear hcz22_0; try clear hcz22_1; try clear hcz24_0; try clear hcz24_1; try clear hcz30_0; try clear hcz30_1; try clear hcz7_0; try clear hcz7_1; try clear hfz18_0; try clear hfz18_1; try clear hfz20_0; try clear hfz20_1; try clear hfz22_0; try clear hfz22_1; try clear hfz24_0; try clear hfz24_1; try clear hfz30_0; try clear hfz30_1; try clear hfz7_0; try clear hfz7_1; try clear hx36_0; try clear p2; try clear p36; try clear p6; try clear q36
                obtain ⟨x8_3, x10_3, rfl, HA, HK3, HO_8, BK101, HB⟩ := hrel
                have hl8_3 := (Kd.R_reads' HO_8.out).1
                rw [hl8_3] at HO_8
                (try simp only [hl8_3])
                (try simp only [hl8_3] at BK101)
                cases gk with
                | zero => exact absurd HA.out (by simp [spec_CountFixed.l1])
                | succ k3 =>
                  have H := HA.out
                  clear HA
                  simp only [spec_CountFixed.l1] at H
                  by_cases c41 : x10_3 < t102
                  · rw [if_pos c41] at H
                    have c41b0 : decide (x10_3 < t102) = true := decide_eq_true c41
                    clear c41
                    obtain ⟨t112, A420, H⟩ := Option.bind_eq_some_iff.mp H
                    (try dsimp only at H); have A42 := Aside0.mk A420; clear A420
                    by_cases c43 : t112 = true
                    · subst c43
                      rw [if_pos rfl] at H
                      obtain ⟨⟨t113, t114⟩, A440, H⟩ := Option.bind_eq_some_iff.mp H
                      (try dsimp only at H); have A44 := Aside0.mk A440; clear A440
                      replace H := iN_ H; obtain ⟨c45, H⟩ := H
                      have c45b0 : decide (0 ≤ t113) = true := decide_eq_true c45
                      clear c45
                      replace H := iN_ H; obtain ⟨c46, H⟩ := H
                      have c46b0 : decide (t113 < (x8_3.length : Int)) = true := decide_eq_true c46
                      clear c46
                      replace H := iN_ H; obtain ⟨c47, H⟩ := H
                      have c47b0 : decide (0 ≤ t114) = true := decide_eq_true c47
                      clear c47
                      replace H := iN_ H; obtain ⟨c48, H⟩ := H
                      have c48b0 : decide (t114 < (x8_3.length : Int)) = true := decide_eq_true c48
                      clear c48
                      by_cases c49 : (rd x8_3 t113) = (rd x8_3 t114)
                      · rw [if_pos c49] at H
                        have c49b0 : ((rd x8_3 t113) == (rd x8_3 t114)) = true := beq_iff_eq.mpr c49
                        have c49b1 : ((rd x8_3 t113) != (rd x8_3 t114)) = false := bne_eq_false_iff_eq.mpr c49
                        clear c49
                        obtain rfl := Option.some.inj H
                        go_wp2_with (first | (go_at_call 83; (with_reducible refine (spec_l03Bit.calls a1 x10_3 true _ A42.out).mono ?_); rintro e w' ⟨rfl, ⟨nd, rfl⟩⟩; (try first | exact ⟨rfl, _, World.drewN_drewN _ _ _⟩ | exact ⟨rfl, _, Eq.trans (World.drewN_drewN _ _ _) (congrArg (World.drewN _) (Nat.add_assoc _ _ _))⟩); obtain ⟨hcz50_0, hcz50_1⟩ := kk2_ BK101.1; have hfz50_0 := blk_frozen BK101.out 0; have hfz50_1 := blk_frozen BK101.out 1) | (go_at_call 84; (with_reducible refine (spec_EndsOf.calls a0_0 a0_1 x10_3 t113 t114 _ A44.out).mono ?_); rintro e w51 ⟨rfl, hb⟩; have n0_ := Aside0.mk (Kd.R_below (by (with_reducible repeat (first | apply Kd.R_alloc | apply Kd.R_drewN | apply Kd.R_drew)); exact HO_8.out) hb); have n1_ := Aside0.mk (blk_below (g := gb101) (o := .cells #[.int .i64 a0_0, .int .i64 a0_1] 40 (0, 0)) (by (with_reducible repeat first | refine cA_ ?_ _ | refine cB_ ?_ | refine cC_ ?_ _); exact BK101.1) hb); have n2_ := Aside0.mk (below_step (by repeat first | exact HB.1 | apply bA_ | apply bB_ | apply bC_ | refine below_set ?_ GE101.out) hb); clear HO_8; clear BK101; clear HB; have HO_8 := n0_; have BK101 := n1_; have HB := n2_; clear n0_ n1_ n2_; (try clear hb); (try clear hb2); (try clear hk); (try clear hi); have p115 : 0 ≤ (t113 : Int) := of_decide_eq_true (by first | (with_reducible assumption) | assumption); have q115 : t113 < (x8_3.length : Int) := of_decide_eq_true (by first | (with_reducible assumption) | assumption); obtain ⟨ad115, e115, hx115_0⟩ := Kd.at_int (Kd.R_reads' HO_8.out).2.2 t113 p115 q115; cases e115; replace p115 := eq_true p115; replace q115 := eq_true q115; have p116 : 0 ≤ (t114 : Int) := of_decide_eq_true (by first | (with_reducible assumption) | assumption); have q116 : t114 < (x8_3.length : Int) := of_decide_eq_true (by first | (with_reducible assumption) | assumption); obtain ⟨ad116, e116, hx116_0⟩ := Kd.at_int (Kd.R_reads' HO_8.out).2.2 t114 p116 q116; obtain rfl : ad115 = ad116 := (by injection e116); replace p116 := eq_true p116; replace q116 := eq_true q116))
                        repeat (go_quiet (fail); try go_wp2_with (fail))
                        go_ret
                        exact ⟨by first | rfl | (simp [errW_none, errW_some] <;> rfl) | (simp [*, errW_none, errW_some] <;> rfl), by repeat (first | (with_reducible first | exact HB.out | apply below_alloc | apply pw_below_drewN | apply below_drew1 | refine below_set ?_ GE101.out) | exact HB.out)⟩
                      · rw [if_neg c49] at H
                        have c49b0 : ((rd x8_3 t113) == (rd x8_3 t114)) = false := beq_eq_false_iff_ne.mpr c49
                        have c49b1 : ((rd x8_3 t113) != (rd x8_3 t114)) = true := bne_iff_ne.mpr c49
                        have H' := Aside0.mk H
                        clear H
                        go_wp2_with (first | (go_at_call 83; (with_reducible refine (spec_l03Bit.calls a1 x10_3 true _ A42.out).mono ?_); rintro e w' ⟨rfl, ⟨nd, rfl⟩⟩; (try first | exact ⟨rfl, _, World.drewN_drewN _ _ _⟩ | exact ⟨rfl, _, Eq.trans (World.drewN_drewN _ _ _) (congrArg (World.drewN _) (Nat.add_assoc _ _ _))⟩); obtain ⟨hcz52_0, hcz52_1⟩ := kk2_ BK101.1; have hfz52_0 := blk_frozen BK101.out 0; have hfz52_1 := blk_frozen BK101.out 1) | (go_at_call 84; (with_reducible refine (spec_EndsOf.calls a0_0 a0_1 x10_3 t113 t114 _ A44.out).mono ?_); rintro e w53 ⟨rfl, hb⟩; have n0_ := Aside0.mk (Kd.R_below (by (with_reducible repeat (first | apply Kd.R_alloc | apply Kd.R_drewN | apply Kd.R_drew)); exact HO_8.out) hb); have n1_ := Aside0.mk (blk_below (g := gb101) (o := .cells #[.int .i64 a0_0, .int .i64 a0_1] 40 (0, 0)) (by (with_reducible repeat first | refine cA_ ?_ _ | refine cB_ ?_ | refine cC_ ?_ _); exact BK101.1) hb); have n2_ := Aside0.mk (below_step (by repeat first | exact HB.1 | apply bA_ | apply bB_ | apply bC_ | refine below_set ?_ GE101.out) hb); clear HO_8; clear BK101; clear HB; have HO_8 := n0_; have BK101 := n1_; have HB := n2_; clear n0_ n1_ n2_; (try clear hb); (try clear hb2); (try clear hk); (try clear hi); have p115 : 0 ≤ (t113 : Int) := of_decide_eq_true (by first | (with_reducible assumption) | assumption); have q115 : t113 < (x8_3.length : Int) := of_decide_eq_true (by first | (with_reducible assumption) | assumption); obtain ⟨ad115, e115, hx115_0⟩ := Kd.at_int (Kd.R_reads' HO_8.out).2.2 t113 p115 q115; cases e115; replace p115 := eq_true p115; replace q115 := eq_true q115; have p116 : 0 ≤ (t114 : Int) := of_decide_eq_true (by first | (with_reducible assumption) | assumption); have q116 : t114 < (x8_3.length : Int) := of_decide_eq_true (by first | (with_reducible assumption) | assumption); obtain ⟨ad116, e116, hx116_0⟩ := Kd.at_int (Kd.R_reads' HO_8.out).2.2 t114 p116 q116; obtain rfl : ad115 = ad116 := (by injection e116); replace p116 := eq_true p116; replace q116 := eq_true q116; have p117 : 0 ≤ (t114 : Int) := of_decide_eq_true (by first | (with_reducible assumption) | assumption); have q117 : t114 < (x8_3.length : Int) := of_decide_eq_true (by first | (with_reducible assumption) | assumption); obtain ⟨ad117, e117, hx117_0⟩ := Kd.at_int (Kd.R_reads' HO_8.out).2.2 t114 p117 q117; obtain rfl : ad115 = ad117 := (by injection e117); replace p117 := eq_true p117; replace q117 := eq_true q117))
                        repeat (go_quiet (fail); try go_wp2_with (fail))
                        go_loopg [14] k3 (fun kq v14 w' => ∃ (x8_4 : List Int) (x14_4 : Int), v14 = .int .i64 x14_4 ∧ Aside0 (spec_CountFixed.l2 kq a1 a2 t102 x8_4 x10_3 t113 (rd x8_3 t114) x14_4 a0_0 a0_1 = some r) ∧ Aside0 (kq ≤ k3) ∧ Aside0 (Kd.R (Kd.int .i64) 3 w' w.heap.size (fun _ => True) (.slice (some ad115) x8_3.length co40) x8_4) ∧ Aside0 (w'.heap[gb101]? = some (.cells #[.int .i64 a0_0, .int .i64 a0_1] 40 (0, 0))) ∧ Aside0 (Below w.heap.size w w'))
                        case atStart => exact ⟨(x8_3), (0), (by first | rfl | (simp; done) | (simp [*]; done)), H', ⟨Nat.le_refl _⟩, ⟨by (try simp only [hl8_3]); (with_reducible repeat (first | apply Kd.R_alloc | apply Kd.R_drewN | apply Kd.R_drew)); exact HO_8.out⟩, ⟨by (try simp only [hl8_3]); (with_reducible repeat (first | refine blk_drewN ?_ _ | refine blk_drew ?_ | refine blk_alloc ?_ _)); exact BK101.out⟩, ⟨by repeat (first | (with_reducible first | exact HB.out | apply below_alloc | apply pw_below_drewN | apply below_drew1 | refine below_set ?_ GE101.out) | exact HB.out)⟩⟩
                        case round =>
                          clear H'; try clear c1; try clear p1; try clear q1; try clear hx1; try clear c2; try clear p2; try clear c3; try clear p3; try clear q3; try clear hx3; try clear hf3; try clear c4; try clear p6; try clear c10; try clear c11; try clear c11b0; try clear c11b1; try clear p11; try clear q11; try clear hx11; try clear c14; try clear c15; try clear c15b0; try clear c17; try clear c26; try clear c28; try clear c28b0; try clear c28b1; try clear c29; try clear c29b0; try clear c29b1; try clear c34; try clear c34b0; try clear c35; try clear c35b0; try clear p36; try clear q36; try clear hx36; try clear hf36; try clear c37; try clear c41; try clear c41b0; try clear c43; try clear c45; try clear c45b0; try clear c46; try clear c46b0; try clear c47; try clear c47b0; try clear c48; try clear c48b0; try clear c49; try clear c49b0; try clear c49b1; try clear hcz18_0; try clear hcz18_1; try clear hcz20_0; try clear hcz20_1; try clear hcz22_0; try clear hcz22_1; try clear hcz24_0; try clear hcz24_1; try clear hcz30_0; try clear hcz30_1; try clear hcz50_0; try clear hcz50_1; try clear hcz52_0; try clear hcz52_1; try clear hcz7_0; try clear hcz7_1; try clear hfz18_0; try clear hfz18_1; try clear hfz20_0; try clear hfz20_1; try clear hfz22_0; try clear hfz22_1; try clear hfz24_0; try clear hfz24_1; try clear hfz30_0; try clear hfz30_1; try clear hfz50_0; try clear hfz50_1; try clear hfz52_0; try clear hfz52_1; try clear hfz7_0; try clear hfz7_1; try clear hx115_0; try clear hx116_0; try clear hx117_0; try clear hx36_0; try clear p115; try clear p116; try clear p117; try clear p2; try clear p3; try clear p36; try clear p6; try clear q115; try clear q116; try clear q117; try clear q3; try clear q36
                          obtain ⟨x8_4, x14_4, rfl, HA, HK4, HO_8, BK101, HB⟩ := hrel
                          have hl8_4 := (Kd.R_reads' HO_8.out).1
                          rw [hl8_4] at HO_8
                          (try simp only [hl8_4])
                          (try simp only [hl8_4] at BK101)
                          cases gk with
                          | zero => exact absurd HA.out (by simp [spec_CountFixed.l2])
                          | succ k4 =>
                            have H := HA.out
                            clear HA
                            simp only [spec_CountFixed.l2] at H
                            by_cases c54 : x14_4 < (x8_4.length : Int)
                            · rw [if_pos c54] at H
                              have c54b0 : decide (x14_4 < (x8_4.length : Int)) = true := decide_eq_true c54
                              clear c54
                              replace H := iN_ H; obtain ⟨c55, H⟩ := H
                              have c55b0 : decide (0 ≤ x14_4) = true := decide_eq_true c55
                              clear c55
                              by_cases c56 : (rd x8_4 x14_4) = (rd x8_3 t114)
                              · rw [if_pos c56] at H
                                have c56b0 : ((rd x8_4 x14_4) == (rd x8_3 t114)) = true := beq_iff_eq.mpr c56
                                have c56b1 : ((rd x8_4 x14_4) != (rd x8_3 t114)) = false := bne_eq_false_iff_eq.mpr c56
                                clear c56
                                replace H := iN_ H; obtain ⟨c57, H⟩ := H
                                have c57b0 : decide (0 ≤ t113) = true := decide_eq_true c57
                                clear c57
                                replace H := iN_ H; obtain ⟨c58, H⟩ := H
                                have c58b0 : decide (t113 < (x8_4.length : Int)) = true := decide_eq_true c58
                                clear c58
                                obtain ⟨y120, hy120⟩ : ∃ y_ : List Int, y_ = (x8_4.set (x14_4 : Int).toNat (rd x8_4 t113)) := ⟨_, rfl⟩
                                replace H : (spec_CountFixed.l2 k4 a1 a2 t102 y120 x10_3 t113 (rd x8_3 t114) (wrap64 (x14_4 + 1)) a0_0 a0_1) = some r := by first | (rw [hy120]; with_reducible exact H) | (have H2_ := (Option.bind_some _ _).symm.trans H; rw [hy120]; with_reducible exact H2_) | (have H2_ := (Option.bind_some _ _).symm.trans H; with_reducible exact H2_) | with_reducible exact H | (rw [hy120]; exact H) | exact H
                                have Ny120 := Aside0.mk hy120
                                clear hy120
                                have H' := Aside0.mk H
                                clear H
                                have p118 : 0 ≤ (x14_4 : Int) := of_decide_eq_true (by first | (with_reducible assumption) | assumption)
                                have q118 : x14_4 < (x8_4.length : Int) := of_decide_eq_true (by first | (with_reducible assumption) | assumption)
                                obtain ⟨ad118, e118, hx118_0⟩ := Kd.at_int (Kd.R_reads' HO_8.out).2.2 x14_4 p118 q118
                                obtain rfl : ad115 = ad118 := (by injection e118)
                                replace p118 := eq_true p118; replace q118 := eq_true q118
                                have p119 : 0 ≤ (t113 : Int) := of_decide_eq_true (by first | (with_reducible assumption) | assumption)
                                have q119 : t113 < (x8_4.length : Int) := of_decide_eq_true (by first | (with_reducible assumption) | assumption)
                                obtain ⟨ad119, e119, hx119_0⟩ := Kd.at_int (Kd.R_reads' HO_8.out).2.2 t113 p119 q119
                                obtain rfl : ad115 = ad119 := (by injection e119)
                                replace p119 := eq_true p119; replace q119 := eq_true q119
                                have p59 : 0 ≤ (x14_4 : Int) := of_decide_eq_true (by first | (with_reducible assumption) | assumption)
                                have q59 : (x14_4 : Int) < ((x8_4.length : Int) : Int) := of_decide_eq_true (by first | (with_reducible assumption) | assumption)
                                obtain ⟨go59, co59, eo59, gb59, gl59, cl59, HG59⟩ := Kd.R_form HO_8.out (by omega)
                                (first | cases eo59 | (injection eo59 with ea_ en_ ec_; (first | subst ea_ | (injection ea_ with ea_; subst ea_)); subst ec_; clear en_))
                                have GB59 := Aside0.mk gb59
                                have GG59 := Aside0.mk HG59
                                clear gb59 gl59 HG59
                                (first | simp only [add_plain] at hx115_0 | skip)
                                (first | simp only [add_plain] at hx116_0 | skip)
                                (first | simp only [add_plain] at hx117_0 | skip)
                                (first | simp only [add_plain] at hx118_0 | skip)
                                (first | simp only [add_plain] at hx119_0 | skip)
                                obtain ⟨hx59_0, hf59_0⟩ := Kd.R_celln 0 HO_8.out (x14_4 : Int) p59 q59
                                replace p59 := eq_true p59; replace q59 := eq_true q59
                                have HP60 := Kd.R_putg HO_8.out (x14_4 : Int) (rd x8_4 t113)
                                go_wp2_with (first | ((with_reducible refine gate_store (t := 3) (p := 101) rfl ?_); (try (rw [drewN_self wr]; generalize hq_ : World.drewN wr _ = wr; have n0_ := Aside0.mk (Kd.R_at hq_ HO_8.out); have n1_ := Aside0.mk (blk_at hq_ BK101.out); have n2_ := Aside0.mk (below_at hq_ HB.out); clear hq_ HO_8 BK101 HB; have HO_8 := n0_; have BK101 := n1_; have HB := n2_; clear n0_ n1_ n2_; (try (have HP60 := Kd.R_putg HO_8.out (x14_4 : Int) (rd x8_4 t113))))); refine store_event (t := 3) (p := 101) (v := ?vo_w61) (w1 := (wr.setCell ⟨go59, (x14_4 : Int).toNat, none⟩ (.int .i64 (rd x8_4 t113)))) ?hg ?ho ?hn ?hr ?_; (case ho => rfl); (case hg => rfl); (case hn => rfl); (case hr => first | (go_simp; done) | (go_simp; rfl)); intro w61 hw; have hg : wr.grownBy w61 (some go59) := (by rw [hw]; exact HP60.2); have hp_ : Kd.R (Kd.int .i64) 3 w61 w.heap.size (fun _ => True) (.slice (some ⟨go59, 0, none⟩) x8_4.length co40) y120 := (by rw [hw, Ny120.out]; exact HP60.1); clear HP60; have n0_ := Aside0.mk (hp_); have n1_ := Aside0.mk (blk_grown (g := gb101) (o := .cells #[.int .i64 a0_0, .int .i64 a0_1] 40 (0, 0)) (by (with_reducible repeat first | refine cA_ ?_ _ | refine cB_ ?_ | refine cC_ ?_ _); exact BK101.1) hg (Kd.R_ne HO_8.out BK101.out (by decide))); have n2_ := Aside0.mk ((by rw [hw]; exact below_set (HB.out) GB59.out : Below w.heap.size w w61)); clear HO_8; clear BK101; clear HB; have HO_8 := n0_; have BK101 := n1_; have HB := n2_; clear n0_ n1_ n2_; clear hg hw hp_))
                                repeat (go_quiet (fail); try go_wp2_with (fail))
                                (try rw [show (⟨go59, (t114 : Int).toNat, none⟩ : Addr) = (⟨go59, 0, none⟩ : Addr).add (t114 : Int).toNat from by simp [Addr.add]])
                                (try rw [show (⟨go59, (t113 : Int).toNat, none⟩ : Addr) = (⟨go59, 0, none⟩ : Addr).add (t113 : Int).toNat from by simp [Addr.add]])
                                (try simp only [← hl8_4])
                                go_roundg k4
                                case measure => have := HJ4.out; have := HK2.out; have := HK3.out; have := HK4.out; omega
                                case rel => exact ⟨(y120), (wrap64 (x14_4 + 1)), (by first | rfl | (simp; done) | (simp [*]; done)), H', ⟨by have := HJ4.out; have := HK2.out; have := HK3.out; have := HK4.out; omega⟩, ⟨by (try simp only [hl8_3]); (try simp only [hl8_4]); (with_reducible repeat (first | apply Kd.R_alloc | apply Kd.R_drewN | apply Kd.R_drew)); exact HO_8.out⟩, ⟨by (try simp only [hl8_3]); (try simp only [hl8_4]); (with_reducible repeat (first | refine blk_drewN ?_ _ | refine blk_drew ?_ | refine blk_alloc ?_ _)); exact BK101.out⟩, ⟨by repeat (first | (with_reducible first | exact HB.out | apply below_alloc | apply pw_below_drewN | apply below_drew1 | refine below_set ?_ GE101.out) | exact HB.out)⟩⟩
                              · rw [if_neg c56] at H
                                have c56b0 : ((rd x8_4 x14_4) == (rd x8_3 t114)) = false := beq_eq_false_iff_ne.mpr c56
                                have c56b1 : ((rd x8_4 x14_4) != (rd x8_3 t114)) = true := bne_iff_ne.mpr c56
                                have H' := Aside0.mk H
                                clear H
                                have p118 : 0 ≤ (x14_4 : Int) := of_decide_eq_true (by first | (with_reducible assumption) | assumption)
                                have q118 : x14_4 < (x8_4.length : Int) := of_decide_eq_true (by first | (with_reducible assumption) | assumption)
                                obtain ⟨ad118, e118, hx118_0⟩ := Kd.at_int (Kd.R_reads' HO_8.out).2.2 x14_4 p118 q118
                                obtain rfl : ad115 = ad118 := (by injection e118)
                                replace p118 := eq_true p118; replace q118 := eq_true q118
                                go_wp2
                                repeat (go_quiet (fail); try go_wp2)
                                (try simp only [← hl8_4])
                                go_roundg k4
                                case measure => have := HJ4.out; have := HK2.out; have := HK3.out; have := HK4.out; omega
                                case rel => exact ⟨(x8_4), (wrap64 (x14_4 + 1)), (by first | rfl | (simp; done) | (simp [*]; done)), H', ⟨by have := HJ4.out; have := HK2.out; have := HK3.out; have := HK4.out; omega⟩, ⟨by (try simp only [hl8_3]); (try simp only [hl8_4]); (with_reducible repeat (first | apply Kd.R_alloc | apply Kd.R_drewN | apply Kd.R_drew)); exact HO_8.out⟩, ⟨by (try simp only [hl8_3]); (try simp only [hl8_4]); (with_reducible repeat (first | refine blk_drewN ?_ _ | refine blk_drew ?_ | refine blk_alloc ?_ _)); exact BK101.out⟩, ⟨by repeat (first | (with_reducible first | exact HB.out | apply below_alloc | apply pw_below_drewN | apply below_drew1 | refine below_set ?_ GE101.out) | exact HB.out)⟩⟩
                            · rw [if_neg c54] at H
                              have c54b0 : decide (x14_4 < (x8_4.length : Int)) = false := decide_eq_false c54
                              clear c54
                              have H' := Aside0.mk H
                              clear H
                              go_wp2
                              repeat (go_quiet (fail); try go_wp2)
                              (try simp only [← hl8_3, ← hl8_4])
                              go_roundg k4
                              case measure => have := HJ4.out; have := HK2.out; have := HK3.out; have := HK4.out; omega
                              case rel => exact ⟨(x8_4), (wrap64 (x10_3 + 1)), (by first | rfl | (simp; done) | (simp [*]; done)), H', ⟨by have := HJ4.out; have := HK2.out; have := HK3.out; have := HK4.out; omega⟩, ⟨by (try simp only [hl8_3]); (try simp only [hl8_4]); (with_reducible repeat (first | apply Kd.R_alloc | apply Kd.R_drewN | apply Kd.R_drew)); exact HO_8.out⟩, ⟨by (try simp only [hl8_3]); (try simp only [hl8_4]); (with_reducible repeat (first | refine blk_drewN ?_ _ | refine blk_drew ?_ | refine blk_alloc ?_ _)); exact BK101.out⟩, ⟨by repeat (first | (with_reducible first | exact HB.out | apply below_alloc | apply pw_below_drewN | apply below_drew1 | refine below_set ?_ GE101.out) | exact HB.out)⟩⟩
                    · replace c43 := Bool.eq_false_iff.mpr c43
                      subst c43
                      have H1 : (spec_CountFixed.l1 k3 a1 a2 t102 x8_3 (wrap64 (x10_3 + 1)) a0_0 a0_1) = some r := by rw [if_neg (show ¬ (false = true) by decide)] at H; exact H
                      clear H
                      have H := H1
                      clear H1
                      have H' := Aside0.mk H
                      clear H
                      go_wp2_with (first | (go_at_call 83; (with_reducible refine (spec_l03Bit.calls a1 x10_3 false _ A42.out).mono ?_); rintro e w' ⟨rfl, ⟨nd, rfl⟩⟩; (try first | exact ⟨rfl, _, World.drewN_drewN _ _ _⟩ | exact ⟨rfl, _, Eq.trans (World.drewN_drewN _ _ _) (congrArg (World.drewN _) (Nat.add_assoc _ _ _))⟩)))
                      repeat (go_quiet (fail); try go_wp2_with (fail))
                      (try simp only [← hl8_3])
                      go_roundg k3
                      case measure => have := HJ4.out; have := HK2.out; have := HK3.out; omega
                      case rel => exact ⟨(x8_3), (wrap64 (x10_3 + 1)), (by first | rfl | (simp; done) | (simp [*]; done)), H', ⟨by have := HJ4.out; have := HK2.out; have := HK3.out; omega⟩, ⟨by (try simp only [hl8_3]); (with_reducible repeat (first | apply Kd.R_alloc | apply Kd.R_drewN | apply Kd.R_drew)); exact HO_8.out⟩, ⟨by (try simp only [hl8_3]); (with_reducible repeat (first | refine blk_drewN ?_ _ | refine blk_drew ?_ | refine blk_alloc ?_ _)); exact BK101.out⟩, ⟨by repeat (first | (with_reducible first | exact HB.out | apply below_alloc | apply pw_below_drewN | apply below_drew1 | refine below_set ?_ GE101.out) | exact HB.out)⟩⟩
                  · rw [if_neg c41] at H
                    have c41b0 : decide (x10_3 < t102) = false := decide_eq_false c41
                    clear c41
                    obtain ⟨t111, A620, H⟩ := Option.bind_eq_some_iff.mp H
                    (try dsimp only at H); have A62 := Aside0.mk A620; clear A620
                    obtain rfl := Option.some.inj H
                    obtain ⟨hcz63_0, hcz63_1⟩ := kk2_ BK101.1
                    have hfz63_0 := blk_frozen BK101.out 0
                    have hfz63_1 := blk_frozen BK101.out 1
                    go_wp2_with (first | (go_at_call 85; (with_reducible refine (spec_l12Trees.calls k3 a0_0 a0_1 (Go.bits .or .i64 a1 a2) _ _ x8_3 t111 _ ?side1 ?side2 A62.out).mono ?_); (case side1 => repeat (first | exact (Kd.R_reads' HO_8.out).2.2 | (with_reducible refine Kd.C_alloc ?_ _) | (with_reducible refine Kd.C_drewN ?_ _) | (with_reducible refine Kd.C_drew ?_))); (case side2 => exact (Kd.R_reads' HO_8.out).2.1); rintro e w64 ⟨rfl, hb⟩; have n0_ := Aside0.mk (Kd.R_below (by (with_reducible repeat (first | apply Kd.R_alloc | apply Kd.R_drewN | apply Kd.R_drew)); exact HO_8.out) hb); have n1_ := Aside0.mk (blk_below (g := gb101) (o := .cells #[.int .i64 a0_0, .int .i64 a0_1] 40 (0, 0)) (by (with_reducible repeat first | refine cA_ ?_ _ | refine cB_ ?_ | refine cC_ ?_ _); exact BK101.1) hb); have n2_ := Aside0.mk (below_step (by repeat first | exact HB.1 | apply bA_ | apply bB_ | apply bC_ | refine below_set ?_ GE101.out) hb); clear HO_8; clear BK101; clear HB; have HO_8 := n0_; have BK101 := n1_; have HB := n2_; clear n0_ n1_ n2_; (try clear hb); (try clear hb2); (try clear hk); (try clear hi)))
                    repeat (go_quiet (fail); try go_wp2_with (fail))
                    go_ret
                    exact ⟨by first | rfl | (simp [errW_none, errW_some] <;> rfl) | (simp [*, errW_none, errW_some] <;> rfl), by repeat (first | (with_reducible first | exact HB.out | apply below_alloc | apply pw_below_drewN | apply below_drew1 | refine below_set ?_ GE101.out) | exact HB.out)⟩

end Go.Proofs.Ytoohcdfokejkdaa.P
namespace Go.Proofs.Ytoohcdfokejkdaa.P
open Go.RowKit Go.Proofs.YtoohcdfokejkdaaW.PrintWords Go.Proofs.YtoohcdfokejkdaaW.PrintLast Go.Proofs.YtoohcdfokejkdaaW.PrintMore
attribute [local go_sem] max2_int min2_int max_two min_two max_three min_three max_four min_four   -- for this text's walks alone
set_option linter.unusedVariables false
set_option linter.unusedSimpArgs false

/-! ### spec_CountAll: function 39 -/
def spec_CountAll.f (k : Nat) (a0_0 : Int) (a0_1 : Int) : Option (Int) := (spec_CountFixed.f k a0_0 a0_1 0 0).bind fun t102 => (some t102)
set_option maxHeartbeats 8000000 in
set_option maxRecDepth 100000 in
theorem spec_CountAll.calls (k : Nat) (a0_0 : Int) (a0_1 : Int) (r : Int) (w : World) (h : spec_CountAll.f k a0_0 a0_1 = some r) :
    Calls Try.prog 39 #[.agg #[.int .i64 a0_0, .int .i64 a0_1]] w fun e w' => e = .returned (.int .i64 r) ∧ Below w.heap.size w w' := by
  have hu40 := Try.underlying40
  have HB := Aside0.mk (Below.refl w.heap.size w)
  have H : ((spec_CountFixed.f k a0_0 a0_1 0 0).bind fun t102 => (some t102)) = some r := h
  clear h
  obtain ⟨t102, A20, H⟩ := Option.bind_eq_some_iff.mp H
  (try dsimp only at H); have A2 := Aside0.mk A20; clear A20
  obtain rfl := Option.some.inj H
  go_enter Try.func39, Try.ntmps39
  go_wp2_with (first | ((with_reducible refine gate_dst (N := 1) rfl ?_); refine box_event ?hg (N := 1) ?hd (cs := #[.int .i64 a0_0, .int .i64 a0_1]) (t := 40) ?hr ?_; (case hd => rfl); (case hg => rfl); (case hr => (go_simp; done)); intro gb101 hg w3 hbox hb; have n0_ := Aside0.mk (below_step HB.out hb); have n1_ := Aside0.mk (hbox); have n2_ := Aside0.mk ((by rw [hg]; exact (below_size HB.out) : w.heap.size ≤ gb101)); have n3_ := Aside0.mk ((by rw [hg]; exact (below_size HB.out) : w.heap.size ≤ gb101)); clear HB; have HB := n0_; have BK101 := n1_; have GW101 := n2_; have GE101 := n3_; clear n0_ n1_ n2_ n3_; clear hb hbox hg; obtain ⟨hcz4_0, hcz4_1⟩ := kk2_ BK101.1; have hfz4_0 := blk_frozen BK101.out 0; have hfz4_1 := blk_frozen BK101.out 1) | ((with_reducible refine gate_callee (f := 37) rfl ?_); refine goesL_ (some 4) rfl rfl Try.func37 (by kernel_rfl) rfl #[.agg #[.int .i64 a0_0, .int .i64 a0_1], .int .i64 0, .int .i64 0] rfl (by (try simp only [List.map_toArray, List.map_cons, List.map_nil]); rfl) ?_; (with_reducible refine (spec_CountFixed.calls k a0_0 a0_1 0 0 t102 _ A2.out).mono ?_); rintro e w5 ⟨rfl, hb⟩; refine ⟨_, rfl, ?_⟩; have n0_ := Aside0.mk (blk_below (g := gb101) (o := .cells #[.int .i64 a0_0, .int .i64 a0_1] 40 (0, 0)) BK101.out hb); have n1_ := Aside0.mk (below_step HB.out hb); clear BK101; clear HB; have BK101 := n0_; have HB := n1_; clear n0_ n1_; (try clear hb); (try clear hb2); (try clear hk); (try clear hi)))
  go_ret
  exact ⟨by rfl, by repeat ((with_reducible exact HB.out))⟩

/-! ### spec_MazeAt: function 47 -/
def spec_MazeAt.l0 : Nat → Int → Int → Int → Int → Int → Int → Option (Int × Int × Int × Bool)
  | 0, _, _, _, _, _, _ => none
  | k + 1, x1, x6, x7, x8, x102000, x102001 => (spec_CountGaps.f x102000 x102001).bind fun t105 => (if x8 < t105 then (if 0 ≤ x8 then ((spec_CountFixed.f k x102000 x102001 x6 (Go.bits .or .i64 x7 (shl .i64 1 x8))).bind fun t106 => (if x1 < t106 then (spec_MazeAt.l0 k x1 x6 (Go.bits .or .i64 x7 (shl .i64 1 x8)) (wrap64 (x8 + 1)) x102000 x102001) else (spec_MazeAt.l0 k (wrap64 (x1 - t106)) (Go.bits .or .i64 x6 (shl .i64 1 x8)) x7 (wrap64 (x8 + 1)) x102000 x102001))) else (none)) else (some (x102000, x102001, x6, true)))
def spec_MazeAt.f (k : Nat) (a0_0 : Int) (a0_1 : Int) (a1 : Int) : Option (Int × Int × Int × Bool) := (spec_CountAll.f k a0_0 a0_1).bind fun t103 => ((spec_l01In.f a1 0 (wrap64 (t103 - 1))).bind fun t104 => (if t104 = true then (spec_MazeAt.l0 k a1 0 0 0 a0_0 a0_1) else (some (0, 0, 0, false))))
def spec_MazeAt.T8 : Bool × List (List Nat × List Nat) := (true, [([], []), ([], []), ([], []), ([], []), ([3], [3]), ([2, 4], [2, 4]), ([0, 1, 5], [0, 1, 5]), ([6, 6, 0, 1, 2, 3, 4, 5, 6], [6])])
def spec_MazeAt.B8 : List Nat := [0, 0, 0, 0, 8, 28, 63, 127]
theorem spec_MazeAt.tab8 : rtab .any (opsOf Try.f47 8) = spec_MazeAt.T8 := by kernel_rfl
theorem spec_MazeAt.bits8 : waitsOk spec_MazeAt.T8.2 spec_MazeAt.B8 = true := by kernel_rfl
set_option maxHeartbeats 8000000 in
set_option maxRecDepth 100000 in
theorem spec_MazeAt.calls (k : Nat) (a0_0 : Int) (a0_1 : Int) (a1 : Int) (r1 : Int) (r2 : Int) (r3 : Int) (r4 : Bool) (w : World) (h : spec_MazeAt.f k a0_0 a0_1 a1 = some (r1, r2, r3, r4)) :
    Calls Try.prog 47 #[.agg #[.int .i64 a0_0, .int .i64 a0_1], .int .i64 a1] w fun e w' => e = .returned (.tuple #[.agg #[.int .i64 r1, .int .i64 r2, .int .i64 r3], .bool r4]) ∧ Below w.heap.size w w' := by
  have hu40 := Try.underlying40
  have hu42 := Try.underlying42
  have HB := Aside0.mk (Below.refl w.heap.size w)
  have H : ((spec_CountAll.f k a0_0 a0_1).bind fun t103 => ((spec_l01In.f a1 0 (wrap64 (t103 - 1))).bind fun t104 => (if t104 = true then (spec_MazeAt.l0 k a1 0 0 0 a0_0 a0_1) else (some (0, 0, 0, false))))) = some (r1, r2, r3, r4) := h
  clear h
  obtain ⟨t103, A30, H⟩ := Option.bind_eq_some_iff.mp H
  (try dsimp only at H); have A3 := Aside0.mk A30; clear A30
  obtain ⟨t104, A40, H⟩ := Option.bind_eq_some_iff.mp H
  (try dsimp only at H); have A4 := Aside0.mk A40; clear A40
  by_cases c5 : t104 = true
  · subst c5
    rw [if_pos rfl] at H
    have H' := Aside0.mk H
    clear H
    go_enter Try.func47, Try.ntmps47
    go_wp2_with (first | ((with_reducible refine gate_dst (N := 2) rfl ?_); refine box_event ?hg (N := 2) ?hd (cs := #[.int .i64 a0_0, .int .i64 a0_1]) (t := 40) ?hr ?_; (case hd => rfl); (case hg => rfl); (case hr => (go_simp; done)); intro gb101 hg w6 hbox hb; have n0_ := Aside0.mk (below_step HB.out hb); have n1_ := Aside0.mk (hbox); have n2_ := Aside0.mk ((by rw [hg]; exact (below_size HB.out) : w.heap.size ≤ gb101)); have n3_ := Aside0.mk ((by rw [hg]; exact (below_size HB.out) : w.heap.size ≤ gb101)); clear HB; have HB := n0_; have BK101 := n1_; have GW101 := n2_; have GE101 := n3_; clear n0_ n1_ n2_ n3_; clear hb hbox hg) | ((with_reducible refine gate_dst (N := 4) rfl ?_); refine box_event ?hg (N := 4) ?hd (cs := #[.int .i64 0, .int .i64 0, .int .i64 0]) (t := 42) ?hr ?_; (case hd => rfl); (case hg => rfl); (case hr => (go_simp; done)); intro gb102 hg w7 hbox hb; have n0_ := Aside0.mk (blk_below (g := gb101) (o := .cells #[.int .i64 a0_0, .int .i64 a0_1] 40 (0, 0)) BK101.out hb); have n1_ := Aside0.mk (below_step HB.out hb); have n2_ := Aside0.mk (hbox); have n3_ := Aside0.mk ((by rw [hg]; exact (below_size HB.out) : w.heap.size ≤ gb102)); have n4_ := Aside0.mk ((by rw [hg]; exact (below_size HB.out) : w.heap.size ≤ gb102)); have n5_ := Aside0.mk ((by rw [hg]; exact Nat.ne_of_lt (blk_lt (g := gb101) (o := .cells #[.int .i64 a0_0, .int .i64 a0_1] 40 (0, 0)) BK101.out) : gb101 ≠ gb102)); have n6_ := Aside0.mk ((by rw [hg]; exact Nat.ne_of_gt (blk_lt (g := gb101) (o := .cells #[.int .i64 a0_0, .int .i64 a0_1] 40 (0, 0)) BK101.out) : gb102 ≠ gb101)); clear BK101; clear HB; have BK101 := n0_; have HB := n1_; have BK102 := n2_; have GW102 := n3_; have GE102 := n4_; have NB101_102 := n5_; have NB102_101 := n6_; clear n0_ n1_ n2_ n3_ n4_ n5_ n6_; clear hb hbox hg; have hnb8 := NB101_102.out; have hnc8 := NB102_101.out; obtain ⟨hcz9_0, hcz9_1⟩ := kk2_ BK101.1; have hfz9_0 := blk_frozen BK101.out 0; have hfz9_1 := blk_frozen BK101.out 1) | ((with_reducible refine gate_callee (f := 39) rfl ?_); refine goesL_ (some 12) rfl rfl Try.func39 (by kernel_rfl) rfl #[.agg #[.int .i64 a0_0, .int .i64 a0_1]] rfl (by (try simp only [List.map_toArray, List.map_cons, List.map_nil]); rfl) ?_; (with_reducible refine (spec_CountAll.calls k a0_0 a0_1 t103 _ A3.out).mono ?_); rintro e w10 ⟨rfl, hb⟩; refine ⟨_, rfl, ?_⟩; have n0_ := Aside0.mk (blk_below (g := gb101) (o := .cells #[.int .i64 a0_0, .int .i64 a0_1] 40 (0, 0)) BK101.out hb); have n1_ := Aside0.mk (blk_below (g := gb102) (o := .cells #[.int .i64 0, .int .i64 0, .int .i64 0] 42 (0, 0)) BK102.out hb); have n2_ := Aside0.mk (below_step HB.out hb); clear BK101; clear BK102; clear HB; have BK101 := n0_; have BK102 := n1_; have HB := n2_; clear n0_ n1_ n2_; (try clear hb); (try clear hb2); (try clear hk); (try clear hi)) | ((with_reducible refine gate_callee (f := 61) rfl ?_); refine goesL_ (some 14) rfl rfl Try.func61 (by kernel_rfl) rfl #[.int .i64 a1, .int .i64 0, .int .i64 (wrap64 (t103 - 1))] rfl (by (try simp only [List.map_toArray, List.map_cons, List.map_nil]); rfl) ?_; (with_reducible refine (spec_l01In.calls a1 0 (wrap64 (t103 - 1)) true _ A4.out).mono ?_); rintro e w' ⟨rfl, ⟨nd, rfl⟩⟩; refine ⟨_, rfl, ?_⟩))
    go_loopg [1, 6, 7, 8] k (fun kq v1 v6 v7 v8 w' => ∃ (x1_1 : Int) (x6_1 : Int) (x7_1 : Int) (x8_1 : Int), v1 = .int .i64 x1_1 ∧ v6 = .int .i64 x6_1 ∧ v7 = .int .i64 x7_1 ∧ v8 = .int .i64 x8_1 ∧ Aside0 (spec_MazeAt.l0 kq x1_1 x6_1 x7_1 x8_1 a0_0 a0_1 = some (r1, r2, r3, r4)) ∧ Aside0 (kq ≤ k) ∧ Aside0 (w'.heap[gb101]? = some (.cells #[.int .i64 a0_0, .int .i64 a0_1] 40 (0, 0))) ∧ Aside0 (w'.heap[gb102]? = some (.cells #[.int .i64 0, .int .i64 0, .int .i64 0] 42 (0, 0))) ∧ Aside0 (Below w.heap.size w w'))
    case atStart => exact ⟨(a1), (0), (0), (0), (by rfl), (by rfl), (by rfl), (by rfl), H', ⟨Nat.le_refl _⟩, ⟨by (with_reducible repeat (refine blk_drewN ?_ _)); exact BK101.out⟩, ⟨by (with_reducible repeat (refine blk_drewN ?_ _)); exact BK102.out⟩, ⟨by repeat ((with_reducible first | exact HB.out | apply pw_below_drewN))⟩⟩
    case round =>
      clear H'; try clear p2; try clear c3; try clear c4; try clear c5; try clear c6; try clear p6; try clear c8; try clear hcz9_0; try clear hcz9_1; try clear hfz9_0; try clear hfz9_1
      obtain ⟨x1_1, x6_1, x7_1, x8_1, rfl, rfl, rfl, rfl, HA, HK1, BK101, BK102, HB⟩ := hrel
      cases gk with
      | zero => exact absurd HA.out (by simp [spec_MazeAt.l0])
      | succ k1 =>
        have H := HA.out
        clear HA
        simp only [spec_MazeAt.l0] at H
        obtain ⟨t105, A110, H⟩ := Option.bind_eq_some_iff.mp H
        (try dsimp only at H); have A11 := Aside0.mk A110; clear A110
        by_cases c12 : x8_1 < t105
        · rw [if_pos c12] at H
          have c12b0 : decide (x8_1 < t105) = true := decide_eq_true c12
          clear c12
          replace H := iN_ H; obtain ⟨c13, H⟩ := H
          have c13b0 := eq_true c13
          have c13b1 : decide (0 ≤ x8_1) = true := decide_eq_true c13
          clear c13
          obtain ⟨ji14, hji14⟩ : ∃ j_ : Int, (shl .i64 1 x8_1) = j_ := ⟨_, rfl⟩
          replace H : ((spec_CountFixed.f k1 a0_0 a0_1 x6_1 (Go.bits .or .i64 x7_1 (ji14))).bind fun t106 => (if x1_1 < t106 then (spec_MazeAt.l0 k1 x1_1 x6_1 (Go.bits .or .i64 x7_1 (ji14)) (wrap64 (x8_1 + 1)) a0_0 a0_1) else (spec_MazeAt.l0 k1 (wrap64 (x1_1 - t106)) (Go.bits .or .i64 x6_1 (ji14)) x7_1 (wrap64 (x8_1 + 1)) a0_0 a0_1))) = some (r1, r2, r3, r4) := by (rw [hji14] at H; exact H)
          (try rw [hji14] at A11)
          have hji14_ : (IntKind.i64.wrap (1 * 2 ^ min x8_1.toNat 64)) = ji14 := hji14
          have hji14z : x8_1 ≤ 64 → (IntKind.i64.wrap (1 * 2 ^ x8_1.toNat)) = ji14 := shl_small hji14
          have hji14u : (IntKind.i64.wrap (2 ^ min x8_1.toNat 64)) = ji14 := by have h_ := hji14_; rw [Int.one_mul] at h_; exact h_
          have hji14v : x8_1 ≤ 64 → (IntKind.i64.wrap (2 ^ x8_1.toNat)) = ji14 := fun hle_ => by have h_ := hji14z hle_; rw [Int.one_mul] at h_; exact h_
          have hji14y : (wrap64 (1 * 2 ^ min x8_1.toNat 64)) = ji14 := (i64_w _).symm.trans hji14_
          have hji14x : x8_1 ≤ 64 → (wrap64 (1 * 2 ^ x8_1.toNat)) = ji14 := fun h_ => (i64_w _).symm.trans (hji14z h_)
          obtain ⟨t106, A150, H⟩ := Option.bind_eq_some_iff.mp H
          (try dsimp only at H); have A15 := Aside0.mk A150; clear A150
          by_cases c16 : x1_1 < t106
          · rw [if_pos c16] at H
            have c16b0 : decide (x1_1 < t106) = true := decide_eq_true c16
            clear c16
            have c17b0 := eq_true (of_decide_eq_true (by with_reducible assumption) : 0 ≤ x8_1)
            have H' := Aside0.mk H
            clear H
            have hnb18 := NB101_102.out
            have hnc18 := NB102_101.out
            obtain ⟨hcz19_0, hcz19_1⟩ := kk2_ BK101.1
            have hfz19_0 := blk_frozen BK101.out 0
            have hfz19_1 := blk_frozen BK101.out 1
            try go_wp2_with (((with_reducible refine gate_callee (f := 32) rfl ?_); refine goesL_ (some 19) rfl rfl Try.func32 (by kernel_rfl) rfl #[.agg #[.int .i64 a0_0, .int .i64 a0_1]] rfl (by (try simp only [List.map_toArray, List.map_cons, List.map_nil]); rfl) ?_; (with_reducible refine (spec_CountGaps.calls a0_0 a0_1 t105 _ A11.out).mono ?_); rintro e w20 ⟨rfl, hb⟩; refine ⟨_, rfl, ?_⟩; have n0_ := Aside0.mk (blk_below (g := gb101) (o := .cells #[.int .i64 a0_0, .int .i64 a0_1] 40 (0, 0)) BK101.out hb); have n1_ := Aside0.mk (blk_below (g := gb102) (o := .cells #[.int .i64 0, .int .i64 0, .int .i64 0] 42 (0, 0)) BK102.out hb); have n2_ := Aside0.mk (below_step HB.out hb); clear BK101; clear BK102; clear HB; have BK101 := n0_; have BK102 := n1_; have HB := n2_; clear n0_ n1_ n2_; (try clear hb); (try clear hb2); (try clear hk); (try clear hi)))
            have n0_ := Aside0.mk (blk_drew BK101.out); have n1_ := Aside0.mk (blk_drew BK102.out); have n2_ := Aside0.mk (below_drew1 HB.out); clear BK101; clear BK102; clear HB; have BK101 := n0_; have BK102 := n1_; have HB := n2_; clear n0_ n1_ n2_
            refine start_ (n := 8) (S := fun w' => w'.cell? ⟨gb101, 0, none⟩ = some (.int .i64 a0_0) ∧ w'.cell? ⟨gb101, 1, none⟩ = some (.int .i64 a0_1)) (ds := []) #[false, false, false, false, false, false, false, false] (by kernel_rfl) rfl rfl ⟨(blk_cell BK101.out 0).trans rfl, (blk_cell BK101.out 1).trans rfl⟩ (fun hHeld => ?_); refine with_tabW spec_MazeAt.tab8 spec_MazeAt.bits8 (fun HT_ HW_ => ?_)
            generalize w20.drew = w21 at BK101 BK102 HB hHeld ⊢
            refine pu_ (v := ?_) (a' := ?_) 1 (some 24) rfl rfl HT_ (by kernel_rfl) (.inl ⟨by rfl, ?_⟩) ?_ ?_; rotate_left 2; (intro w'; go_simp; with_reducible rfl); (simp only [P6_]; rfl)
            refine pu_ (v := ?_) (a' := ?_) 2 (some 25) rfl rfl HT_ (by kernel_rfl) (.inl ⟨by rfl, ?_⟩) ?_ ?_; rotate_left 2; (intro w'; go_simp; with_reducible rfl); (simp only [P6_]; rfl)
            refine pu_ (v := ?_) (a' := ?_) 3 (some 26) rfl rfl HT_ (by kernel_rfl) (.inl ⟨by rfl, ?_⟩) ?_ ?_; rotate_left 2; (intro w'; go_simp; with_reducible rfl); (simp only [P6_]; rfl)
            refine pu_ (v := ?_) (a' := ?_) 4 (some 27) rfl rfl HT_ (by kernel_rfl) (.inl ⟨by rfl, ?_⟩) ?_ ?_; rotate_left 2; (intro w'; go_simp; with_reducible rfl); (simp only [P6_]; rfl)
            refine pu_ (v := ?_) (a' := ?_) 5 (some 28) rfl rfl HT_ (by kernel_rfl) (.inl ⟨by rfl, ?_⟩) ?_ ?_; rotate_left 2; (intro w'; go_simp; with_reducible rfl); (simp only [P6_]; rfl)
            refine ta_ (v := ?_) (a' := ?_) 0 (some 23) rfl rfl HT_ HW_ (by kernel_rfl) (.inl ⟨by rfl, ?_⟩) hHeld ?_ ?_; rotate_left 2; (rintro w' ⟨s0, s1⟩; go_simp; with_reducible rfl); (simp only [P6_]; rfl)
            refine on_ 6 (some 29) rfl rfl HT_ (by kernel_rfl) (by decide) (fun K hK => ?_)
            refine goes_ Try.func37 (by kernel_rfl) rfl #[.agg #[.int .i64 a0_0, .int .i64 a0_1], .int .i64 x6_1, .int .i64 (Go.bits .or .i64 x7_1 (ji14))] (by rfl) rfl rfl (by (try simp only [List.map_toArray, List.map_cons, List.map_nil]); rfl) ?_
            with_reducible refine (spec_CountFixed.calls k1 a0_0 a0_1 x6_1 (Go.bits .or .i64 x7_1 (ji14)) t106 _ A15.out).mono ?_
            rintro e w22 ⟨rfl, hb⟩
            refine ⟨_, rfl, ?_⟩
            have n0_ := Aside0.mk (blk_below (g := gb101) (o := .cells #[.int .i64 a0_0, .int .i64 a0_1] 40 (0, 0)) BK101.out hb)
            have n1_ := Aside0.mk (blk_below (g := gb102) (o := .cells #[.int .i64 0, .int .i64 0, .int .i64 0] 42 (0, 0)) BK102.out hb)
            have n2_ := Aside0.mk (below_step HB.out hb)
            clear BK101; clear BK102; clear HB; have BK101 := n0_; have BK102 := n1_; have HB := n2_; clear n0_ n1_ n2_; (try clear hb); (try clear hb2); (try clear hk); (try clear hi)
            refine hK.out _ _ ⟨(blk_cell BK101.out 0).trans rfl, (blk_cell BK101.out 1).trans rfl⟩ (fun hHeld => ?_)
            clear hK K
            refine norm_ (a' := ?_) ?_ ?_; rotate_left; (show Act.put _ (some 29) _ = _; simp only [P6_]; rfl)
            refine pu_ (v := ?_) (a' := ?_) 7 (some 9) rfl rfl HT_ (by kernel_rfl) (.inl ⟨by rfl, ?_⟩) ?_ ?_; rotate_left 2; (intro w'; go_simp; with_reducible rfl); (simp only [P6_]; rfl)
            refine done_ (done_of HT_.out (by kernel_rfl)) ?_
            try go_wp2
            go_roundg k1
            case measure => have := HK1.out; omega
            case rel => exact ⟨(x1_1), (x6_1), (Go.bits .or .i64 x7_1 (ji14)), (wrap64 (x8_1 + 1)), (by rfl), (by rfl), (by rfl), (by rfl), H', ⟨by have := HK1.out; omega⟩, ⟨by exact BK101.out⟩, ⟨by exact BK102.out⟩, ⟨by repeat ((with_reducible exact HB.out))⟩⟩
          · rw [if_neg c16] at H
            have c16b0 : decide (x1_1 < t106) = false := decide_eq_false c16
            clear c16
            have c23b0 := eq_true (of_decide_eq_true (by with_reducible assumption) : 0 ≤ x8_1)
            have H' := Aside0.mk H
            clear H
            have hnb24 := NB101_102.out
            have hnc24 := NB102_101.out
            obtain ⟨hcz25_0, hcz25_1⟩ := kk2_ BK101.1
            have hfz25_0 := blk_frozen BK101.out 0
            have hfz25_1 := blk_frozen BK101.out 1
            try go_wp2_with (((with_reducible refine gate_callee (f := 32) rfl ?_); refine goesL_ (some 19) rfl rfl Try.func32 (by kernel_rfl) rfl #[.agg #[.int .i64 a0_0, .int .i64 a0_1]] rfl (by (try simp only [List.map_toArray, List.map_cons, List.map_nil]); rfl) ?_; (with_reducible refine (spec_CountGaps.calls a0_0 a0_1 t105 _ A11.out).mono ?_); rintro e w26 ⟨rfl, hb⟩; refine ⟨_, rfl, ?_⟩; have n0_ := Aside0.mk (blk_below (g := gb101) (o := .cells #[.int .i64 a0_0, .int .i64 a0_1] 40 (0, 0)) BK101.out hb); have n1_ := Aside0.mk (blk_below (g := gb102) (o := .cells #[.int .i64 0, .int .i64 0, .int .i64 0] 42 (0, 0)) BK102.out hb); have n2_ := Aside0.mk (below_step HB.out hb); clear BK101; clear BK102; clear HB; have BK101 := n0_; have BK102 := n1_; have HB := n2_; clear n0_ n1_ n2_; (try clear hb); (try clear hb2); (try clear hk); (try clear hi)))
            have n0_ := Aside0.mk (blk_drew BK101.out); have n1_ := Aside0.mk (blk_drew BK102.out); have n2_ := Aside0.mk (below_drew1 HB.out); clear BK101; clear BK102; clear HB; have BK101 := n0_; have BK102 := n1_; have HB := n2_; clear n0_ n1_ n2_
            refine start_ (n := 8) (S := fun w' => w'.cell? ⟨gb101, 0, none⟩ = some (.int .i64 a0_0) ∧ w'.cell? ⟨gb101, 1, none⟩ = some (.int .i64 a0_1)) (ds := []) #[false, false, false, false, false, false, false, false] (by kernel_rfl) rfl rfl ⟨(blk_cell BK101.out 0).trans rfl, (blk_cell BK101.out 1).trans rfl⟩ (fun hHeld => ?_); refine with_tabW spec_MazeAt.tab8 spec_MazeAt.bits8 (fun HT_ HW_ => ?_)
            generalize w26.drew = w27 at BK101 BK102 HB hHeld ⊢
            refine pu_ (v := ?_) (a' := ?_) 1 (some 24) rfl rfl HT_ (by kernel_rfl) (.inl ⟨by rfl, ?_⟩) ?_ ?_; rotate_left 2; (intro w'; go_simp; with_reducible rfl); (simp only [P6_]; rfl)
            refine pu_ (v := ?_) (a' := ?_) 2 (some 25) rfl rfl HT_ (by kernel_rfl) (.inl ⟨by rfl, ?_⟩) ?_ ?_; rotate_left 2; (intro w'; go_simp; with_reducible rfl); (simp only [P6_]; rfl)
            refine pu_ (v := ?_) (a' := ?_) 3 (some 26) rfl rfl HT_ (by kernel_rfl) (.inl ⟨by rfl, ?_⟩) ?_ ?_; rotate_left 2; (intro w'; go_simp; with_reducible rfl); (simp only [P6_]; rfl)
            refine pu_ (v := ?_) (a' := ?_) 4 (some 27) rfl rfl HT_ (by kernel_rfl) (.inl ⟨by rfl, ?_⟩) ?_ ?_; rotate_left 2; (intro w'; go_simp; with_reducible rfl); (simp only [P6_]; rfl)
            refine pu_ (v := ?_) (a' := ?_) 5 (some 28) rfl rfl HT_ (by kernel_rfl) (.inl ⟨by rfl, ?_⟩) ?_ ?_; rotate_left 2; (intro w'; go_simp; with_reducible rfl); (simp only [P6_]; rfl)
            refine ta_ (v := ?_) (a' := ?_) 0 (some 23) rfl rfl HT_ HW_ (by kernel_rfl) (.inl ⟨by rfl, ?_⟩) hHeld ?_ ?_; rotate_left 2; (rintro w' ⟨s0, s1⟩; go_simp; with_reducible rfl); (simp only [P6_]; rfl)
            refine on_ 6 (some 29) rfl rfl HT_ (by kernel_rfl) (by decide) (fun K hK => ?_)
            refine goes_ Try.func37 (by kernel_rfl) rfl #[.agg #[.int .i64 a0_0, .int .i64 a0_1], .int .i64 x6_1, .int .i64 (Go.bits .or .i64 x7_1 (ji14))] (by rfl) rfl rfl (by (try simp only [List.map_toArray, List.map_cons, List.map_nil]); rfl) ?_
            with_reducible refine (spec_CountFixed.calls k1 a0_0 a0_1 x6_1 (Go.bits .or .i64 x7_1 (ji14)) t106 _ A15.out).mono ?_
            rintro e w28 ⟨rfl, hb⟩
            refine ⟨_, rfl, ?_⟩
            have n0_ := Aside0.mk (blk_below (g := gb101) (o := .cells #[.int .i64 a0_0, .int .i64 a0_1] 40 (0, 0)) BK101.out hb)
            have n1_ := Aside0.mk (blk_below (g := gb102) (o := .cells #[.int .i64 0, .int .i64 0, .int .i64 0] 42 (0, 0)) BK102.out hb)
            have n2_ := Aside0.mk (below_step HB.out hb)
            clear BK101; clear BK102; clear HB; have BK101 := n0_; have BK102 := n1_; have HB := n2_; clear n0_ n1_ n2_; (try clear hb); (try clear hb2); (try clear hk); (try clear hi)
            refine hK.out _ _ ⟨(blk_cell BK101.out 0).trans rfl, (blk_cell BK101.out 1).trans rfl⟩ (fun hHeld => ?_)
            clear hK K
            refine norm_ (a' := ?_) ?_ ?_; rotate_left; (show Act.put _ (some 29) _ = _; simp only [P6_]; rfl)
            refine pu_ (v := ?_) (a' := ?_) 7 (some 9) rfl rfl HT_ (by kernel_rfl) (.inl ⟨by rfl, ?_⟩) ?_ ?_; rotate_left 2; (intro w'; go_simp; with_reducible rfl); (simp only [P6_]; rfl)
            refine done_ (done_of HT_.out (by kernel_rfl)) ?_
            try go_wp2
            go_roundg k1
            case measure => have := HK1.out; omega
            case rel => exact ⟨(wrap64 (x1_1 - t106)), (Go.bits .or .i64 x6_1 (ji14)), (x7_1), (wrap64 (x8_1 + 1)), (by rfl), (by rfl), (by rfl), (by rfl), H', ⟨by have := HK1.out; omega⟩, ⟨by exact BK101.out⟩, ⟨by exact BK102.out⟩, ⟨by repeat ((with_reducible exact HB.out))⟩⟩
        · rw [if_neg c12] at H
          have c12b0 : decide (x8_1 < t105) = false := decide_eq_false c12
          clear c12
          simp only [Option.some.injEq, Prod.mk.injEq] at H
          obtain ⟨rfl, rfl, rfl, rfl⟩ := H
          have hnb29 := NB101_102.out
          have hnc29 := NB102_101.out
          obtain ⟨hcz30_0, hcz30_1⟩ := kk2_ BK101.1
          have hfz30_0 := blk_frozen BK101.out 0
          have hfz30_1 := blk_frozen BK101.out 1
          go_wp2_with (((with_reducible refine gate_callee (f := 32) rfl ?_); refine goesL_ (some 19) rfl rfl Try.func32 (by kernel_rfl) rfl #[.agg #[.int .i64 a0_0, .int .i64 a0_1]] rfl (by (try simp only [List.map_toArray, List.map_cons, List.map_nil]); rfl) ?_; (with_reducible refine (spec_CountGaps.calls a0_0 a0_1 t105 _ A11.out).mono ?_); rintro e w31 ⟨rfl, hb⟩; refine ⟨_, rfl, ?_⟩; have n0_ := Aside0.mk (blk_below (g := gb101) (o := .cells #[.int .i64 a0_0, .int .i64 a0_1] 40 (0, 0)) BK101.out hb); have n1_ := Aside0.mk (blk_below (g := gb102) (o := .cells #[.int .i64 0, .int .i64 0, .int .i64 0] 42 (0, 0)) BK102.out hb); have n2_ := Aside0.mk (below_step HB.out hb); clear BK101; clear BK102; clear HB; have BK101 := n0_; have BK102 := n1_; have HB := n2_; clear n0_ n1_ n2_; (try clear hb); (try clear hb2); (try clear hk); (try clear hi); obtain ⟨hcz32_0, hcz32_1⟩ := kk2_ BK101.1; have hfz32_0 := blk_frozen BK101.out 0; have hfz32_1 := blk_frozen BK101.out 1; obtain ⟨hcz33_0, hcz33_1, hcz33_2⟩ := kk3_ BK102.1; have hfz33_0 := blk_frozen BK102.out 0; have hfz33_1 := blk_frozen BK102.out 1; have hfz33_2 := blk_frozen BK102.out 2))
          refine bodyPost_ret (results_ct rfl _ _ gb102 42 #[.int .i64 a0_0, .int .i64 a0_1, .int .i64 x6_1] (0, 0) _ rfl (by refine blk_put (cs := #[.int .i64 a0_0, .int .i64 a0_1, .int .i64 0]) ?_ 2 _ rfl; refine blk_put (cs := #[.int .i64 a0_0, .int .i64 0, .int .i64 0]) ?_ 1 _ rfl; refine blk_put (cs := #[.int .i64 0, .int .i64 0, .int .i64 0]) ?_ 0 _ rfl; exact BK102.out) Try.underlying42 rfl (by kernel_rfl)) rfl ?_
          exact ⟨by rfl, by repeat ((with_reducible first | exact HB.out | refine below_set ?_ GE102.out))⟩
  · replace c5 := Bool.eq_false_iff.mpr c5
    subst c5
    have H1 : (some (0, 0, 0, false)) = some (r1, r2, r3, r4) := by rw [if_neg (show ¬ (false = true) by decide)] at H; exact H
    clear H
    have H := H1
    clear H1
    simp only [Option.some.injEq, Prod.mk.injEq] at H
    obtain ⟨rfl, rfl, rfl, rfl⟩ := H
    go_enter Try.func47, Try.ntmps47
    go_wp2_with (first | ((with_reducible refine gate_dst (N := 2) rfl ?_); refine box_event ?hg (N := 2) ?hd (cs := #[.int .i64 a0_0, .int .i64 a0_1]) (t := 40) ?hr ?_; (case hd => rfl); (case hg => rfl); (case hr => (go_simp; done)); intro gb101 hg w34 hbox hb; have n0_ := Aside0.mk (below_step HB.out hb); have n1_ := Aside0.mk (hbox); have n2_ := Aside0.mk ((by rw [hg]; exact (below_size HB.out) : w.heap.size ≤ gb101)); have n3_ := Aside0.mk ((by rw [hg]; exact (below_size HB.out) : w.heap.size ≤ gb101)); clear HB; have HB := n0_; have BK101 := n1_; have GW101 := n2_; have GE101 := n3_; clear n0_ n1_ n2_ n3_; clear hb hbox hg) | ((with_reducible refine gate_dst (N := 4) rfl ?_); refine box_event ?hg (N := 4) ?hd (cs := #[.int .i64 0, .int .i64 0, .int .i64 0]) (t := 42) ?hr ?_; (case hd => rfl); (case hg => rfl); (case hr => (go_simp; done)); intro gb102 hg w35 hbox hb; have n0_ := Aside0.mk (blk_below (g := gb101) (o := .cells #[.int .i64 a0_0, .int .i64 a0_1] 40 (0, 0)) BK101.out hb); have n1_ := Aside0.mk (below_step HB.out hb); have n2_ := Aside0.mk (hbox); have n3_ := Aside0.mk ((by rw [hg]; exact (below_size HB.out) : w.heap.size ≤ gb102)); have n4_ := Aside0.mk ((by rw [hg]; exact (below_size HB.out) : w.heap.size ≤ gb102)); have n5_ := Aside0.mk ((by rw [hg]; exact Nat.ne_of_lt (blk_lt (g := gb101) (o := .cells #[.int .i64 a0_0, .int .i64 a0_1] 40 (0, 0)) BK101.out) : gb101 ≠ gb102)); have n6_ := Aside0.mk ((by rw [hg]; exact Nat.ne_of_gt (blk_lt (g := gb101) (o := .cells #[.int .i64 a0_0, .int .i64 a0_1] 40 (0, 0)) BK101.out) : gb102 ≠ gb101)); clear BK101; clear HB; have BK101 := n0_; have HB := n1_; have BK102 := n2_; have GW102 := n3_; have GE102 := n4_; have NB101_102 := n5_; have NB102_101 := n6_; clear n0_ n1_ n2_ n3_ n4_ n5_ n6_; clear hb hbox hg; have hnb36 := NB101_102.out; have hnc36 := NB102_101.out; obtain ⟨hcz37_0, hcz37_1⟩ := kk2_ BK101.1; have hfz37_0 := blk_frozen BK101.out 0; have hfz37_1 := blk_frozen BK101.out 1) | ((with_reducible refine gate_callee (f := 39) rfl ?_); refine goesL_ (some 12) rfl rfl Try.func39 (by kernel_rfl) rfl #[.agg #[.int .i64 a0_0, .int .i64 a0_1]] rfl (by (try simp only [List.map_toArray, List.map_cons, List.map_nil]); rfl) ?_; (with_reducible refine (spec_CountAll.calls k a0_0 a0_1 t103 _ A3.out).mono ?_); rintro e w38 ⟨rfl, hb⟩; refine ⟨_, rfl, ?_⟩; have n0_ := Aside0.mk (blk_below (g := gb101) (o := .cells #[.int .i64 a0_0, .int .i64 a0_1] 40 (0, 0)) BK101.out hb); have n1_ := Aside0.mk (blk_below (g := gb102) (o := .cells #[.int .i64 0, .int .i64 0, .int .i64 0] 42 (0, 0)) BK102.out hb); have n2_ := Aside0.mk (below_step HB.out hb); clear BK101; clear BK102; clear HB; have BK101 := n0_; have BK102 := n1_; have HB := n2_; clear n0_ n1_ n2_; (try clear hb); (try clear hb2); (try clear hk); (try clear hi)) | ((with_reducible refine gate_callee (f := 61) rfl ?_); refine goesL_ (some 14) rfl rfl Try.func61 (by kernel_rfl) rfl #[.int .i64 a1, .int .i64 0, .int .i64 (wrap64 (t103 - 1))] rfl (by (try simp only [List.map_toArray, List.map_cons, List.map_nil]); rfl) ?_; (with_reducible refine (spec_l01In.calls a1 0 (wrap64 (t103 - 1)) false _ A4.out).mono ?_); rintro e w' ⟨rfl, ⟨nd, rfl⟩⟩; refine ⟨_, rfl, ?_⟩; (try (rw [drewN_self w38]; generalize hq_ : World.drewN w38 _ = w38; have n0_ : Aside0 (w38.heap[gb101]? = some (.cells #[.int .i64 a0_0, .int .i64 a0_1] 40 (0, 0))) := ⟨by rw [← hq_]; exact (by (with_reducible repeat (refine blk_drewN ?_ _)); exact BK101.out)⟩; have n1_ : Aside0 (w38.heap[gb102]? = some (.cells #[.int .i64 0, .int .i64 0, .int .i64 0] 42 (0, 0))) := ⟨by rw [← hq_]; exact (by (with_reducible repeat (refine blk_drewN ?_ _)); exact BK102.out)⟩; have n2_ : Aside0 (Below w.heap.size w w38) := ⟨by rw [← hq_]; exact (by repeat ((with_reducible first | exact HB.out | apply pw_below_drewN)))⟩; clear BK101 BK102 HB hq_; have BK101 := n0_; have BK102 := n1_; have HB := n2_; clear n0_ n1_ n2_)); obtain ⟨hcz39_0, hcz39_1, hcz39_2⟩ := kk3_ BK102.1; have hfz39_0 := blk_frozen BK102.out 0; have hfz39_1 := blk_frozen BK102.out 1; have hfz39_2 := blk_frozen BK102.out 2))
    refine bodyPost_ret (results_ct rfl _ _ gb102 42 #[.int .i64 0, .int .i64 0, .int .i64 0] (0, 0) _ rfl (by refine blk_put (cs := #[.int .i64 0, .int .i64 0, .int .i64 0]) ?_ 2 _ rfl; refine blk_put (cs := #[.int .i64 0, .int .i64 0, .int .i64 0]) ?_ 1 _ rfl; refine blk_put (cs := #[.int .i64 0, .int .i64 0, .int .i64 0]) ?_ 0 _ rfl; exact BK102.out) Try.underlying42 rfl (by kernel_rfl)) rfl ?_
    exact ⟨by rfl, by repeat ((with_reducible first | exact HB.out | refine below_set ?_ GE102.out))⟩

/-! ### laws_eqGrid: function 89 -/
def laws_eqGrid.f (a0_0 : Int) (a0_1 : Int) (a1_0 : Int) (a1_1 : Int) : Option (Bool) := if a0_0 = a1_0 then (if a0_1 = a1_1 then (some true) else (some false)) else (some false)
set_option maxHeartbeats 8000000 in
set_option maxRecDepth 100000 in
theorem laws_eqGrid.calls (a0_0 : Int) (a0_1 : Int) (a1_0 : Int) (a1_1 : Int) (r : Bool) (w : World) (h : laws_eqGrid.f a0_0 a0_1 a1_0 a1_1 = some r) :
    Calls Try.prog 89 #[.agg #[.int .i64 a0_0, .int .i64 a0_1], .agg #[.int .i64 a1_0, .int .i64 a1_1]] w fun e w' => e = .returned (.bool r) ∧ Below w.heap.size w w' := by
  have hu40 := Try.underlying40
  have HB := Aside0.mk (Below.refl w.heap.size w)
  have H : (if a0_0 = a1_0 then (if a0_1 = a1_1 then (some true) else (some false)) else (some false)) = some r := h
  clear h
  by_cases c3 : a0_0 = a1_0
  · rw [if_pos c3] at H
    have c3b0 : (a0_0 == a1_0) = true := beq_iff_eq.mpr c3
    have c3b1 : (a0_0 != a1_0) = false := bne_eq_false_iff_eq.mpr c3
    clear c3
    by_cases c4 : a0_1 = a1_1
    · rw [if_pos c4] at H
      have c4b0 : (a0_1 == a1_1) = true := beq_iff_eq.mpr c4
      have c4b1 : (a0_1 != a1_1) = false := bne_eq_false_iff_eq.mpr c4
      clear c4
      obtain rfl := Option.some.inj H
      go_enter Try.func89, Try.ntmps89
      go_wp2_with (first | ((with_reducible refine gate_dst (N := 2) rfl ?_); refine box_event ?hg (N := 2) ?hd (cs := #[.int .i64 a0_0, .int .i64 a0_1]) (t := 40) ?hr ?_; (case hd => rfl); (case hg => rfl); (case hr => (go_simp; done)); intro gb101 hg w5 hbox hb; have n0_ := Aside0.mk (below_step HB.out hb); have n1_ := Aside0.mk (hbox); have n2_ := Aside0.mk ((by rw [hg]; exact (below_size HB.out) : w.heap.size ≤ gb101)); have n3_ := Aside0.mk ((by rw [hg]; exact (below_size HB.out) : w.heap.size ≤ gb101)); clear HB; have HB := n0_; have BK101 := n1_; have GW101 := n2_; have GE101 := n3_; clear n0_ n1_ n2_ n3_; clear hb hbox hg) | ((with_reducible refine gate_dst (N := 3) rfl ?_); refine box_event ?hg (N := 3) ?hd (cs := #[.int .i64 a1_0, .int .i64 a1_1]) (t := 40) ?hr ?_; (case hd => rfl); (case hg => rfl); (case hr => (go_simp; done)); intro gb102 hg w6 hbox hb; have n0_ := Aside0.mk (blk_below (g := gb101) (o := .cells #[.int .i64 a0_0, .int .i64 a0_1] 40 (0, 0)) BK101.out hb); have n1_ := Aside0.mk (below_step HB.out hb); have n2_ := Aside0.mk (hbox); have n3_ := Aside0.mk ((by rw [hg]; exact (below_size HB.out) : w.heap.size ≤ gb102)); have n4_ := Aside0.mk ((by rw [hg]; exact (below_size HB.out) : w.heap.size ≤ gb102)); have n5_ := Aside0.mk ((by rw [hg]; exact Nat.ne_of_lt (blk_lt (g := gb101) (o := .cells #[.int .i64 a0_0, .int .i64 a0_1] 40 (0, 0)) BK101.out) : gb101 ≠ gb102)); have n6_ := Aside0.mk ((by rw [hg]; exact Nat.ne_of_gt (blk_lt (g := gb101) (o := .cells #[.int .i64 a0_0, .int .i64 a0_1] 40 (0, 0)) BK101.out) : gb102 ≠ gb101)); clear BK101; clear HB; have BK101 := n0_; have HB := n1_; have BK102 := n2_; have GW102 := n3_; have GE102 := n4_; have NB101_102 := n5_; have NB102_101 := n6_; clear n0_ n1_ n2_ n3_ n4_ n5_ n6_; clear hb hbox hg; have hnb7 := NB101_102.out; have hnc7 := NB102_101.out; obtain ⟨hcz8_0, hcz8_1⟩ := kk2_ BK101.1; have hfz8_0 := blk_frozen BK101.out 0; have hfz8_1 := blk_frozen BK101.out 1; obtain ⟨hcz9_0, hcz9_1⟩ := kk2_ BK102.1; have hfz9_0 := blk_frozen BK102.out 0; have hfz9_1 := blk_frozen BK102.out 1))
      go_ret
      exact ⟨by rfl, by repeat ((with_reducible exact HB.out))⟩
    · rw [if_neg c4] at H
      have c4b0 : (a0_1 == a1_1) = false := beq_eq_false_iff_ne.mpr c4
      have c4b1 : (a0_1 != a1_1) = true := bne_iff_ne.mpr c4
      obtain rfl := Option.some.inj H
      go_enter Try.func89, Try.ntmps89
      go_wp2_with (first | ((with_reducible refine gate_dst (N := 2) rfl ?_); refine box_event ?hg (N := 2) ?hd (cs := #[.int .i64 a0_0, .int .i64 a0_1]) (t := 40) ?hr ?_; (case hd => rfl); (case hg => rfl); (case hr => (go_simp; done)); intro gb101 hg w10 hbox hb; have n0_ := Aside0.mk (below_step HB.out hb); have n1_ := Aside0.mk (hbox); have n2_ := Aside0.mk ((by rw [hg]; exact (below_size HB.out) : w.heap.size ≤ gb101)); have n3_ := Aside0.mk ((by rw [hg]; exact (below_size HB.out) : w.heap.size ≤ gb101)); clear HB; have HB := n0_; have BK101 := n1_; have GW101 := n2_; have GE101 := n3_; clear n0_ n1_ n2_ n3_; clear hb hbox hg) | ((with_reducible refine gate_dst (N := 3) rfl ?_); refine box_event ?hg (N := 3) ?hd (cs := #[.int .i64 a1_0, .int .i64 a1_1]) (t := 40) ?hr ?_; (case hd => rfl); (case hg => rfl); (case hr => (go_simp; done)); intro gb102 hg w11 hbox hb; have n0_ := Aside0.mk (blk_below (g := gb101) (o := .cells #[.int .i64 a0_0, .int .i64 a0_1] 40 (0, 0)) BK101.out hb); have n1_ := Aside0.mk (below_step HB.out hb); have n2_ := Aside0.mk (hbox); have n3_ := Aside0.mk ((by rw [hg]; exact (below_size HB.out) : w.heap.size ≤ gb102)); have n4_ := Aside0.mk ((by rw [hg]; exact (below_size HB.out) : w.heap.size ≤ gb102)); have n5_ := Aside0.mk ((by rw [hg]; exact Nat.ne_of_lt (blk_lt (g := gb101) (o := .cells #[.int .i64 a0_0, .int .i64 a0_1] 40 (0, 0)) BK101.out) : gb101 ≠ gb102)); have n6_ := Aside0.mk ((by rw [hg]; exact Nat.ne_of_gt (blk_lt (g := gb101) (o := .cells #[.int .i64 a0_0, .int .i64 a0_1] 40 (0, 0)) BK101.out) : gb102 ≠ gb101)); clear BK101; clear HB; have BK101 := n0_; have HB := n1_; have BK102 := n2_; have GW102 := n3_; have GE102 := n4_; have NB101_102 := n5_; have NB102_101 := n6_; clear n0_ n1_ n2_ n3_ n4_ n5_ n6_; clear hb hbox hg; have hnb12 := NB101_102.out; have hnc12 := NB102_101.out; obtain ⟨hcz13_0, hcz13_1⟩ := kk2_ BK101.1; have hfz13_0 := blk_frozen BK101.out 0; have hfz13_1 := blk_frozen BK101.out 1; obtain ⟨hcz14_0, hcz14_1⟩ := kk2_ BK102.1; have hfz14_0 := blk_frozen BK102.out 0; have hfz14_1 := blk_frozen BK102.out 1))
      go_ret
      exact ⟨by rfl, by repeat ((with_reducible exact HB.out))⟩
  · rw [if_neg c3] at H
    have c3b0 : (a0_0 == a1_0) = false := beq_eq_false_iff_ne.mpr c3
    have c3b1 : (a0_0 != a1_0) = true := bne_iff_ne.mpr c3
    obtain rfl := Option.some.inj H
    go_enter Try.func89, Try.ntmps89
    go_wp2_with (first | ((with_reducible refine gate_dst (N := 2) rfl ?_); refine box_event ?hg (N := 2) ?hd (cs := #[.int .i64 a0_0, .int .i64 a0_1]) (t := 40) ?hr ?_; (case hd => rfl); (case hg => rfl); (case hr => (go_simp; done)); intro gb101 hg w15 hbox hb; have n0_ := Aside0.mk (below_step HB.out hb); have n1_ := Aside0.mk (hbox); have n2_ := Aside0.mk ((by rw [hg]; exact (below_size HB.out) : w.heap.size ≤ gb101)); have n3_ := Aside0.mk ((by rw [hg]; exact (below_size HB.out) : w.heap.size ≤ gb101)); clear HB; have HB := n0_; have BK101 := n1_; have GW101 := n2_; have GE101 := n3_; clear n0_ n1_ n2_ n3_; clear hb hbox hg) | ((with_reducible refine gate_dst (N := 3) rfl ?_); refine box_event ?hg (N := 3) ?hd (cs := #[.int .i64 a1_0, .int .i64 a1_1]) (t := 40) ?hr ?_; (case hd => rfl); (case hg => rfl); (case hr => (go_simp; done)); intro gb102 hg w16 hbox hb; have n0_ := Aside0.mk (blk_below (g := gb101) (o := .cells #[.int .i64 a0_0, .int .i64 a0_1] 40 (0, 0)) BK101.out hb); have n1_ := Aside0.mk (below_step HB.out hb); have n2_ := Aside0.mk (hbox); have n3_ := Aside0.mk ((by rw [hg]; exact (below_size HB.out) : w.heap.size ≤ gb102)); have n4_ := Aside0.mk ((by rw [hg]; exact (below_size HB.out) : w.heap.size ≤ gb102)); have n5_ := Aside0.mk ((by rw [hg]; exact Nat.ne_of_lt (blk_lt (g := gb101) (o := .cells #[.int .i64 a0_0, .int .i64 a0_1] 40 (0, 0)) BK101.out) : gb101 ≠ gb102)); have n6_ := Aside0.mk ((by rw [hg]; exact Nat.ne_of_gt (blk_lt (g := gb101) (o := .cells #[.int .i64 a0_0, .int .i64 a0_1] 40 (0, 0)) BK101.out) : gb102 ≠ gb101)); clear BK101; clear HB; have BK101 := n0_; have HB := n1_; have BK102 := n2_; have GW102 := n3_; have GE102 := n4_; have NB101_102 := n5_; have NB102_101 := n6_; clear n0_ n1_ n2_ n3_ n4_ n5_ n6_; clear hb hbox hg; have hnb17 := NB101_102.out; have hnc17 := NB102_101.out; obtain ⟨hcz18_0, hcz18_1⟩ := kk2_ BK101.1; have hfz18_0 := blk_frozen BK101.out 0; have hfz18_1 := blk_frozen BK101.out 1; obtain ⟨hcz19_0, hcz19_1⟩ := kk2_ BK102.1; have hfz19_0 := blk_frozen BK102.out 0; have hfz19_1 := blk_frozen BK102.out 1))
    go_ret
    exact ⟨by rfl, by repeat ((with_reducible exact HB.out))⟩

/-! ### laws_eqMaze: function 48 -/
def laws_eqMaze.f (a0_0 : Int) (a0_1 : Int) (a0_2 : Int) (a1_0 : Int) (a1_1 : Int) (a1_2 : Int) : Option (Bool) := (laws_eqGrid.f a0_0 a0_1 a1_0 a1_1).bind fun t103 => (if t103 = true then (if a0_2 = a1_2 then (some true) else (some false)) else (some false))
set_option maxHeartbeats 8000000 in
set_option maxRecDepth 100000 in
theorem laws_eqMaze.calls (a0_0 : Int) (a0_1 : Int) (a0_2 : Int) (a1_0 : Int) (a1_1 : Int) (a1_2 : Int) (r : Bool) (w : World) (h : laws_eqMaze.f a0_0 a0_1 a0_2 a1_0 a1_1 a1_2 = some r) :
    Calls Try.prog 48 #[.agg #[.int .i64 a0_0, .int .i64 a0_1, .int .i64 a0_2], .agg #[.int .i64 a1_0, .int .i64 a1_1, .int .i64 a1_2]] w fun e w' => e = .returned (.bool r) ∧ Below w.heap.size w w' := by
  have hu42 := Try.underlying42
  have hu40 := Try.underlying40
  have HB := Aside0.mk (Below.refl w.heap.size w)
  have H : ((laws_eqGrid.f a0_0 a0_1 a1_0 a1_1).bind fun t103 => (if t103 = true then (if a0_2 = a1_2 then (some true) else (some false)) else (some false))) = some r := h
  clear h
  obtain ⟨t103, A30, H⟩ := Option.bind_eq_some_iff.mp H
  (try dsimp only at H); have A3 := Aside0.mk A30; clear A30
  by_cases c4 : t103 = true
  · subst c4
    rw [if_pos rfl] at H
    by_cases c5 : a0_2 = a1_2
    · rw [if_pos c5] at H
      have c5b0 : (a0_2 == a1_2) = true := beq_iff_eq.mpr c5
      have c5b1 : (a0_2 != a1_2) = false := bne_eq_false_iff_eq.mpr c5
      clear c5
      obtain rfl := Option.some.inj H
      go_enter Try.func48, Try.ntmps48
      go_wp2_with (first | ((with_reducible refine gate_dst (N := 2) rfl ?_); refine box_event ?hg (N := 2) ?hd (cs := #[.int .i64 a0_0, .int .i64 a0_1, .int .i64 a0_2]) (t := 42) ?hr ?_; (case hd => rfl); (case hg => rfl); (case hr => (go_simp; done)); intro gb101 hg w6 hbox hb; have n0_ := Aside0.mk (below_step HB.out hb); have n1_ := Aside0.mk (hbox); have n2_ := Aside0.mk ((by rw [hg]; exact (below_size HB.out) : w.heap.size ≤ gb101)); have n3_ := Aside0.mk ((by rw [hg]; exact (below_size HB.out) : w.heap.size ≤ gb101)); clear HB; have HB := n0_; have BK101 := n1_; have GW101 := n2_; have GE101 := n3_; clear n0_ n1_ n2_ n3_; clear hb hbox hg) | ((with_reducible refine gate_dst (N := 3) rfl ?_); refine box_event ?hg (N := 3) ?hd (cs := #[.int .i64 a1_0, .int .i64 a1_1, .int .i64 a1_2]) (t := 42) ?hr ?_; (case hd => rfl); (case hg => rfl); (case hr => (go_simp; done)); intro gb102 hg w7 hbox hb; have n0_ := Aside0.mk (blk_below (g := gb101) (o := .cells #[.int .i64 a0_0, .int .i64 a0_1, .int .i64 a0_2] 42 (0, 0)) BK101.out hb); have n1_ := Aside0.mk (below_step HB.out hb); have n2_ := Aside0.mk (hbox); have n3_ := Aside0.mk ((by rw [hg]; exact (below_size HB.out) : w.heap.size ≤ gb102)); have n4_ := Aside0.mk ((by rw [hg]; exact (below_size HB.out) : w.heap.size ≤ gb102)); have n5_ := Aside0.mk ((by rw [hg]; exact Nat.ne_of_lt (blk_lt (g := gb101) (o := .cells #[.int .i64 a0_0, .int .i64 a0_1, .int .i64 a0_2] 42 (0, 0)) BK101.out) : gb101 ≠ gb102)); have n6_ := Aside0.mk ((by rw [hg]; exact Nat.ne_of_gt (blk_lt (g := gb101) (o := .cells #[.int .i64 a0_0, .int .i64 a0_1, .int .i64 a0_2] 42 (0, 0)) BK101.out) : gb102 ≠ gb101)); clear BK101; clear HB; have BK101 := n0_; have HB := n1_; have BK102 := n2_; have GW102 := n3_; have GE102 := n4_; have NB101_102 := n5_; have NB102_101 := n6_; clear n0_ n1_ n2_ n3_ n4_ n5_ n6_; clear hb hbox hg; have hnb8 := NB101_102.out; have hnc8 := NB102_101.out; obtain ⟨hcz9_0, hcz9_1, hcz9_2⟩ := kk3_ BK101.1; have hfz9_0 := blk_frozen BK101.out 0; have hfz9_1 := blk_frozen BK101.out 1; have hfz9_2 := blk_frozen BK101.out 2; obtain ⟨hcz10_0, hcz10_1, hcz10_2⟩ := kk3_ BK102.1; have hfz10_0 := blk_frozen BK102.out 0; have hfz10_1 := blk_frozen BK102.out 1; have hfz10_2 := blk_frozen BK102.out 2) | ((with_reducible refine gate_callee (f := 89) rfl ?_); refine goesL_ (some 9) rfl rfl Try.func89 (by kernel_rfl) rfl #[.agg #[.int .i64 a0_0, .int .i64 a0_1], .agg #[.int .i64 a1_0, .int .i64 a1_1]] rfl (by (try simp only [List.map_toArray, List.map_cons, List.map_nil]); rfl) ?_; (with_reducible refine (laws_eqGrid.calls a0_0 a0_1 a1_0 a1_1 true _ A3.out).mono ?_); rintro e w11 ⟨rfl, hb⟩; refine ⟨_, rfl, ?_⟩; have n0_ := Aside0.mk (blk_below (g := gb101) (o := .cells #[.int .i64 a0_0, .int .i64 a0_1, .int .i64 a0_2] 42 (0, 0)) BK101.out hb); have n1_ := Aside0.mk (blk_below (g := gb102) (o := .cells #[.int .i64 a1_0, .int .i64 a1_1, .int .i64 a1_2] 42 (0, 0)) BK102.out hb); have n2_ := Aside0.mk (below_step HB.out hb); clear BK101; clear BK102; clear HB; have BK101 := n0_; have BK102 := n1_; have HB := n2_; clear n0_ n1_ n2_; (try clear hb); (try clear hb2); (try clear hk); (try clear hi); obtain ⟨hcz12_0, hcz12_1, hcz12_2⟩ := kk3_ BK101.1; have hfz12_0 := blk_frozen BK101.out 0; have hfz12_1 := blk_frozen BK101.out 1; have hfz12_2 := blk_frozen BK101.out 2; obtain ⟨hcz13_0, hcz13_1, hcz13_2⟩ := kk3_ BK102.1; have hfz13_0 := blk_frozen BK102.out 0; have hfz13_1 := blk_frozen BK102.out 1; have hfz13_2 := blk_frozen BK102.out 2))
      go_ret
      exact ⟨by rfl, by repeat ((with_reducible exact HB.out))⟩
    · rw [if_neg c5] at H
      have c5b0 : (a0_2 == a1_2) = false := beq_eq_false_iff_ne.mpr c5
      have c5b1 : (a0_2 != a1_2) = true := bne_iff_ne.mpr c5
      obtain rfl := Option.some.inj H
      go_enter Try.func48, Try.ntmps48
      go_wp2_with (first | ((with_reducible refine gate_dst (N := 2) rfl ?_); refine box_event ?hg (N := 2) ?hd (cs := #[.int .i64 a0_0, .int .i64 a0_1, .int .i64 a0_2]) (t := 42) ?hr ?_; (case hd => rfl); (case hg => rfl); (case hr => (go_simp; done)); intro gb101 hg w14 hbox hb; have n0_ := Aside0.mk (below_step HB.out hb); have n1_ := Aside0.mk (hbox); have n2_ := Aside0.mk ((by rw [hg]; exact (below_size HB.out) : w.heap.size ≤ gb101)); have n3_ := Aside0.mk ((by rw [hg]; exact (below_size HB.out) : w.heap.size ≤ gb101)); clear HB; have HB := n0_; have BK101 := n1_; have GW101 := n2_; have GE101 := n3_; clear n0_ n1_ n2_ n3_; clear hb hbox hg) | ((with_reducible refine gate_dst (N := 3) rfl ?_); refine box_event ?hg (N := 3) ?hd (cs := #[.int .i64 a1_0, .int .i64 a1_1, .int .i64 a1_2]) (t := 42) ?hr ?_; (case hd => rfl); (case hg => rfl); (case hr => (go_simp; done)); intro gb102 hg w15 hbox hb; have n0_ := Aside0.mk (blk_below (g := gb101) (o := .cells #[.int .i64 a0_0, .int .i64 a0_1, .int .i64 a0_2] 42 (0, 0)) BK101.out hb); have n1_ := Aside0.mk (below_step HB.out hb); have n2_ := Aside0.mk (hbox); have n3_ := Aside0.mk ((by rw [hg]; exact (below_size HB.out) : w.heap.size ≤ gb102)); have n4_ := Aside0.mk ((by rw [hg]; exact (below_size HB.out) : w.heap.size ≤ gb102)); have n5_ := Aside0.mk ((by rw [hg]; exact Nat.ne_of_lt (blk_lt (g := gb101) (o := .cells #[.int .i64 a0_0, .int .i64 a0_1, .int .i64 a0_2] 42 (0, 0)) BK101.out) : gb101 ≠ gb102)); have n6_ := Aside0.mk ((by rw [hg]; exact Nat.ne_of_gt (blk_lt (g := gb101) (o := .cells #[.int .i64 a0_0, .int .i64 a0_1, .int .i64 a0_2] 42 (0, 0)) BK101.out) : gb102 ≠ gb101)); clear BK101; clear HB; have BK101 := n0_; have HB := n1_; have BK102 := n2_; have GW102 := n3_; have GE102 := n4_; have NB101_102 := n5_; have NB102_101 := n6_; clear n0_ n1_ n2_ n3_ n4_ n5_ n6_; clear hb hbox hg; have hnb16 := NB101_102.out; have hnc16 := NB102_101.out; obtain ⟨hcz17_0, hcz17_1, hcz17_2⟩ := kk3_ BK101.1; have hfz17_0 := blk_frozen BK101.out 0; have hfz17_1 := blk_frozen BK101.out 1; have hfz17_2 := blk_frozen BK101.out 2; obtain ⟨hcz18_0, hcz18_1, hcz18_2⟩ := kk3_ BK102.1; have hfz18_0 := blk_frozen BK102.out 0; have hfz18_1 := blk_frozen BK102.out 1; have hfz18_2 := blk_frozen BK102.out 2) | ((with_reducible refine gate_callee (f := 89) rfl ?_); refine goesL_ (some 9) rfl rfl Try.func89 (by kernel_rfl) rfl #[.agg #[.int .i64 a0_0, .int .i64 a0_1], .agg #[.int .i64 a1_0, .int .i64 a1_1]] rfl (by (try simp only [List.map_toArray, List.map_cons, List.map_nil]); rfl) ?_; (with_reducible refine (laws_eqGrid.calls a0_0 a0_1 a1_0 a1_1 true _ A3.out).mono ?_); rintro e w19 ⟨rfl, hb⟩; refine ⟨_, rfl, ?_⟩; have n0_ := Aside0.mk (blk_below (g := gb101) (o := .cells #[.int .i64 a0_0, .int .i64 a0_1, .int .i64 a0_2] 42 (0, 0)) BK101.out hb); have n1_ := Aside0.mk (blk_below (g := gb102) (o := .cells #[.int .i64 a1_0, .int .i64 a1_1, .int .i64 a1_2] 42 (0, 0)) BK102.out hb); have n2_ := Aside0.mk (below_step HB.out hb); clear BK101; clear BK102; clear HB; have BK101 := n0_; have BK102 := n1_; have HB := n2_; clear n0_ n1_ n2_; (try clear hb); (try clear hb2); (try clear hk); (try clear hi); obtain ⟨hcz20_0, hcz20_1, hcz20_2⟩ := kk3_ BK101.1; have hfz20_0 := blk_frozen BK101.out 0; have hfz20_1 := blk_frozen BK101.out 1; have hfz20_2 := blk_frozen BK101.out 2; obtain ⟨hcz21_0, hcz21_1, hcz21_2⟩ := kk3_ BK102.1; have hfz21_0 := blk_frozen BK102.out 0; have hfz21_1 := blk_frozen BK102.out 1; have hfz21_2 := blk_frozen BK102.out 2))
      go_ret
      exact ⟨by rfl, by repeat ((with_reducible exact HB.out))⟩
  · replace c4 := Bool.eq_false_iff.mpr c4
    subst c4
    have H1 : (some false) = some r := by rw [if_neg (show ¬ (false = true) by decide)] at H; exact H
    clear H
    have H := H1
    clear H1
    obtain rfl := Option.some.inj H
    go_enter Try.func48, Try.ntmps48
    go_wp2_with (first | ((with_reducible refine gate_dst (N := 2) rfl ?_); refine box_event ?hg (N := 2) ?hd (cs := #[.int .i64 a0_0, .int .i64 a0_1, .int .i64 a0_2]) (t := 42) ?hr ?_; (case hd => rfl); (case hg => rfl); (case hr => (go_simp; done)); intro gb101 hg w22 hbox hb; have n0_ := Aside0.mk (below_step HB.out hb); have n1_ := Aside0.mk (hbox); have n2_ := Aside0.mk ((by rw [hg]; exact (below_size HB.out) : w.heap.size ≤ gb101)); have n3_ := Aside0.mk ((by rw [hg]; exact (below_size HB.out) : w.heap.size ≤ gb101)); clear HB; have HB := n0_; have BK101 := n1_; have GW101 := n2_; have GE101 := n3_; clear n0_ n1_ n2_ n3_; clear hb hbox hg) | ((with_reducible refine gate_dst (N := 3) rfl ?_); refine box_event ?hg (N := 3) ?hd (cs := #[.int .i64 a1_0, .int .i64 a1_1, .int .i64 a1_2]) (t := 42) ?hr ?_; (case hd => rfl); (case hg => rfl); (case hr => (go_simp; done)); intro gb102 hg w23 hbox hb; have n0_ := Aside0.mk (blk_below (g := gb101) (o := .cells #[.int .i64 a0_0, .int .i64 a0_1, .int .i64 a0_2] 42 (0, 0)) BK101.out hb); have n1_ := Aside0.mk (below_step HB.out hb); have n2_ := Aside0.mk (hbox); have n3_ := Aside0.mk ((by rw [hg]; exact (below_size HB.out) : w.heap.size ≤ gb102)); have n4_ := Aside0.mk ((by rw [hg]; exact (below_size HB.out) : w.heap.size ≤ gb102)); have n5_ := Aside0.mk ((by rw [hg]; exact Nat.ne_of_lt (blk_lt (g := gb101) (o := .cells #[.int .i64 a0_0, .int .i64 a0_1, .int .i64 a0_2] 42 (0, 0)) BK101.out) : gb101 ≠ gb102)); have n6_ := Aside0.mk ((by rw [hg]; exact Nat.ne_of_gt (blk_lt (g := gb101) (o := .cells #[.int .i64 a0_0, .int .i64 a0_1, .int .i64 a0_2] 42 (0, 0)) BK101.out) : gb102 ≠ gb101)); clear BK101; clear HB; have BK101 := n0_; have HB := n1_; have BK102 := n2_; have GW102 := n3_; have GE102 := n4_; have NB101_102 := n5_; have NB102_101 := n6_; clear n0_ n1_ n2_ n3_ n4_ n5_ n6_; clear hb hbox hg; have hnb24 := NB101_102.out; have hnc24 := NB102_101.out; obtain ⟨hcz25_0, hcz25_1, hcz25_2⟩ := kk3_ BK101.1; have hfz25_0 := blk_frozen BK101.out 0; have hfz25_1 := blk_frozen BK101.out 1; have hfz25_2 := blk_frozen BK101.out 2; obtain ⟨hcz26_0, hcz26_1, hcz26_2⟩ := kk3_ BK102.1; have hfz26_0 := blk_frozen BK102.out 0; have hfz26_1 := blk_frozen BK102.out 1; have hfz26_2 := blk_frozen BK102.out 2) | ((with_reducible refine gate_callee (f := 89) rfl ?_); refine goesL_ (some 9) rfl rfl Try.func89 (by kernel_rfl) rfl #[.agg #[.int .i64 a0_0, .int .i64 a0_1], .agg #[.int .i64 a1_0, .int .i64 a1_1]] rfl (by (try simp only [List.map_toArray, List.map_cons, List.map_nil]); rfl) ?_; (with_reducible refine (laws_eqGrid.calls a0_0 a0_1 a1_0 a1_1 false _ A3.out).mono ?_); rintro e w27 ⟨rfl, hb⟩; refine ⟨_, rfl, ?_⟩; have n0_ := Aside0.mk (blk_below (g := gb101) (o := .cells #[.int .i64 a0_0, .int .i64 a0_1, .int .i64 a0_2] 42 (0, 0)) BK101.out hb); have n1_ := Aside0.mk (blk_below (g := gb102) (o := .cells #[.int .i64 a1_0, .int .i64 a1_1, .int .i64 a1_2] 42 (0, 0)) BK102.out hb); have n2_ := Aside0.mk (below_step HB.out hb); clear BK101; clear BK102; clear HB; have BK101 := n0_; have BK102 := n1_; have HB := n2_; clear n0_ n1_ n2_; (try clear hb); (try clear hb2); (try clear hk); (try clear hi)))
    go_ret
    exact ⟨by rfl, by repeat ((with_reducible exact HB.out))⟩

/-! ### laws_FnExactMazeAt: function 11 -/
def laws_FnExactMazeAt.f (k : Nat) (a0_0 : Int) (a0_1 : Int) (a1 : Int) : Option (Bool) := (laws_toGrid.f a0_0 a0_1).bind fun bt102 => ((spec_MazeAt.f k bt102.1 bt102.2 a1).bind fun bt104 => ((laws_toGrid.f a0_0 a0_1).bind fun bt109 => ((impl_MazeAt.f k bt109.1 bt109.2 a1).bind fun bt111 => ((laws_eqMaze.f bt111.1 bt111.2.1 bt111.2.2.1 bt104.1 bt104.2.1 bt104.2.2.1).bind fun t116 => (if t116 = true then (if (bt111.2.2.2 != bt104.2.2.2) = true then (some false) else (some true)) else (some false))))))
set_option maxHeartbeats 8000000 in
set_option maxRecDepth 100000 in
theorem laws_FnExactMazeAt.calls (k : Nat) (a0_0 : Int) (a0_1 : Int) (a1 : Int) (r : Bool) (w : World) (h : laws_FnExactMazeAt.f k a0_0 a0_1 a1 = some r) :
    Calls Try.prog 11 #[.agg #[.int .i64 a0_0, .int .i64 a0_1], .int .i64 a1] w fun e w' => e = .returned (.bool r) ∧ Below w.heap.size w w' := by
  have hu36 := Try.underlying36
  have hu42 := Try.underlying42
  have HB := Aside0.mk (Below.refl w.heap.size w)
  have H : ((laws_toGrid.f a0_0 a0_1).bind fun bt102 => ((spec_MazeAt.f k bt102.1 bt102.2 a1).bind fun bt104 => ((laws_toGrid.f a0_0 a0_1).bind fun bt109 => ((impl_MazeAt.f k bt109.1 bt109.2 a1).bind fun bt111 => ((laws_eqMaze.f bt111.1 bt111.2.1 bt111.2.2.1 bt104.1 bt104.2.1 bt104.2.2.1).bind fun t116 => (if t116 = true then (if (bt111.2.2.2 != bt104.2.2.2) = true then (some false) else (some true)) else (some false))))))) = some r := h
  clear h
  obtain ⟨⟨t102, t103⟩, A30, H⟩ := Option.bind_eq_some_iff.mp H
  (try dsimp only at H); have A3 := Aside0.mk A30; clear A30
  obtain ⟨⟨t104, t105, t106, t107⟩, A40, H⟩ := Option.bind_eq_some_iff.mp H
  (try dsimp only at H); have A4 := Aside0.mk A40; clear A40
  obtain ⟨⟨t109, t110⟩, A50, H⟩ := Option.bind_eq_some_iff.mp H
  (try dsimp only at H); have A5 := Aside0.mk A50; clear A50
  obtain ⟨⟨t111, t112, t113, t114⟩, A60, H⟩ := Option.bind_eq_some_iff.mp H
  (try dsimp only at H); have A6 := Aside0.mk A60; clear A60
  obtain ⟨t116, A70, H⟩ := Option.bind_eq_some_iff.mp H
  (try dsimp only at H); have A7 := Aside0.mk A70; clear A70
  by_cases c8 : t116 = true
  · subst c8
    rw [if_pos rfl] at H
    by_cases c9 : (t114 != t107) = true
    · rw [if_pos c9] at H
      have c9b0 : (t114 != t107) = true := c9
      (try (have c9b1 : decide (t114 = t107) = false := by simpa using c9))
      (try (have c9b2 : (t114 == t107) = false := by simpa using c9))
      (try (have c9b3 : ¬ (t114 = t107) := by simpa using c9))
      clear c9
      obtain rfl := Option.some.inj H
      go_enter Try.func11, Try.ntmps11
      go_wp2_with (first | ((with_reducible refine gate_dst (N := 2) rfl ?_); refine box_event ?hg (N := 2) ?hd (cs := #[.int .i64 a0_0, .int .i64 a0_1]) (t := 36) ?hr ?_; (case hd => rfl); (case hg => rfl); (case hr => (go_simp; done)); intro gb101 hg w10 hbox hb; have n0_ := Aside0.mk (below_step HB.out hb); have n1_ := Aside0.mk (hbox); have n2_ := Aside0.mk ((by rw [hg]; exact (below_size HB.out) : w.heap.size ≤ gb101)); have n3_ := Aside0.mk ((by rw [hg]; exact (below_size HB.out) : w.heap.size ≤ gb101)); clear HB; have HB := n0_; have BK101 := n1_; have GW101 := n2_; have GE101 := n3_; clear n0_ n1_ n2_ n3_; clear hb hbox hg; obtain ⟨hcz11_0, hcz11_1⟩ := kk2_ BK101.1; have hfz11_0 := blk_frozen BK101.out 0; have hfz11_1 := blk_frozen BK101.out 1) | ((with_reducible refine gate_callee (f := 38) rfl ?_); refine goesL_ (some 11) rfl rfl Try.func38 (by kernel_rfl) rfl #[.agg #[.int .i64 a0_0, .int .i64 a0_1]] rfl (by (try simp only [List.map_toArray, List.map_cons, List.map_nil]); rfl) ?_; (with_reducible refine (laws_toGrid.calls a0_0 a0_1 t102 t103 _ A3.out).mono ?_); rintro e w12 ⟨rfl, hb⟩; (try clear A3); refine ⟨_, rfl, ?_⟩; have n0_ := Aside0.mk (blk_below (g := gb101) (o := .cells #[.int .i64 a0_0, .int .i64 a0_1] 36 (0, 0)) BK101.out hb); have n1_ := Aside0.mk (below_step HB.out hb); clear BK101; clear HB; have BK101 := n0_; have HB := n1_; clear n0_ n1_; (try clear hb); (try clear hb2); (try clear hk); (try clear hi)) | ((with_reducible refine gate_callee (f := 47) rfl ?_); refine goesL_ (some 13) rfl rfl Try.func47 (by kernel_rfl) rfl #[.agg #[.int .i64 t102, .int .i64 t103], .int .i64 a1] rfl (by (try simp only [List.map_toArray, List.map_cons, List.map_nil]); rfl) ?_; (with_reducible refine (spec_MazeAt.calls k t102 t103 a1 t104 t105 t106 t107 _ A4.out).mono ?_); rintro e w13 ⟨rfl, hb⟩; (try clear A4); refine ⟨_, rfl, ?_⟩; have n0_ := Aside0.mk (blk_below (g := gb101) (o := .cells #[.int .i64 a0_0, .int .i64 a0_1] 36 (0, 0)) BK101.out hb); have n1_ := Aside0.mk (below_step HB.out hb); clear BK101; clear HB; have BK101 := n0_; have HB := n1_; clear n0_ n1_; (try clear hb); (try clear hb2); (try clear hk); (try clear hi)) | ((with_reducible refine gate_dst (N := 5) rfl ?_); refine box_event ?hg (N := 5) ?hd (cs := #[.int .i64 0, .int .i64 0, .int .i64 0]) (t := 42) ?hr ?_; (case hd => rfl); (case hg => rfl); (case hr => (go_simp; done)); intro gb108 hg w14 hbox hb; have n0_ := Aside0.mk (blk_below (g := gb101) (o := .cells #[.int .i64 a0_0, .int .i64 a0_1] 36 (0, 0)) BK101.out hb); have n1_ := Aside0.mk (below_step HB.out hb); have n2_ := Aside0.mk (hbox); have n3_ := Aside0.mk ((by rw [hg]; exact (below_size HB.out) : w.heap.size ≤ gb108)); have n4_ := Aside0.mk ((by rw [hg]; exact (below_size HB.out) : w.heap.size ≤ gb108)); have n5_ := Aside0.mk ((by rw [hg]; exact Nat.ne_of_lt (blk_lt (g := gb101) (o := .cells #[.int .i64 a0_0, .int .i64 a0_1] 36 (0, 0)) BK101.out) : gb101 ≠ gb108)); have n6_ := Aside0.mk ((by rw [hg]; exact Nat.ne_of_gt (blk_lt (g := gb101) (o := .cells #[.int .i64 a0_0, .int .i64 a0_1] 36 (0, 0)) BK101.out) : gb108 ≠ gb101)); clear BK101; clear HB; have BK101 := n0_; have HB := n1_; have BK108 := n2_; have GW108 := n3_; have GE108 := n4_; have NB101_108 := n5_; have NB108_101 := n6_; clear n0_ n1_ n2_ n3_ n4_ n5_ n6_; clear hb hbox hg; have hnb15 := NB108_101.out; have hnc15 := NB101_108.out; obtain ⟨hcz16_0, hcz16_1, hcz16_2⟩ := kk3_ BK108.1; have hfz16_0 := blk_frozen BK108.out 0; have hfz16_1 := blk_frozen BK108.out 1; have hfz16_2 := blk_frozen BK108.out 2; obtain ⟨hcz17_0, hcz17_1⟩ := kk2_ BK101.1; have hfz17_0 := blk_frozen BK101.out 0; have hfz17_1 := blk_frozen BK101.out 1) | ((with_reducible refine gate_callee (f := 38) rfl ?_); refine goesL_ (some 18) rfl rfl Try.func38 (by kernel_rfl) rfl #[.agg #[.int .i64 a0_0, .int .i64 a0_1]] rfl (by (try simp only [List.map_toArray, List.map_cons, List.map_nil]); rfl) ?_; (with_reducible refine (laws_toGrid.calls a0_0 a0_1 t109 t110 _ A5.out).mono ?_); rintro e w18 ⟨rfl, hb⟩; (try clear A5); refine ⟨_, rfl, ?_⟩; have n0_ := Aside0.mk (blk_below (g := gb101) (o := .cells #[.int .i64 a0_0, .int .i64 a0_1] 36 (0, 0)) (by refine blk_far ?_ NB101_108.out _; refine blk_far ?_ NB101_108.out _; refine blk_far ?_ NB101_108.out _; exact BK101.out) hb); have n1_ := Aside0.mk (blk_below (g := gb108) (o := .cells #[.int .i64 t104, .int .i64 t105, .int .i64 t106] 42 (0, 0)) (by refine blk_put (cs := #[.int .i64 t104, .int .i64 t105, .int .i64 0]) ?_ 2 _ rfl; refine blk_put (cs := #[.int .i64 t104, .int .i64 0, .int .i64 0]) ?_ 1 _ rfl; refine blk_put (cs := #[.int .i64 0, .int .i64 0, .int .i64 0]) ?_ 0 _ rfl; exact BK108.out) hb); have n2_ := Aside0.mk (below_step (by repeat ((with_reducible first | exact HB.out | refine below_set ?_ GE108.out))) hb); clear BK101; clear BK108; clear HB; have BK101 := n0_; have BK108 := n1_; have HB := n2_; clear n0_ n1_ n2_; (try clear hb); (try clear hb2); (try clear hk); (try clear hi)) | ((with_reducible refine gate_callee (f := 44) rfl ?_); refine goesL_ (some 20) rfl rfl Try.func44 (by kernel_rfl) rfl #[.agg #[.int .i64 t109, .int .i64 t110], .int .i64 a1] rfl (by (try simp only [List.map_toArray, List.map_cons, List.map_nil]); rfl) ?_; (with_reducible refine (impl_MazeAt.calls k t109 t110 a1 t111 t112 t113 t114 _ A6.out).mono ?_); rintro e w19 ⟨rfl, hb⟩; (try clear A6); refine ⟨_, rfl, ?_⟩; have n0_ := Aside0.mk (blk_below (g := gb101) (o := .cells #[.int .i64 a0_0, .int .i64 a0_1] 36 (0, 0)) BK101.out hb); have n1_ := Aside0.mk (blk_below (g := gb108) (o := .cells #[.int .i64 t104, .int .i64 t105, .int .i64 t106] 42 (0, 0)) BK108.out hb); have n2_ := Aside0.mk (below_step HB.out hb); clear BK101; clear BK108; clear HB; have BK101 := n0_; have BK108 := n1_; have HB := n2_; clear n0_ n1_ n2_; (try clear hb); (try clear hb2); (try clear hk); (try clear hi)) | ((with_reducible refine gate_dst (N := 7) rfl ?_); refine box_event ?hg (N := 7) ?hd (cs := #[.int .i64 0, .int .i64 0, .int .i64 0]) (t := 42) ?hr ?_; (case hd => rfl); (case hg => rfl); (case hr => (go_simp; done)); intro gb115 hg w20 hbox hb; have n0_ := Aside0.mk (blk_below (g := gb101) (o := .cells #[.int .i64 a0_0, .int .i64 a0_1] 36 (0, 0)) BK101.out hb); have n1_ := Aside0.mk (blk_below (g := gb108) (o := .cells #[.int .i64 t104, .int .i64 t105, .int .i64 t106] 42 (0, 0)) BK108.out hb); have n2_ := Aside0.mk (below_step HB.out hb); have n3_ := Aside0.mk (hbox); have n4_ := Aside0.mk ((by rw [hg]; exact (below_size HB.out) : w.heap.size ≤ gb115)); have n5_ := Aside0.mk ((by rw [hg]; exact (below_size HB.out) : w.heap.size ≤ gb115)); have n6_ := Aside0.mk ((by rw [hg]; exact Nat.ne_of_lt (blk_lt (g := gb101) (o := .cells #[.int .i64 a0_0, .int .i64 a0_1] 36 (0, 0)) BK101.out) : gb101 ≠ gb115)); have n7_ := Aside0.mk ((by rw [hg]; exact Nat.ne_of_gt (blk_lt (g := gb101) (o := .cells #[.int .i64 a0_0, .int .i64 a0_1] 36 (0, 0)) BK101.out) : gb115 ≠ gb101)); have n8_ := Aside0.mk ((by rw [hg]; exact Nat.ne_of_lt (blk_lt (g := gb108) (o := .cells #[.int .i64 t104, .int .i64 t105, .int .i64 t106] 42 (0, 0)) BK108.out) : gb108 ≠ gb115)); have n9_ := Aside0.mk ((by rw [hg]; exact Nat.ne_of_gt (blk_lt (g := gb108) (o := .cells #[.int .i64 t104, .int .i64 t105, .int .i64 t106] 42 (0, 0)) BK108.out) : gb115 ≠ gb108)); clear BK101; clear BK108; clear HB; have BK101 := n0_; have BK108 := n1_; have HB := n2_; have BK115 := n3_; have GW115 := n4_; have GE115 := n5_; have NB101_115 := n6_; have NB115_101 := n7_; have NB108_115 := n8_; have NB115_108 := n9_; clear n0_ n1_ n2_ n3_ n4_ n5_ n6_ n7_ n8_ n9_; clear hb hbox hg; have hnb21 := NB115_101.out; have hnc21 := NB101_115.out; have hnb22 := NB115_108.out; have hnc22 := NB108_115.out; obtain ⟨hcz23_0, hcz23_1, hcz23_2⟩ := kk3_ BK115.1; have hfz23_0 := blk_frozen BK115.out 0; have hfz23_1 := blk_frozen BK115.out 1; have hfz23_2 := blk_frozen BK115.out 2; obtain ⟨hcz24_0, hcz24_1, hcz24_2⟩ := kk3_ BK108.1; have hfz24_0 := blk_frozen BK108.out 0; have hfz24_1 := blk_frozen BK108.out 1; have hfz24_2 := blk_frozen BK108.out 2) | ((with_reducible refine gate_callee (f := 48) rfl ?_); refine goesL_ (some 25) rfl rfl Try.func48 (by kernel_rfl) rfl #[.agg #[.int .i64 t111, .int .i64 t112, .int .i64 t113], .agg #[.int .i64 t104, .int .i64 t105, .int .i64 t106]] rfl (by (try simp only [List.map_toArray, List.map_cons, List.map_nil]); rfl) ?_; (with_reducible refine (laws_eqMaze.calls t111 t112 t113 t104 t105 t106 true _ A7.out).mono ?_); rintro e w25 ⟨rfl, hb⟩; (try clear A7); refine ⟨_, rfl, ?_⟩; have n0_ := Aside0.mk (blk_below (g := gb101) (o := .cells #[.int .i64 a0_0, .int .i64 a0_1] 36 (0, 0)) (by refine blk_far ?_ NB101_115.out _; refine blk_far ?_ NB101_115.out _; refine blk_far ?_ NB101_115.out _; exact BK101.out) hb); have n1_ := Aside0.mk (blk_below (g := gb108) (o := .cells #[.int .i64 t104, .int .i64 t105, .int .i64 t106] 42 (0, 0)) (by refine blk_far ?_ NB108_115.out _; refine blk_far ?_ NB108_115.out _; refine blk_far ?_ NB108_115.out _; exact BK108.out) hb); have n2_ := Aside0.mk (blk_below (g := gb115) (o := .cells #[.int .i64 t111, .int .i64 t112, .int .i64 t113] 42 (0, 0)) (by refine blk_put (cs := #[.int .i64 t111, .int .i64 t112, .int .i64 0]) ?_ 2 _ rfl; refine blk_put (cs := #[.int .i64 t111, .int .i64 0, .int .i64 0]) ?_ 1 _ rfl; refine blk_put (cs := #[.int .i64 0, .int .i64 0, .int .i64 0]) ?_ 0 _ rfl; exact BK115.out) hb); have n3_ := Aside0.mk (below_step (by repeat ((with_reducible first | exact HB.out | refine below_set ?_ GE115.out))) hb); clear BK101; clear BK108; clear BK115; clear HB; have BK101 := n0_; have BK108 := n1_; have BK115 := n2_; have HB := n3_; clear n0_ n1_ n2_ n3_; (try clear hb); (try clear hb2); (try clear hk); (try clear hi)))
      go_ret
      exact ⟨by rfl, by repeat ((with_reducible exact HB.out))⟩
    · rw [if_neg c9] at H
      have c9b0 : (t114 != t107) = false := by simpa using c9
      (try (have c9b1 : decide (t114 = t107) = true := by simpa using c9))
      (try (have c9b2 : (t114 == t107) = true := by simpa using c9))
      clear c9
      obtain rfl := Option.some.inj H
      go_enter Try.func11, Try.ntmps11
      go_wp2_with (first | ((with_reducible refine gate_dst (N := 2) rfl ?_); refine box_event ?hg (N := 2) ?hd (cs := #[.int .i64 a0_0, .int .i64 a0_1]) (t := 36) ?hr ?_; (case hd => rfl); (case hg => rfl); (case hr => (go_simp; done)); intro gb101 hg w26 hbox hb; have n0_ := Aside0.mk (below_step HB.out hb); have n1_ := Aside0.mk (hbox); have n2_ := Aside0.mk ((by rw [hg]; exact (below_size HB.out) : w.heap.size ≤ gb101)); have n3_ := Aside0.mk ((by rw [hg]; exact (below_size HB.out) : w.heap.size ≤ gb101)); clear HB; have HB := n0_; have BK101 := n1_; have GW101 := n2_; have GE101 := n3_; clear n0_ n1_ n2_ n3_; clear hb hbox hg; obtain ⟨hcz27_0, hcz27_1⟩ := kk2_ BK101.1; have hfz27_0 := blk_frozen BK101.out 0; have hfz27_1 := blk_frozen BK101.out 1) | ((with_reducible refine gate_callee (f := 38) rfl ?_); refine goesL_ (some 11) rfl rfl Try.func38 (by kernel_rfl) rfl #[.agg #[.int .i64 a0_0, .int .i64 a0_1]] rfl (by (try simp only [List.map_toArray, List.map_cons, List.map_nil]); rfl) ?_; (with_reducible refine (laws_toGrid.calls a0_0 a0_1 t102 t103 _ A3.out).mono ?_); rintro e w28 ⟨rfl, hb⟩; (try clear A3); refine ⟨_, rfl, ?_⟩; have n0_ := Aside0.mk (blk_below (g := gb101) (o := .cells #[.int .i64 a0_0, .int .i64 a0_1] 36 (0, 0)) BK101.out hb); have n1_ := Aside0.mk (below_step HB.out hb); clear BK101; clear HB; have BK101 := n0_; have HB := n1_; clear n0_ n1_; (try clear hb); (try clear hb2); (try clear hk); (try clear hi)) | ((with_reducible refine gate_callee (f := 47) rfl ?_); refine goesL_ (some 13) rfl rfl Try.func47 (by kernel_rfl) rfl #[.agg #[.int .i64 t102, .int .i64 t103], .int .i64 a1] rfl (by (try simp only [List.map_toArray, List.map_cons, List.map_nil]); rfl) ?_; (with_reducible refine (spec_MazeAt.calls k t102 t103 a1 t104 t105 t106 t107 _ A4.out).mono ?_); rintro e w29 ⟨rfl, hb⟩; (try clear A4); refine ⟨_, rfl, ?_⟩; have n0_ := Aside0.mk (blk_below (g := gb101) (o := .cells #[.int .i64 a0_0, .int .i64 a0_1] 36 (0, 0)) BK101.out hb); have n1_ := Aside0.mk (below_step HB.out hb); clear BK101; clear HB; have BK101 := n0_; have HB := n1_; clear n0_ n1_; (try clear hb); (try clear hb2); (try clear hk); (try clear hi)) | ((with_reducible refine gate_dst (N := 5) rfl ?_); refine box_event ?hg (N := 5) ?hd (cs := #[.int .i64 0, .int .i64 0, .int .i64 0]) (t := 42) ?hr ?_; (case hd => rfl); (case hg => rfl); (case hr => (go_simp; done)); intro gb108 hg w30 hbox hb; have n0_ := Aside0.mk (blk_below (g := gb101) (o := .cells #[.int .i64 a0_0, .int .i64 a0_1] 36 (0, 0)) BK101.out hb); have n1_ := Aside0.mk (below_step HB.out hb); have n2_ := Aside0.mk (hbox); have n3_ := Aside0.mk ((by rw [hg]; exact (below_size HB.out) : w.heap.size ≤ gb108)); have n4_ := Aside0.mk ((by rw [hg]; exact (below_size HB.out) : w.heap.size ≤ gb108)); have n5_ := Aside0.mk ((by rw [hg]; exact Nat.ne_of_lt (blk_lt (g := gb101) (o := .cells #[.int .i64 a0_0, .int .i64 a0_1] 36 (0, 0)) BK101.out) : gb101 ≠ gb108)); have n6_ := Aside0.mk ((by rw [hg]; exact Nat.ne_of_gt (blk_lt (g := gb101) (o := .cells #[.int .i64 a0_0, .int .i64 a0_1] 36 (0, 0)) BK101.out) : gb108 ≠ gb101)); clear BK101; clear HB; have BK101 := n0_; have HB := n1_; have BK108 := n2_; have GW108 := n3_; have GE108 := n4_; have NB101_108 := n5_; have NB108_101 := n6_; clear n0_ n1_ n2_ n3_ n4_ n5_ n6_; clear hb hbox hg; have hnb31 := NB108_101.out; have hnc31 := NB101_108.out; obtain ⟨hcz32_0, hcz32_1, hcz32_2⟩ := kk3_ BK108.1; have hfz32_0 := blk_frozen BK108.out 0; have hfz32_1 := blk_frozen BK108.out 1; have hfz32_2 := blk_frozen BK108.out 2; obtain ⟨hcz33_0, hcz33_1⟩ := kk2_ BK101.1; have hfz33_0 := blk_frozen BK101.out 0; have hfz33_1 := blk_frozen BK101.out 1) | ((with_reducible refine gate_callee (f := 38) rfl ?_); refine goesL_ (some 18) rfl rfl Try.func38 (by kernel_rfl) rfl #[.agg #[.int .i64 a0_0, .int .i64 a0_1]] rfl (by (try simp only [List.map_toArray, List.map_cons, List.map_nil]); rfl) ?_; (with_reducible refine (laws_toGrid.calls a0_0 a0_1 t109 t110 _ A5.out).mono ?_); rintro e w34 ⟨rfl, hb⟩; (try clear A5); refine ⟨_, rfl, ?_⟩; have n0_ := Aside0.mk (blk_below (g := gb101) (o := .cells #[.int .i64 a0_0, .int .i64 a0_1] 36 (0, 0)) (by refine blk_far ?_ NB101_108.out _; refine blk_far ?_ NB101_108.out _; refine blk_far ?_ NB101_108.out _; exact BK101.out) hb); have n1_ := Aside0.mk (blk_below (g := gb108) (o := .cells #[.int .i64 t104, .int .i64 t105, .int .i64 t106] 42 (0, 0)) (by refine blk_put (cs := #[.int .i64 t104, .int .i64 t105, .int .i64 0]) ?_ 2 _ rfl; refine blk_put (cs := #[.int .i64 t104, .int .i64 0, .int .i64 0]) ?_ 1 _ rfl; refine blk_put (cs := #[.int .i64 0, .int .i64 0, .int .i64 0]) ?_ 0 _ rfl; exact BK108.out) hb); have n2_ := Aside0.mk (below_step (by repeat ((with_reducible first | exact HB.out | refine below_set ?_ GE108.out))) hb); clear BK101; clear BK108; clear HB; have BK101 := n0_; have BK108 := n1_; have HB := n2_; clear n0_ n1_ n2_; (try clear hb); (try clear hb2); (try clear hk); (try clear hi)) | ((with_reducible refine gate_callee (f := 44) rfl ?_); refine goesL_ (some 20) rfl rfl Try.func44 (by kernel_rfl) rfl #[.agg #[.int .i64 t109, .int .i64 t110], .int .i64 a1] rfl (by (try simp only [List.map_toArray, List.map_cons, List.map_nil]); rfl) ?_; (with_reducible refine (impl_MazeAt.calls k t109 t110 a1 t111 t112 t113 t114 _ A6.out).mono ?_); rintro e w35 ⟨rfl, hb⟩; (try clear A6); refine ⟨_, rfl, ?_⟩; have n0_ := Aside0.mk (blk_below (g := gb101) (o := .cells #[.int .i64 a0_0, .int .i64 a0_1] 36 (0, 0)) BK101.out hb); have n1_ := Aside0.mk (blk_below (g := gb108) (o := .cells #[.int .i64 t104, .int .i64 t105, .int .i64 t106] 42 (0, 0)) BK108.out hb); have n2_ := Aside0.mk (below_step HB.out hb); clear BK101; clear BK108; clear HB; have BK101 := n0_; have BK108 := n1_; have HB := n2_; clear n0_ n1_ n2_; (try clear hb); (try clear hb2); (try clear hk); (try clear hi)) | ((with_reducible refine gate_dst (N := 7) rfl ?_); refine box_event ?hg (N := 7) ?hd (cs := #[.int .i64 0, .int .i64 0, .int .i64 0]) (t := 42) ?hr ?_; (case hd => rfl); (case hg => rfl); (case hr => (go_simp; done)); intro gb115 hg w36 hbox hb; have n0_ := Aside0.mk (blk_below (g := gb101) (o := .cells #[.int .i64 a0_0, .int .i64 a0_1] 36 (0, 0)) BK101.out hb); have n1_ := Aside0.mk (blk_below (g := gb108) (o := .cells #[.int .i64 t104, .int .i64 t105, .int .i64 t106] 42 (0, 0)) BK108.out hb); have n2_ := Aside0.mk (below_step HB.out hb); have n3_ := Aside0.mk (hbox); have n4_ := Aside0.mk ((by rw [hg]; exact (below_size HB.out) : w.heap.size ≤ gb115)); have n5_ := Aside0.mk ((by rw [hg]; exact (below_size HB.out) : w.heap.size ≤ gb115)); have n6_ := Aside0.mk ((by rw [hg]; exact Nat.ne_of_lt (blk_lt (g := gb101) (o := .cells #[.int .i64 a0_0, .int .i64 a0_1] 36 (0, 0)) BK101.out) : gb101 ≠ gb115)); have n7_ := Aside0.mk ((by rw [hg]; exact Nat.ne_of_gt (blk_lt (g := gb101) (o := .cells #[.int .i64 a0_0, .int .i64 a0_1] 36 (0, 0)) BK101.out) : gb115 ≠ gb101)); have n8_ := Aside0.mk ((by rw [hg]; exact Nat.ne_of_lt (blk_lt (g := gb108) (o := .cells #[.int .i64 t104, .int .i64 t105, .int .i64 t106] 42 (0, 0)) BK108.out) : gb108 ≠ gb115)); have n9_ := Aside0.mk ((by rw [hg]; exact Nat.ne_of_gt (blk_lt (g := gb108) (o := .cells #[.int .i64 t104, .int .i64 t105, .int .i64 t106] 42 (0, 0)) BK108.out) : gb115 ≠ gb108)); clear BK101; clear BK108; clear HB; have BK101 := n0_; have BK108 := n1_; have HB := n2_; have BK115 := n3_; have GW115 := n4_; have GE115 := n5_; have NB101_115 := n6_; have NB115_101 := n7_; have NB108_115 := n8_; have NB115_108 := n9_; clear n0_ n1_ n2_ n3_ n4_ n5_ n6_ n7_ n8_ n9_; clear hb hbox hg; have hnb37 := NB115_101.out; have hnc37 := NB101_115.out; have hnb38 := NB115_108.out; have hnc38 := NB108_115.out; obtain ⟨hcz39_0, hcz39_1, hcz39_2⟩ := kk3_ BK115.1; have hfz39_0 := blk_frozen BK115.out 0; have hfz39_1 := blk_frozen BK115.out 1; have hfz39_2 := blk_frozen BK115.out 2; obtain ⟨hcz40_0, hcz40_1, hcz40_2⟩ := kk3_ BK108.1; have hfz40_0 := blk_frozen BK108.out 0; have hfz40_1 := blk_frozen BK108.out 1; have hfz40_2 := blk_frozen BK108.out 2) | ((with_reducible refine gate_callee (f := 48) rfl ?_); refine goesL_ (some 25) rfl rfl Try.func48 (by kernel_rfl) rfl #[.agg #[.int .i64 t111, .int .i64 t112, .int .i64 t113], .agg #[.int .i64 t104, .int .i64 t105, .int .i64 t106]] rfl (by (try simp only [List.map_toArray, List.map_cons, List.map_nil]); rfl) ?_; (with_reducible refine (laws_eqMaze.calls t111 t112 t113 t104 t105 t106 true _ A7.out).mono ?_); rintro e w41 ⟨rfl, hb⟩; (try clear A7); refine ⟨_, rfl, ?_⟩; have n0_ := Aside0.mk (blk_below (g := gb101) (o := .cells #[.int .i64 a0_0, .int .i64 a0_1] 36 (0, 0)) (by refine blk_far ?_ NB101_115.out _; refine blk_far ?_ NB101_115.out _; refine blk_far ?_ NB101_115.out _; exact BK101.out) hb); have n1_ := Aside0.mk (blk_below (g := gb108) (o := .cells #[.int .i64 t104, .int .i64 t105, .int .i64 t106] 42 (0, 0)) (by refine blk_far ?_ NB108_115.out _; refine blk_far ?_ NB108_115.out _; refine blk_far ?_ NB108_115.out _; exact BK108.out) hb); have n2_ := Aside0.mk (blk_below (g := gb115) (o := .cells #[.int .i64 t111, .int .i64 t112, .int .i64 t113] 42 (0, 0)) (by refine blk_put (cs := #[.int .i64 t111, .int .i64 t112, .int .i64 0]) ?_ 2 _ rfl; refine blk_put (cs := #[.int .i64 t111, .int .i64 0, .int .i64 0]) ?_ 1 _ rfl; refine blk_put (cs := #[.int .i64 0, .int .i64 0, .int .i64 0]) ?_ 0 _ rfl; exact BK115.out) hb); have n3_ := Aside0.mk (below_step (by repeat ((with_reducible first | exact HB.out | refine below_set ?_ GE115.out))) hb); clear BK101; clear BK108; clear BK115; clear HB; have BK101 := n0_; have BK108 := n1_; have BK115 := n2_; have HB := n3_; clear n0_ n1_ n2_ n3_; (try clear hb); (try clear hb2); (try clear hk); (try clear hi)))
      go_ret
      exact ⟨by rfl, by repeat ((with_reducible exact HB.out))⟩
  · replace c8 := Bool.eq_false_iff.mpr c8
    subst c8
    have H1 : (some false) = some r := by rw [if_neg (show ¬ (false = true) by decide)] at H; exact H
    clear H
    have H := H1
    clear H1
    obtain rfl := Option.some.inj H
    go_enter Try.func11, Try.ntmps11
    go_wp2_with (first | ((with_reducible refine gate_dst (N := 2) rfl ?_); refine box_event ?hg (N := 2) ?hd (cs := #[.int .i64 a0_0, .int .i64 a0_1]) (t := 36) ?hr ?_; (case hd => rfl); (case hg => rfl); (case hr => (go_simp; done)); intro gb101 hg w42 hbox hb; have n0_ := Aside0.mk (below_step HB.out hb); have n1_ := Aside0.mk (hbox); have n2_ := Aside0.mk ((by rw [hg]; exact (below_size HB.out) : w.heap.size ≤ gb101)); have n3_ := Aside0.mk ((by rw [hg]; exact (below_size HB.out) : w.heap.size ≤ gb101)); clear HB; have HB := n0_; have BK101 := n1_; have GW101 := n2_; have GE101 := n3_; clear n0_ n1_ n2_ n3_; clear hb hbox hg; obtain ⟨hcz43_0, hcz43_1⟩ := kk2_ BK101.1; have hfz43_0 := blk_frozen BK101.out 0; have hfz43_1 := blk_frozen BK101.out 1) | ((with_reducible refine gate_callee (f := 38) rfl ?_); refine goesL_ (some 11) rfl rfl Try.func38 (by kernel_rfl) rfl #[.agg #[.int .i64 a0_0, .int .i64 a0_1]] rfl (by (try simp only [List.map_toArray, List.map_cons, List.map_nil]); rfl) ?_; (with_reducible refine (laws_toGrid.calls a0_0 a0_1 t102 t103 _ A3.out).mono ?_); rintro e w44 ⟨rfl, hb⟩; (try clear A3); refine ⟨_, rfl, ?_⟩; have n0_ := Aside0.mk (blk_below (g := gb101) (o := .cells #[.int .i64 a0_0, .int .i64 a0_1] 36 (0, 0)) BK101.out hb); have n1_ := Aside0.mk (below_step HB.out hb); clear BK101; clear HB; have BK101 := n0_; have HB := n1_; clear n0_ n1_; (try clear hb); (try clear hb2); (try clear hk); (try clear hi)) | ((with_reducible refine gate_callee (f := 47) rfl ?_); refine goesL_ (some 13) rfl rfl Try.func47 (by kernel_rfl) rfl #[.agg #[.int .i64 t102, .int .i64 t103], .int .i64 a1] rfl (by (try simp only [List.map_toArray, List.map_cons, List.map_nil]); rfl) ?_; (with_reducible refine (spec_MazeAt.calls k t102 t103 a1 t104 t105 t106 t107 _ A4.out).mono ?_); rintro e w45 ⟨rfl, hb⟩; (try clear A4); refine ⟨_, rfl, ?_⟩; have n0_ := Aside0.mk (blk_below (g := gb101) (o := .cells #[.int .i64 a0_0, .int .i64 a0_1] 36 (0, 0)) BK101.out hb); have n1_ := Aside0.mk (below_step HB.out hb); clear BK101; clear HB; have BK101 := n0_; have HB := n1_; clear n0_ n1_; (try clear hb); (try clear hb2); (try clear hk); (try clear hi)) | ((with_reducible refine gate_dst (N := 5) rfl ?_); refine box_event ?hg (N := 5) ?hd (cs := #[.int .i64 0, .int .i64 0, .int .i64 0]) (t := 42) ?hr ?_; (case hd => rfl); (case hg => rfl); (case hr => (go_simp; done)); intro gb108 hg w46 hbox hb; have n0_ := Aside0.mk (blk_below (g := gb101) (o := .cells #[.int .i64 a0_0, .int .i64 a0_1] 36 (0, 0)) BK101.out hb); have n1_ := Aside0.mk (below_step HB.out hb); have n2_ := Aside0.mk (hbox); have n3_ := Aside0.mk ((by rw [hg]; exact (below_size HB.out) : w.heap.size ≤ gb108)); have n4_ := Aside0.mk ((by rw [hg]; exact (below_size HB.out) : w.heap.size ≤ gb108)); have n5_ := Aside0.mk ((by rw [hg]; exact Nat.ne_of_lt (blk_lt (g := gb101) (o := .cells #[.int .i64 a0_0, .int .i64 a0_1] 36 (0, 0)) BK101.out) : gb101 ≠ gb108)); have n6_ := Aside0.mk ((by rw [hg]; exact Nat.ne_of_gt (blk_lt (g := gb101) (o := .cells #[.int .i64 a0_0, .int .i64 a0_1] 36 (0, 0)) BK101.out) : gb108 ≠ gb101)); clear BK101; clear HB; have BK101 := n0_; have HB := n1_; have BK108 := n2_; have GW108 := n3_; have GE108 := n4_; have NB101_108 := n5_; have NB108_101 := n6_; clear n0_ n1_ n2_ n3_ n4_ n5_ n6_; clear hb hbox hg; have hnb47 := NB108_101.out; have hnc47 := NB101_108.out; obtain ⟨hcz48_0, hcz48_1, hcz48_2⟩ := kk3_ BK108.1; have hfz48_0 := blk_frozen BK108.out 0; have hfz48_1 := blk_frozen BK108.out 1; have hfz48_2 := blk_frozen BK108.out 2; obtain ⟨hcz49_0, hcz49_1⟩ := kk2_ BK101.1; have hfz49_0 := blk_frozen BK101.out 0; have hfz49_1 := blk_frozen BK101.out 1) | ((with_reducible refine gate_callee (f := 38) rfl ?_); refine goesL_ (some 18) rfl rfl Try.func38 (by kernel_rfl) rfl #[.agg #[.int .i64 a0_0, .int .i64 a0_1]] rfl (by (try simp only [List.map_toArray, List.map_cons, List.map_nil]); rfl) ?_; (with_reducible refine (laws_toGrid.calls a0_0 a0_1 t109 t110 _ A5.out).mono ?_); rintro e w50 ⟨rfl, hb⟩; (try clear A5); refine ⟨_, rfl, ?_⟩; have n0_ := Aside0.mk (blk_below (g := gb101) (o := .cells #[.int .i64 a0_0, .int .i64 a0_1] 36 (0, 0)) (by refine blk_far ?_ NB101_108.out _; refine blk_far ?_ NB101_108.out _; refine blk_far ?_ NB101_108.out _; exact BK101.out) hb); have n1_ := Aside0.mk (blk_below (g := gb108) (o := .cells #[.int .i64 t104, .int .i64 t105, .int .i64 t106] 42 (0, 0)) (by refine blk_put (cs := #[.int .i64 t104, .int .i64 t105, .int .i64 0]) ?_ 2 _ rfl; refine blk_put (cs := #[.int .i64 t104, .int .i64 0, .int .i64 0]) ?_ 1 _ rfl; refine blk_put (cs := #[.int .i64 0, .int .i64 0, .int .i64 0]) ?_ 0 _ rfl; exact BK108.out) hb); have n2_ := Aside0.mk (below_step (by repeat ((with_reducible first | exact HB.out | refine below_set ?_ GE108.out))) hb); clear BK101; clear BK108; clear HB; have BK101 := n0_; have BK108 := n1_; have HB := n2_; clear n0_ n1_ n2_; (try clear hb); (try clear hb2); (try clear hk); (try clear hi)) | ((with_reducible refine gate_callee (f := 44) rfl ?_); refine goesL_ (some 20) rfl rfl Try.func44 (by kernel_rfl) rfl #[.agg #[.int .i64 t109, .int .i64 t110], .int .i64 a1] rfl (by (try simp only [List.map_toArray, List.map_cons, List.map_nil]); rfl) ?_; (with_reducible refine (impl_MazeAt.calls k t109 t110 a1 t111 t112 t113 t114 _ A6.out).mono ?_); rintro e w51 ⟨rfl, hb⟩; (try clear A6); refine ⟨_, rfl, ?_⟩; have n0_ := Aside0.mk (blk_below (g := gb101) (o := .cells #[.int .i64 a0_0, .int .i64 a0_1] 36 (0, 0)) BK101.out hb); have n1_ := Aside0.mk (blk_below (g := gb108) (o := .cells #[.int .i64 t104, .int .i64 t105, .int .i64 t106] 42 (0, 0)) BK108.out hb); have n2_ := Aside0.mk (below_step HB.out hb); clear BK101; clear BK108; clear HB; have BK101 := n0_; have BK108 := n1_; have HB := n2_; clear n0_ n1_ n2_; (try clear hb); (try clear hb2); (try clear hk); (try clear hi)) | ((with_reducible refine gate_dst (N := 7) rfl ?_); refine box_event ?hg (N := 7) ?hd (cs := #[.int .i64 0, .int .i64 0, .int .i64 0]) (t := 42) ?hr ?_; (case hd => rfl); (case hg => rfl); (case hr => (go_simp; done)); intro gb115 hg w52 hbox hb; have n0_ := Aside0.mk (blk_below (g := gb101) (o := .cells #[.int .i64 a0_0, .int .i64 a0_1] 36 (0, 0)) BK101.out hb); have n1_ := Aside0.mk (blk_below (g := gb108) (o := .cells #[.int .i64 t104, .int .i64 t105, .int .i64 t106] 42 (0, 0)) BK108.out hb); have n2_ := Aside0.mk (below_step HB.out hb); have n3_ := Aside0.mk (hbox); have n4_ := Aside0.mk ((by rw [hg]; exact (below_size HB.out) : w.heap.size ≤ gb115)); have n5_ := Aside0.mk ((by rw [hg]; exact (below_size HB.out) : w.heap.size ≤ gb115)); have n6_ := Aside0.mk ((by rw [hg]; exact Nat.ne_of_lt (blk_lt (g := gb101) (o := .cells #[.int .i64 a0_0, .int .i64 a0_1] 36 (0, 0)) BK101.out) : gb101 ≠ gb115)); have n7_ := Aside0.mk ((by rw [hg]; exact Nat.ne_of_gt (blk_lt (g := gb101) (o := .cells #[.int .i64 a0_0, .int .i64 a0_1] 36 (0, 0)) BK101.out) : gb115 ≠ gb101)); have n8_ := Aside0.mk ((by rw [hg]; exact Nat.ne_of_lt (blk_lt (g := gb108) (o := .cells #[.int .i64 t104, .int .i64 t105, .int .i64 t106] 42 (0, 0)) BK108.out) : gb108 ≠ gb115)); have n9_ := Aside0.mk ((by rw [hg]; exact Nat.ne_of_gt (blk_lt (g := gb108) (o := .cells #[.int .i64 t104, .int .i64 t105, .int .i64 t106] 42 (0, 0)) BK108.out) : gb115 ≠ gb108)); clear BK101; clear BK108; clear HB; have BK101 := n0_; have BK108 := n1_; have HB := n2_; have BK115 := n3_; have GW115 := n4_; have GE115 := n5_; have NB101_115 := n6_; have NB115_101 := n7_; have NB108_115 := n8_; have NB115_108 := n9_; clear n0_ n1_ n2_ n3_ n4_ n5_ n6_ n7_ n8_ n9_; clear hb hbox hg; have hnb53 := NB115_101.out; have hnc53 := NB101_115.out; have hnb54 := NB115_108.out; have hnc54 := NB108_115.out; obtain ⟨hcz55_0, hcz55_1, hcz55_2⟩ := kk3_ BK115.1; have hfz55_0 := blk_frozen BK115.out 0; have hfz55_1 := blk_frozen BK115.out 1; have hfz55_2 := blk_frozen BK115.out 2; obtain ⟨hcz56_0, hcz56_1, hcz56_2⟩ := kk3_ BK108.1; have hfz56_0 := blk_frozen BK108.out 0; have hfz56_1 := blk_frozen BK108.out 1; have hfz56_2 := blk_frozen BK108.out 2) | ((with_reducible refine gate_callee (f := 48) rfl ?_); refine goesL_ (some 25) rfl rfl Try.func48 (by kernel_rfl) rfl #[.agg #[.int .i64 t111, .int .i64 t112, .int .i64 t113], .agg #[.int .i64 t104, .int .i64 t105, .int .i64 t106]] rfl (by (try simp only [List.map_toArray, List.map_cons, List.map_nil]); rfl) ?_; (with_reducible refine (laws_eqMaze.calls t111 t112 t113 t104 t105 t106 false _ A7.out).mono ?_); rintro e w57 ⟨rfl, hb⟩; (try clear A7); refine ⟨_, rfl, ?_⟩; have n0_ := Aside0.mk (blk_below (g := gb101) (o := .cells #[.int .i64 a0_0, .int .i64 a0_1] 36 (0, 0)) (by refine blk_far ?_ NB101_115.out _; refine blk_far ?_ NB101_115.out _; refine blk_far ?_ NB101_115.out _; exact BK101.out) hb); have n1_ := Aside0.mk (blk_below (g := gb108) (o := .cells #[.int .i64 t104, .int .i64 t105, .int .i64 t106] 42 (0, 0)) (by refine blk_far ?_ NB108_115.out _; refine blk_far ?_ NB108_115.out _; refine blk_far ?_ NB108_115.out _; exact BK108.out) hb); have n2_ := Aside0.mk (blk_below (g := gb115) (o := .cells #[.int .i64 t111, .int .i64 t112, .int .i64 t113] 42 (0, 0)) (by refine blk_put (cs := #[.int .i64 t111, .int .i64 t112, .int .i64 0]) ?_ 2 _ rfl; refine blk_put (cs := #[.int .i64 t111, .int .i64 0, .int .i64 0]) ?_ 1 _ rfl; refine blk_put (cs := #[.int .i64 0, .int .i64 0, .int .i64 0]) ?_ 0 _ rfl; exact BK115.out) hb); have n3_ := Aside0.mk (below_step (by repeat ((with_reducible first | exact HB.out | refine below_set ?_ GE115.out))) hb); clear BK101; clear BK108; clear BK115; clear HB; have BK101 := n0_; have BK108 := n1_; have BK115 := n2_; have HB := n3_; clear n0_ n1_ n2_ n3_; (try clear hb); (try clear hb2); (try clear hk); (try clear hi)))
    go_ret
    exact ⟨by rfl, by repeat ((with_reducible exact HB.out))⟩

end Go.Proofs.Ytoohcdfokejkdaa.P
namespace Go.Proofs.Ytoohcdfokejkdaa.Sup
open Go.ChangeShapes Go.WideShapes Go.ChangeAt Go.RowKit Go.Joins Go.Proofs.YtoohcdfokejkdaaW.PrintWords
set_option linter.unusedVariables false
set_option linter.unusedSimpArgs false

/-- The range of an int. -/
def InR (a : Int) : Prop := -9223372036854775808 ≤ a ∧ a ≤ 9223372036854775807
theorem inR_of_wf {a : Int} (h : (Lit.int .i64 a).wf = true) : InR a := by
  simp only [Lit.wf, IntKind.min, IntKind.max, IntKind.signed, IntKind.bits, Bool.and_eq_true, decide_eq_true_eq, if_true] at h
  unfold InR
  omega
section
variable {H : Type} {enc : TypeId × Value → H} {P : Program} {w : World} {base : Nat} {spare : Nat → Bool} {held : Bool}

theorem open2 {r : Reach} {b0 : Nat} {t : TypeId} {f0 f1 : Field} {v : Value} {d : DataW H} {p : List MemPlace} (hs : P.underlying t = some (.struct #[f0, f1])) (h0 : P.underlying f0.type = some (.int .i64)) (h1 : P.underlying f1.type = some (.int .i64))
    (o0 : f0.offset = 0) (o1 : f1.offset = 1) (c0 : P.cellsOf f0.type = 1) (c1 : P.cellsOf f1.type = 1) (hC : P.cellsOf t = 2)
    (hv : Value.okWide P w r b0 t v) (h : DataW.Trod enc P w base spare held t v d p) :
    ∃ a b : Int, v = .agg #[.int .i64 a, .int .i64 b] ∧ InR a ∧ InR b := by
  obtain ⟨cs, rfl, hsz⟩ := okWide_struct hs hv
  obtain ⟨x0, x1, rfl⟩ := array2 (hsz.trans hC)
  obtain ⟨fuel, hf⟩ := h
  obtain ⟨y0, y1, n, hx, _, g0, g1⟩ := trod_struct2 hs hf
  simp only [Value.cells, o0, o1, c0, c1, List.drop_zero, List.take_succ_cons, List.take_zero, List.drop_succ_cons] at g0 g1
  obtain ⟨a, e0, _, w0⟩ := DataW.trod_int h0 g0
  obtain ⟨b, e1, _, w1⟩ := DataW.trod_int h1 g1
  simp at e0 e1
  subst e0 e1
  exact ⟨a, b, rfl, inR_of_wf w0, inR_of_wf w1⟩

end

end Go.Proofs.Ytoohcdfokejkdaa.Sup
namespace Go.Proofs.Ytoohcdfokejkdaa.P
open Go.RowKit Go.Proofs.YtoohcdfokejkdaaW.PrintWords
set_option linter.unusedVariables false
set_option linter.unusedSimpArgs false
section
variable {α β : Type}
theorem Ev.tt {c : Prop} [Decidable c] {g f : Nat → Option α} {r : α} (h : c) (e : Ev g r) : Ev (fun k => if c then g k else f k) r := by simpa only [if_pos h] using e
theorem Ev.ff {c : Prop} [Decidable c] {g f : Nat → Option α} {r : α} (h : ¬ c) (e : Ev f r) : Ev (fun k => if c then g k else f k) r := by simpa only [if_neg h] using e
theorem Ev.ite {c : Prop} [Decidable c] {g f : Nat → Option α} {r : α} (e1 : c → Ev g r) (e2 : ¬ c → Ev f r) : Ev (fun k => if c then g k else f k) r := by
  by_cases h : c
  · exact Ev.tt h (e1 h)
  · exact Ev.ff h (e2 h)
theorem Ev.bnd0 {o : Option α} {f : Nat → α → Option β} {a : α} {r : β} (h : o = some a) (k : Ev (fun n => f n a) r) : Ev (fun n => o.bind (f n)) r := by subst h; exact k
theorem Ev.ret {a r : α} (h : a = r) : Ev (fun _ => some a) r := ⟨0, fun _ _ => by rw [h]⟩
theorem Ev.eq {g : Nat → Option α} {r r' : α} (h : Ev g r) (e : r = r') : Ev g r' := e ▸ h
end
theorem wrap64_id {x : Int} (h0 : -9223372036854775808 ≤ x) (h1 : x ≤ 9223372036854775807) : wrap64 x = x := by unfold wrap64; omega
theorem wsucc {i : Nat} (h : i < 4611686018427387904) : wrap64 ((i : Int) + 1) = ((i + 1 : Nat) : Int) := by unfold wrap64; omega
theorem rd_nat (l : List Int) (i : Nat) : rd l (i : Int) = l.getD i 0 := rfl
theorem rd_get {l : List Int} {i : Nat} (h : i < l.length) : rd l (i : Int) = l[i] := by simp [rd_nat, List.getD_eq_getElem?_getD, List.getElem?_eq_getElem h]
end Go.Proofs.Ytoohcdfokejkdaa.P
namespace Go.Proofs.Ytoohcdfokejkdaa.P
open Go.RowKit Go.Proofs.YtoohcdfokejkdaaW.PrintWords
set_option linter.unusedVariables false
set_option linter.unusedSimpArgs false

theorem l01In_eq (a b c : Int) : spec_l01In.f a b c = some (decide (b ≤ a ∧ a ≤ c)) := by
  unfold spec_l01In.f
  by_cases h : a ≥ b
  · rw [if_pos h]; congr 1; simp; omega
  · rw [if_neg h]; congr 1; simp; omega

end Go.Proofs.Ytoohcdfokejkdaa.P
namespace Go.Proofs.Ytoohcdfokejkdaa.P
open Go Go.RowKit Go.Proofs.YtoohcdfokejkdaaW.PrintWords
set_option linter.unusedVariables false
set_option linter.unusedSimpArgs false

theorem wrap_small {n : Nat} (h : n < 9223372036854775808) : IntKind.i64.wrap (n : Int) = n := by
  rw [IntKind.wrap_i64]; omega
theorem shl_pow {k : Nat} (h : k < 63) : shl .i64 1 (k : Int) = ((2 ^ k : Nat) : Int) := by
  have h1 : (2 : Nat) ^ k < 2 ^ 63 := Nat.pow_lt_pow_right (by decide) h
  unfold shl
  rw [show min (k : Int).toNat IntKind.i64.bits = k by simp [IntKind.bits]; omega, Int.one_mul]
  have := wrap_small (n := 2 ^ k) (by simpa using h1)
  simpa using this
theorem bits_and {a b : Nat} (ha : a < 4611686018427387904) (hb : b < 4611686018427387904) : Go.bits .and .i64 a b = ((a &&& b : Nat) : Int) :=
  (bits_nat .i64 62 (by decide) (fun n h0 h1 => by rw [IntKind.wrap_i64]; omega) a b (by simpa using ha) (by simpa using hb)).1
theorem bits_or {a b : Nat} (ha : a < 4611686018427387904) (hb : b < 4611686018427387904) : Go.bits .or .i64 a b = ((a ||| b : Nat) : Int) :=
  (bits_nat .i64 62 (by decide) (fun n h0 h1 => by rw [IntKind.wrap_i64]; omega) a b (by simpa using ha) (by simpa using hb)).2
/-- a without the bits of b. -/
def andNot (a b : Nat) : Nat := a ^^^ (a &&& b)
theorem testBit_andNot (a b i : Nat) : (andNot a b).testBit i = (a.testBit i && !b.testBit i) := by
  simp [andNot]
  cases a.testBit i <;> cases b.testBit i <;> rfl
theorem andNot_le (a b : Nat) : andNot a b ≤ a := by
  apply Nat.le_of_testBit
  intro i h
  rw [testBit_andNot] at h
  simp at h
  exact h.1
theorem bits_andNot {a b : Nat} (ha : a < 4611686018427387904) (hb : b < 4611686018427387904) : Go.bits .andNot .i64 a b = ((andNot a b : Nat) : Int) := by
  have e : (BitVec.ofInt 64 (a : Int) &&& ~~~ BitVec.ofInt 64 (b : Int)).toNat = andNot a b := by
    rw [BitVec.ofInt_natCast, BitVec.ofInt_natCast]
    apply Nat.eq_of_testBit_eq
    intro i
    rw [testBit_andNot, BitVec.testBit_toNat, BitVec.getLsbD_and, BitVec.getLsbD_not, BitVec.getLsbD_ofNat, BitVec.getLsbD_ofNat]
    by_cases h : i < 64
    · simp [h]
    · have : a.testBit i = false := Nat.testBit_lt_two_pow (Nat.lt_of_lt_of_le (by simpa using ha : a < 2 ^ 62) (Nat.pow_le_pow_right (by decide) (by omega)))
      simp [h, this]
  show IntKind.i64.wrap ((BitVec.ofInt 64 (a : Int) &&& ~~~ BitVec.ofInt 64 (b : Int)).toNat : Int) = _
  rw [e]
  exact wrap_small (by have := andNot_le a b; omega)
theorem shr_nat {m : Nat} (hm : m < 4611686018427387904) (k : Nat) : shr .i64 (m : Int) (k : Int) = ((m / 2 ^ k : Nat) : Int) := by
  unfold shr
  by_cases h : k ≤ 64
  · rw [show min (k : Int).toNat IntKind.i64.bits = k by simp [IntKind.bits]; omega]
    simp
  · rw [show min (k : Int).toNat IntKind.i64.bits = 64 by simp [IntKind.bits]; omega]
    have h1 : m / 2 ^ k = 0 := Nat.div_eq_of_lt (Nat.lt_of_lt_of_le (by simpa using hm : m < 2 ^ 62) (Nat.pow_le_pow_right (by decide) (by omega)))
    rw [h1]
    have : (m : Int) / 2 ^ 64 = ((m / 2 ^ 64 : Nat) : Int) := by simp
    rw [this, Nat.div_eq_of_lt (by omega)]
/-- The test of a bit, as the program and the reference make it. -/
theorem bit_test {m : Nat} (hm : m < 4611686018427387904) (k : Nat) (c : Int) : (Go.bits .and .i64 (shr .i64 (m : Int) (k : Int)) 1 == c) = (((m.testBit k).toNat : Int) == c) := by
  rw [shr_nat hm, show (1 : Int) = ((1 : Nat) : Int) from rfl, bits_and (Nat.lt_of_le_of_lt (Nat.div_le_self _ _) hm) (by decide)]
  congr 2
  rw [Nat.testBit_eq_decide_div_mod_eq, Nat.and_one_is_mod]
  have := Nat.mod_two_eq_zero_or_one (m / 2 ^ k)
  rcases this with h | h <;> simp [h]
theorem bit_one {m : Nat} (hm : m < 4611686018427387904) (k : Nat) : (Go.bits .and .i64 (shr .i64 (m : Int) (k : Int)) 1 == 1) = m.testBit k := by
  rw [bit_test hm]
  cases m.testBit k <;> rfl
theorem bit_zero {m : Nat} (hm : m < 4611686018427387904) (k : Nat) : (Go.bits .and .i64 (shr .i64 (m : Int) (k : Int)) 1 == 0) = !m.testBit k := by
  rw [bit_test hm]
  cases m.testBit k <;> rfl
/-- A number with one bit set, or not. -/
def setB (o g : Nat) (b : Bool) : Nat := if b then o ||| 2 ^ g else andNot o (2 ^ g)
theorem testBit_setB (o g : Nat) (b : Bool) (i : Nat) : (setB o g b).testBit i = if i = g then b else o.testBit i := by
  unfold setB
  cases b
  · simp only [Bool.false_eq_true, if_false, testBit_andNot, Nat.testBit_two_pow]
    by_cases h : i = g
    · simp [h]
    · simp [h, show ¬ g = i from fun e => h e.symm]
  · simp only [if_true, Nat.testBit_or, Nat.testBit_two_pow]
    by_cases h : i = g
    · simp [h]
    · simp [h, show ¬ g = i from fun e => h e.symm]
theorem setB_lt {o g n : Nat} (b : Bool) (ho : o < 2 ^ n) (hg : g < n) : setB o g b < 2 ^ n := by
  unfold setB
  split
  · exact Nat.or_lt_two_pow ho (Nat.pow_lt_pow_right (by decide) hg)
  · exact Nat.lt_of_le_of_lt (andNot_le _ _) ho
end Go.Proofs.Ytoohcdfokejkdaa.P
namespace Go.Proofs.Ytoohcdfokejkdaa.P
open Go.RowKit Go.Proofs.YtoohcdfokejkdaaW.PrintWords
set_option linter.unusedVariables false
set_option linter.unusedSimpArgs false

/-- The number of set bits of s under n. -/
def pop : Nat → Nat → Nat
  | 0, _ => 0
  | n + 1, s => pop n s + (s.testBit n).toNat
theorem pop_le (n s : Nat) : pop n s ≤ n := by
  induction n with
  | zero => simp [pop]
  | succ n ih => simp only [pop]; have := Bool.toNat_le (s.testBit n); omega
theorem pop_congr {n s t : Nat} (h : ∀ i, i < n → s.testBit i = t.testBit i) : pop n s = pop n t := by
  induction n with
  | zero => rfl
  | succ n ih => simp only [pop]; rw [ih (fun i hi => h i (by omega)), h n (by omega)]
theorem pop_add (m n s : Nat) : pop (m + n) s = pop m s + pop n (s / 2 ^ m) := by
  induction n with
  | zero => simp [pop]
  | succ n ih =>
    rw [← Nat.add_assoc]
    simp only [pop]
    rw [ih, Nat.add_assoc, Nat.testBit_div_two_pow, Nat.add_comm n m]
theorem pop_mod (n s : Nat) : pop n (s % 2 ^ n) = pop n s := pop_congr fun i hi => by rw [Nat.testBit_mod_two_pow]; simp [hi]
theorem pop_big {n m s : Nat} (h : s < 2 ^ n) (hm : n ≤ m) : pop m s = pop n s := by
  obtain ⟨d, rfl⟩ := Nat.exists_eq_add_of_le hm
  rw [pop_add, Nat.div_eq_of_lt h]
  have : pop d 0 = 0 := by
    induction d with
    | zero => rfl
    | succ d ih => simp only [pop, Nat.zero_testBit]; rw [ih (by omega)]; rfl
  rw [this, Nat.add_zero]
/-- A valid grid. -/
def gridOk (w h : Int) : Bool := decide (1 ≤ w ∧ w ≤ 4 ∧ 1 ≤ h ∧ h ≤ 4)
theorem gridOk_iff {w h : Int} : gridOk w h = true ↔ 1 ≤ w ∧ w ≤ 4 ∧ 1 ≤ h ∧ h ≤ 4 := by simp [gridOk]
/-- The sixteen grids. -/
theorem grid_cases {w h : Int} (hg : gridOk w h = true) : (w = 1 ∨ w = 2 ∨ w = 3 ∨ w = 4) ∧ (h = 1 ∨ h = 2 ∨ h = 3 ∨ h = 4) := by
  rw [gridOk_iff] at hg
  omega
def cellsOf (w h : Int) : Int := if gridOk w h then w * h else 0
def eastOf (w h : Int) : Int := (w - 1) * h
def gapsOf (w h : Int) : Int := if gridOk w h then (w - 1) * h + w * (h - 1) else 0
theorem cellsOf_range (w h : Int) : 0 ≤ cellsOf w h ∧ cellsOf w h ≤ 16 := by
  unfold cellsOf
  split
  · rename_i hg
    obtain ⟨h1 | h1 | h1 | h1, h2 | h2 | h2 | h2⟩ := grid_cases hg <;> subst h1 <;> subst h2 <;> decide
  · omega
theorem gapsOf_range (w h : Int) : 0 ≤ gapsOf w h ∧ gapsOf w h ≤ 24 := by
  unfold gapsOf
  split
  · rename_i hg
    obtain ⟨h1 | h1 | h1 | h1, h2 | h2 | h2 | h2⟩ := grid_cases hg <;> subst h1 <;> subst h2 <;> decide
  · omega
def isCellI (w h c : Int) : Bool := decide (0 ≤ c ∧ c < cellsOf w h)
/-- The neighbor of a cell in a direction. -/
def nbI (w h c d : Int) : Int :=
  if 0 ≤ c ∧ c < cellsOf w h then
    (if d = 0 ∧ 0 < c / w then c - w else if d = 1 ∧ c % w < w - 1 then c + 1 else if d = 2 ∧ c / w < h - 1 then c + w else if d = 3 ∧ 0 < c % w then c - 1 else -1)
  else -1
theorem cellsOf_valid {w h c : Int} (h1 : 0 ≤ c) (h2 : c < cellsOf w h) : gridOk w h = true ∧ cellsOf w h = w * h := by
  unfold cellsOf at *
  by_cases hg : gridOk w h = true
  · exact ⟨hg, if_pos hg⟩
  · rw [if_neg hg] at h2; omega
/-- The number of gaps, as a natural number. -/
def gapsN (w h : Int) : Nat := (gapsOf w h).toNat
theorem gapsN_le (w h : Int) : gapsN w h ≤ 24 := by have := gapsOf_range w h; unfold gapsN; omega
theorem gapsN_cast (w h : Int) : ((gapsN w h : Nat) : Int) = gapsOf w h := by have := gapsOf_range w h; unfold gapsN; omega
/-- A valid maze. -/
def mazeOk (w h o : Int) : Bool := gridOk w h && decide (0 ≤ o ∧ o < 2 ^ gapsN w h)
theorem mazeOk_iff {w h o : Int} : mazeOk w h o = true ↔ gridOk w h = true ∧ ∃ n : Nat, o = (n : Int) ∧ n < 2 ^ gapsN w h := by
  unfold mazeOk
  simp only [Bool.and_eq_true, decide_eq_true_eq]
  constructor
  · rintro ⟨h1, h2, h3⟩
    obtain ⟨n, rfl⟩ := Int.eq_ofNat_of_zero_le h2
    exact ⟨h1, n, rfl, by exact_mod_cast h3⟩
  · rintro ⟨h1, n, rfl, h3⟩
    exact ⟨h1, by omega, by exact_mod_cast h3⟩
theorem open_small {w h : Int} {n : Nat} (hn : n < 2 ^ gapsN w h) : n < 16777216 := Nat.lt_of_lt_of_le hn (Nat.pow_le_pow_right (by decide) (gapsN_le w h))
/-- Is a gap open? -/
def openI (n : Nat) (g : Int) : Bool := decide (0 ≤ g) && n.testBit g.toNat
theorem openI_nat' (n j : Nat) : openI n (j : Int) = n.testBit j := by simp [openI]
def isGapI (w h g : Int) : Bool := decide (0 ≤ g ∧ g < gapsOf w h)
theorem gapsOf_valid {w h g : Int} (h1 : 0 ≤ g) (h2 : g < gapsOf w h) : gridOk w h = true ∧ gapsOf w h = (w - 1) * h + w * (h - 1) := by
  unfold gapsOf at *
  by_cases hg : gridOk w h = true
  · exact ⟨hg, if_pos hg⟩
  · rw [if_neg hg] at h2; omega
/-- The gap between a cell and its neighbor. -/
def gapI (w h c d : Int) : Int :=
  if nbI w h c d < 0 then -1 else if d = 1 ∨ d = 3 then (min c (nbI w h c d)) / w * (w - 1) + (min c (nbI w h c d)) % w else (w - 1) * h + min c (nbI w h c d)
/-- The ends of a gap. -/
def endsI (w h g : Int) : Int × Int :=
  if 0 ≤ g ∧ g < gapsOf w h then (if g < (w - 1) * h then (g / (w - 1) * w + g % (w - 1), g / (w - 1) * w + g % (w - 1) + 1) else (g - (w - 1) * h, g - (w - 1) * h + w)) else (-1, -1)
theorem nb_dir {w h c d : Int} (hn : 0 ≤ nbI w h c d) : (d = 0 ∨ d = 1 ∨ d = 2 ∨ d = 3) ∧ 0 ≤ c ∧ c < cellsOf w h := by
  unfold nbI at hn
  by_cases hc : 0 ≤ c ∧ c < cellsOf w h
  · rw [if_pos hc] at hn
    refine ⟨?_, hc⟩
    repeat' split at hn
    all_goals omega
  · rw [if_neg hc] at hn
    omega
theorem grid_nat {w h : Int} (hg : gridOk w h = true) : ∃ W H : Nat, w = W ∧ h = H ∧ 1 ≤ W ∧ W < 5 ∧ 1 ≤ H ∧ H < 5 := by
  have := gridOk_iff.1 hg
  exact ⟨w.toNat, h.toNat, by omega, by omega, by omega, by omega, by omega, by omega⟩
/-- What is to be known of a step: the other cell, the gap, and the way back. -/
def StepFacts (w h c d : Int) : Prop :=
  nbI w h c d = -1 ∧ gapI w h c d = -1 ∨
  (0 ≤ nbI w h c d ∧ nbI w h c d < cellsOf w h ∧ nbI w h c d ≠ c ∧ 0 ≤ gapI w h c d ∧ gapI w h c d < gapsOf w h ∧
    endsI w h (gapI w h c d) = (min c (nbI w h c d), max c (nbI w h c d)) ∧ nbI w h (nbI w h c d) ((d + 2) % 4) = c ∧ gapI w h (nbI w h c d) ((d + 2) % 4) = gapI w h c d)
instance (w h c d : Int) : Decidable (StepFacts w h c d) := by unfold StepFacts; infer_instance
theorem step_facts_all : ∀ W : Nat, W < 5 → ∀ H : Nat, H < 5 → ∀ c : Nat, c < 16 → ∀ d : Nat, d < 4 → StepFacts W H c d := by decide +kernel
theorem step_facts (w h c d : Int) : StepFacts w h c d := by
  by_cases hn : 0 ≤ nbI w h c d
  · obtain ⟨hd, h0, h1⟩ := nb_dir hn
    obtain ⟨hg, hcw⟩ := cellsOf_valid h0 h1
    obtain ⟨W, H, rfl, rfl, hW1, hW2, hH1, hH2⟩ := grid_nat hg
    have hcr := cellsOf_range (W : Int) (H : Int)
    have := step_facts_all W hW2 H hH2 c.toNat (by omega) d.toNat (by omega)
    rwa [show ((c.toNat : Nat) : Int) = c by omega, show ((d.toNat : Nat) : Int) = d by omega] at this
  · have hm : nbI w h c d = -1 := by
      unfold nbI at *
      by_cases hc : 0 ≤ c ∧ c < cellsOf w h
      · rw [if_pos hc] at *
        obtain ⟨hg, hcw⟩ := cellsOf_valid hc.1 hc.2
        have hgr := gridOk_iff.1 hg
        have hyw : c / w * w + c % w = c := by rw [Int.mul_comm]; exact Int.mul_ediv_add_emod c w
        have hx0 : 0 ≤ c % w := Int.emod_nonneg _ (by omega)
        repeat' split
        · rename_i hh
          rw [if_pos hh] at hn
          have : w ≤ c := by
            have : w * 1 ≤ w * (c / w) := Int.mul_le_mul_of_nonneg_left (by omega) (by omega)
            rw [Int.mul_comm (c / w)] at hyw
            omega
          omega
        · rename_i h1 hh
          rw [if_neg h1, if_pos hh] at hn
          omega
        · rename_i h1 h2 hh
          rw [if_neg h1, if_neg h2, if_pos hh] at hn
          omega
        · rename_i h1 h2 h3 hh
          rw [if_neg h1, if_neg h2, if_neg h3, if_pos hh] at hn
          have : 1 ≤ c := by
            have : 0 ≤ c / w * w := Int.mul_nonneg (Int.ediv_nonneg hc.1 (by omega)) (by omega)
            omega
          omega
        · rfl
      · rw [if_neg hc]
    refine .inl ⟨hm, ?_⟩
    unfold gapI
    rw [if_pos (by omega)]
def EndFacts (w h g : Int) : Prop :=
  0 ≤ g ∧ g < gapsOf w h → 0 ≤ (endsI w h g).1 ∧ (endsI w h g).1 < (endsI w h g).2 ∧ (endsI w h g).2 < cellsOf w h ∧
    (nbI w h (endsI w h g).1 1 = (endsI w h g).2 ∧ gapI w h (endsI w h g).1 1 = g ∨ nbI w h (endsI w h g).1 2 = (endsI w h g).2 ∧ gapI w h (endsI w h g).1 2 = g)
instance (w h g : Int) : Decidable (EndFacts w h g) := by unfold EndFacts; infer_instance
theorem end_facts_all : ∀ W : Nat, W < 5 → ∀ H : Nat, H < 5 → ∀ g : Nat, g < 24 → EndFacts W H g := by decide +kernel
theorem end_facts {w h g : Int} (h0 : 0 ≤ g) (h1 : g < gapsOf w h) : 0 ≤ (endsI w h g).1 ∧ (endsI w h g).1 < (endsI w h g).2 ∧ (endsI w h g).2 < cellsOf w h ∧
    (nbI w h (endsI w h g).1 1 = (endsI w h g).2 ∧ gapI w h (endsI w h g).1 1 = g ∨ nbI w h (endsI w h g).1 2 = (endsI w h g).2 ∧ gapI w h (endsI w h g).1 2 = g) := by
  obtain ⟨hg, _⟩ := gapsOf_valid h0 h1
  obtain ⟨W, H, rfl, rfl, hW1, hW2, hH1, hH2⟩ := grid_nat hg
  have hr := gapsOf_range (W : Int) (H : Int)
  have := end_facts_all W hW2 H hH2 g.toNat (by omega)
  rw [show ((g.toNat : Nat) : Int) = g by omega] at this
  exact this ⟨h0, h1⟩
theorem nb_lt {w h c d : Int} : nbI w h c d = -1 ∨ 0 ≤ nbI w h c d ∧ nbI w h c d < cellsOf w h := by
  rcases step_facts w h c d with h1 | h1
  · exact .inl h1.1
  · exact .inr ⟨h1.1, h1.2.1⟩
/-- The cell behind an open gap, or -1. -/
def stepI (w h : Int) (n : Nat) (c d : Int) : Int := if openI n (gapI w h c d) then nbI w h c d else -1
theorem step_lt {w h c d : Int} {n : Nat} : stepI w h n c d = -1 ∨ 0 ≤ stepI w h n c d ∧ stepI w h n c d < cellsOf w h := by
  unfold stepI
  split
  · exact nb_lt
  · exact .inl rfl
end Go.Proofs.Ytoohcdfokejkdaa.P
namespace Go.Proofs.Ytoohcdfokejkdaa.P
open Go.RowKit Go.Proofs.YtoohcdfokejkdaaW.PrintWords Go.Proofs.Ytoohcdfokejkdaa.Sup
set_option linter.unusedVariables false
set_option linter.unusedSimpArgs false

theorem spec_GridOk_eq (w h : Int) : spec_GridOk.f w h = some (gridOk w h) := by
  unfold spec_GridOk.f
  simp only [l01In_eq, Option.bind_some]
  unfold gridOk
  by_cases h1 : 1 ≤ w ∧ w ≤ 4
  · simp only [h1, and_self, decide_true, if_true, true_and]
  · have : ¬ (1 ≤ w ∧ w ≤ 4 ∧ 1 ≤ h ∧ h ≤ 4) := by omega
    rw [decide_eq_false h1, decide_eq_false this]; simp
theorem impl_GridOk_eq (w h : Int) : impl_GridOk.f w h = some (gridOk w h) := by
  unfold impl_GridOk.f gridOk
  repeat' split
  all_goals congr 1
  all_goals first | (rw [decide_eq_decide]; omega) | (symm; rw [decide_eq_false_iff_not]; omega)

theorem impl_CountCells_eq (w h : Int) : impl_CountCells.f w h = some (cellsOf w h) := by
  unfold impl_CountCells.f
  rw [impl_GridOk_eq, Option.bind_some]
  have := cellsOf_range w h
  unfold cellsOf at *
  by_cases hg : gridOk w h = true
  · rw [if_pos hg] at *
    rw [if_pos hg, wrap64_id (by omega) (by omega)]
  · rw [if_neg hg, if_neg hg]
theorem spec_CountCells_eq (w h : Int) : spec_CountCells.f w h = some (cellsOf w h) := by
  unfold spec_CountCells.f
  rw [spec_GridOk_eq, Option.bind_some]
  have := cellsOf_range w h
  unfold cellsOf at *
  by_cases hg : gridOk w h = true
  · rw [if_pos hg] at *
    rw [if_pos hg, wrap64_id (by omega) (by omega)]
  · rw [if_neg hg, if_neg hg]
theorem impl_CountGaps_eq (w h : Int) : impl_CountGaps.f w h = some (gapsOf w h) := by
  unfold impl_CountGaps.f
  rw [impl_GridOk_eq, Option.bind_some]
  unfold gapsOf
  by_cases hg : gridOk w h = true
  · rw [if_pos hg, if_pos hg]
    obtain ⟨h1 | h1 | h1 | h1, h2 | h2 | h2 | h2⟩ := grid_cases hg <;> subst h1 <;> subst h2 <;> simp [wrap64, eastOf]
  · rw [if_neg hg, if_neg hg]
theorem spec_l02East_eq {w h : Int} (hg : gridOk w h = true) : spec_l02East.f w h = some (eastOf w h) := by
  unfold spec_l02East.f eastOf
  obtain ⟨h1 | h1 | h1 | h1, h2 | h2 | h2 | h2⟩ := grid_cases hg <;> subst h1 <;> subst h2 <;> simp [wrap64, eastOf]
theorem spec_CountGaps_eq (w h : Int) : spec_CountGaps.f w h = some (gapsOf w h) := by
  unfold spec_CountGaps.f
  rw [spec_GridOk_eq, Option.bind_some]
  unfold gapsOf
  by_cases hg : gridOk w h = true
  · rw [if_pos hg, if_pos hg, spec_l02East_eq hg, Option.bind_some]
    obtain ⟨h1 | h1 | h1 | h1, h2 | h2 | h2 | h2⟩ := grid_cases hg <;> subst h1 <;> subst h2 <;> simp [wrap64, eastOf]
  · rw [if_neg hg, if_neg hg]

/-- 2 to the power of a small number. -/
theorem shl_one {n : Int} (h0 : 0 ≤ n) (h1 : n ≤ 24) : shl .i64 1 n = 2 ^ n.toNat := by
  obtain ⟨m, rfl⟩ := Int.eq_ofNat_of_zero_le h0
  have : m ≤ 24 := by omega
  clear h0 h1
  revert m
  decide +kernel
end Go.Proofs.Ytoohcdfokejkdaa.P
namespace Go.Proofs.Ytoohcdfokejkdaa.P
open Go.RowKit Go.Proofs.YtoohcdfokejkdaaW.PrintWords Go.Proofs.YtoohcdfokejkdaaW.PrintLast Go.Proofs.YtoohcdfokejkdaaW.PrintMore
attribute [local go_sem] max2_int min2_int max_two min_two max_three min_three max_four min_four   -- for this text's walks alone
set_option linter.unusedVariables false
set_option linter.unusedSimpArgs false

/-! ### spec_Neighbor: function 101 -/
end Go.Proofs.Ytoohcdfokejkdaa.P
namespace Go.Proofs.Ytoohcdfokejkdaa.P
open Go.RowKit Go.Proofs.YtoohcdfokejkdaaW.PrintWords
set_option linter.unusedVariables false
set_option linter.unusedSimpArgs false

theorem impl_isCell_eq (w h c : Int) : impl_isCell.f w h c = some (isCellI w h c) := by
  unfold impl_isCell.f isCellI
  rw [impl_CountCells_eq]
  by_cases hc : c ≥ 0
  · rw [if_pos hc, Option.bind_some]; congr 1; rw [decide_eq_decide]; omega
  · rw [if_neg hc]; congr 1; symm; rw [decide_eq_false_iff_not]; omega
theorem impl_Neighbor_ev (w h c d : Int) : Ev (fun k => impl_Neighbor.f k w h c d) (nbI w h c d) := by
  unfold impl_Neighbor.f nbI
  refine Ev.bnd0 (impl_isCell_eq w h c) ?_
  unfold isCellI
  by_cases hc : 0 ≤ c ∧ c < cellsOf w h
  · rw [if_pos hc]
    obtain ⟨hg, hcw⟩ := cellsOf_valid hc.1 hc.2
    have hcr := cellsOf_range w h
    have hgr := gridOk_iff.1 hg
    refine Ev.tt (by simpa using hc) (Ev.ff (by omega) ?_)
    have hx0 : 0 ≤ c % w := Int.emod_nonneg _ (by omega)
    have hx1 : c % w < w := Int.emod_lt_of_pos _ (by omega)
    have hy0 : 0 ≤ c / w := Int.ediv_nonneg hc.1 (by omega)
    have hy1 : c / w ≤ c := Int.ediv_le_self _ hc.1
    rw [Int.tmod_eq_emod_of_nonneg hc.1, Int.tdiv_eq_ediv_of_nonneg hc.1, wrap64_id (x := c / w) (by omega) (by omega)]
    generalize c % w = x at *
    generalize c / w = y at *
    have j2 : ∀ b : Bool, (d ≠ 0 ∨ ¬ 0 < y) → (d ≠ 1 ∨ ¬ x < w - 1) → (b = true ↔ d = 2 ∧ y < h - 1) → Ev (fun k => impl_Neighbor.j2 k c d x b w h) (if d = 2 ∧ y < h - 1 then c + w else if d = 3 ∧ 0 < x then c - 1 else -1) := by
      intro b _ _ hb
      refine Ev.step (fun _ => impl_Neighbor.j2.eq_2 ..) ?_
      refine Ev.ite (fun e => ?_) (fun e => ?_)
      · rw [if_pos (hb.1 e), wrap64_id (by omega) (by omega)]; exact Ev.ret rfl
      · rw [if_neg (fun h => e (hb.2 h))]
        refine Ev.ite (fun e3 => Ev.ite (fun e4 => ?_) (fun e4 => ?_)) (fun e3 => ?_)
        · rw [if_pos ⟨e3, e4⟩, wrap64_id (by omega) (by omega)]; exact Ev.ret rfl
        · rw [if_neg (fun h => e4 h.2)]; exact Ev.ret rfl
        · rw [if_neg (fun h => e3 h.1)]; exact Ev.ret rfl
    have j1 : ∀ b : Bool, (d ≠ 0 ∨ ¬ 0 < y) → (b = true ↔ d = 1 ∧ x < w - 1) → Ev (fun k => impl_Neighbor.j1 k c d x y b w h) (if d = 1 ∧ x < w - 1 then c + 1 else if d = 2 ∧ y < h - 1 then c + w else if d = 3 ∧ 0 < x then c - 1 else -1) := by
      intro b h0 hb
      refine Ev.step (fun _ => impl_Neighbor.j1.eq_2 ..) ?_
      refine Ev.ite (fun e => ?_) (fun e => ?_)
      · rw [if_pos (hb.1 e), wrap64_id (by omega) (by omega)]; exact Ev.ret rfl
      · have hn : ¬ (d = 1 ∧ x < w - 1) := fun h => e (hb.2 h)
        rw [if_neg hn]
        refine Ev.ite (fun e2 => ?_) (fun e2 => ?_)
        · refine j2 _ h0 (by omega) ?_
          rw [wrap64_id (by omega) (by omega)]
          simp [e2]
        · exact j2 _ h0 (by omega) (by simp [e2])
    have j0 : ∀ b : Bool, (b = true ↔ d = 0 ∧ 0 < y) → Ev (fun k => impl_Neighbor.j0 k c d x y b w h) (if d = 0 ∧ 0 < y then c - w else if d = 1 ∧ x < w - 1 then c + 1 else if d = 2 ∧ y < h - 1 then c + w else if d = 3 ∧ 0 < x then c - 1 else -1) := by
      intro b hb
      refine Ev.step (fun _ => impl_Neighbor.j0.eq_2 ..) ?_
      refine Ev.ite (fun e => ?_) (fun e => ?_)
      · rw [if_pos (hb.1 e), wrap64_id (by omega) (by omega)]; exact Ev.ret rfl
      · have hn : ¬ (d = 0 ∧ 0 < y) := fun h => e (hb.2 h)
        rw [if_neg hn]
        refine Ev.ite (fun e2 => ?_) (fun e2 => ?_)
        · refine j1 _ (by omega) ?_
          rw [wrap64_id (by omega) (by omega)]
          simp [e2]
        · exact j1 _ (by omega) (by simp [e2])
    refine Ev.ite (fun e => ?_) (fun e => ?_)
    · exact j0 _ (by simp [e])
    · exact j0 _ (by simp [e])
  · rw [if_neg hc]
    exact Ev.ff (by simpa using hc) (Ev.ret rfl)
end Go.Proofs.Ytoohcdfokejkdaa.P
namespace Go.Proofs.Ytoohcdfokejkdaa.P
open Go.RowKit Go.Proofs.YtoohcdfokejkdaaW.PrintWords Go.Proofs.YtoohcdfokejkdaaW.PrintLast Go.Proofs.YtoohcdfokejkdaaW.PrintMore
attribute [local go_sem] max2_int min2_int max_two min_two max_three min_three max_four min_four   -- for this text's walks alone
set_option linter.unusedVariables false
set_option linter.unusedSimpArgs false

/-! ### spec_MazeOk: function 66 -/
end Go.Proofs.Ytoohcdfokejkdaa.P
namespace Go.Proofs.Ytoohcdfokejkdaa.P
open Go.RowKit Go.Proofs.YtoohcdfokejkdaaW.PrintWords
set_option linter.unusedVariables false
set_option linter.unusedSimpArgs false

theorem impl_MazeOk_eq (w h o : Int) : impl_MazeOk.f w h o = some (mazeOk w h o) := by
  have hc := gapsOf_range w h
  unfold impl_MazeOk.f mazeOk gapsN
  rw [impl_GridOk_eq, Option.bind_some]
  cases hg : gridOk w h
  · simp
  · rw [if_pos rfl, impl_CountGaps_eq, Option.bind_some, if_pos hc.1, shl_one hc.1 hc.2]
    simp only [Bool.true_and]
    split
    · congr 1; rw [decide_eq_decide]; omega
    · congr 1; symm; rw [decide_eq_false_iff_not]; omega
theorem impl_isOpen_eq (w h : Int) {n : Nat} (hn : n < 16777216) (g : Int) : impl_isOpen.f w h n g = some (openI n g) := by
  unfold impl_isOpen.f openI
  by_cases hg : g ≥ 0
  · rw [if_pos hg, if_pos hg]
    obtain ⟨m, rfl⟩ := Int.eq_ofNat_of_zero_le hg
    rw [bit_one (by omega)]
    simp
  · rw [if_neg hg]
    simp; omega
theorem spec_l03Bit_eq {n : Nat} (hn : n < 16777216) {g : Int} (hg : 0 ≤ g) : spec_l03Bit.f n g = some (openI n g) := by
  unfold spec_l03Bit.f openI
  rw [if_pos hg]
  obtain ⟨m, rfl⟩ := Int.eq_ofNat_of_zero_le hg
  rw [bit_one (by omega)]
  simp
theorem impl_isGap_eq (w h g : Int) : impl_isGap.f w h g = some (isGapI w h g) := by
  unfold impl_isGap.f isGapI
  rw [impl_CountGaps_eq]
  by_cases hc : g ≥ 0
  · rw [if_pos hc, Option.bind_some]; congr 1; rw [decide_eq_decide]; omega
  · rw [if_neg hc]; congr 1; symm; rw [decide_eq_false_iff_not]; omega
/-! Sixteen small graphs: facts that are looked through -/
theorem impl_GapAt_ev (w h c d : Int) : Ev (fun k => impl_GapAt.f k w h c d) (gapI w h c d) := by
  unfold impl_GapAt.f gapI
  refine Ev.bind (impl_Neighbor_ev w h c d) ?_
  by_cases hn : nbI w h c d < 0
  · rw [if_pos hn, if_pos hn]
    exact Ev.ret rfl
  · rw [if_neg hn, if_neg hn]
    obtain ⟨hd, h0, h1⟩ := nb_dir (by omega : 0 ≤ nbI w h c d)
    obtain ⟨hg, hcw⟩ := cellsOf_valid h0 h1
    have hcr := cellsOf_range w h
    have hgr := gridOk_iff.1 hg
    have hlt := nb_lt (w := w) (h := h) (c := c) (d := d)
    have hmn : mn c (nbI w h c d) = min c (nbI w h c d) := by unfold mn; omega
    rw [hmn]
    have hm0 : 0 ≤ min c (nbI w h c d) := by omega
    have hm1 : min c (nbI w h c d) ≤ 15 := by omega
    generalize min c (nbI w h c d) = m at *
    have ha0 : 0 ≤ m / w := Int.ediv_nonneg hm0 (by omega)
    have ha1 : m / w ≤ m := Int.ediv_le_self _ hm0
    have hb0 : 0 ≤ m % w := Int.emod_nonneg _ (by omega)
    have hb1 : m % w < w := Int.emod_lt_of_pos _ (by omega)
    have hp0 : 0 ≤ m / w * (w - 1) := Int.mul_nonneg ha0 (by omega)
    have hp1 : m / w * (w - 1) ≤ 15 * 3 := Int.mul_le_mul (by omega) (by omega) (by omega) (by omega)
    have hq0 : 0 ≤ (w - 1) * h := Int.mul_nonneg (by omega) (by omega)
    have hq1 : (w - 1) * h ≤ 3 * 4 := Int.mul_le_mul (by omega) (by omega) (by omega) (by omega)
    rw [Int.tmod_eq_emod_of_nonneg hm0, Int.tdiv_eq_ediv_of_nonneg hm0, wrap64_id (x := m / w) (by omega) (by omega), wrap64_id (x := w - 1) (by omega) (by omega), wrap64_id (x := m / w * (w - 1)) (by omega) (by omega), wrap64_id (x := m / w * (w - 1) + m % w) (by omega) (by omega)]
    refine Ev.ite (fun e => Ev.ff (by omega) ?_) (fun e => Ev.ite (fun e3 => Ev.ff (by omega) ?_) (fun e3 => ?_))
    · rw [if_pos (.inl e)]; exact Ev.ret rfl
    · rw [if_pos (.inr e3)]; exact Ev.ret rfl
    · rw [if_neg (by omega)]
      rw [wrap64_id (x := (w - 1) * h) (by omega) (by omega), wrap64_id (by omega) (by omega)]
      exact Ev.ret rfl
/-- The directions from d on in which s leads somewhere. -/
def waysFrom (s : Int → Int) (d : Nat) : List Int := ([0, 1, 2, 3].drop d).filter fun x => decide (0 ≤ s x)
theorem waysFrom_succ (s : Int → Int) {d : Nat} (hd : d < 4) : waysFrom s d = if 0 ≤ s d then (d : Int) :: waysFrom s (d + 1) else waysFrom s (d + 1) := by
  have : d = 0 ∨ d = 1 ∨ d = 2 ∨ d = 3 := by omega
  rcases this with rfl | rfl | rfl | rfl <;> simp [waysFrom, List.filter_cons]
def waysI (w h : Int) (n : Nat) (c : Int) : List Int := waysFrom (stepI w h n c) 0
theorem impl_Step_ev {w h : Int} {n : Nat} (hg : gridOk w h = true) (hn : n < 2 ^ gapsN w h) (c d : Int) : Ev (fun k => impl_Step.f k w h n c d) (stepI w h n c d) := by
  unfold impl_Step.f stepI
  refine Ev.bnd0 (impl_MazeOk_eq w h n) (Ev.tt (mazeOk_iff.2 ⟨hg, n, rfl, hn⟩) ?_)
  refine Ev.bind (impl_GapAt_ev w h c d) (Ev.bnd0 (impl_isOpen_eq w h (open_small hn) _) ?_)
  by_cases ho : openI n (gapI w h c d) = true
  · rw [if_pos ho]
    exact Ev.tt ho (Ev.bind (impl_Neighbor_ev w h c d) (Ev.ret rfl))
  · rw [if_neg ho]
    exact Ev.ff ho (Ev.ret rfl)
theorem impl_Ways_l0 (w h : Int) (o c : Int) (s : Int → Int) (hs : ∀ d, Ev (fun k => impl_Step.f k w h o c d) (s d)) : ∀ (e d : Nat) (out : List Int), 4 - d = e → d ≤ 4 → out.length ≤ d →
    Ev (fun k => impl_WaysFrom.l0 k c out d w h o) (out ++ waysFrom s d)
  | 0, d, out, he, hd, hl => by
    refine Ev.step (fun _ => impl_WaysFrom.l0.eq_2 ..) ?_
    refine Ev.ff (by omega) (Ev.ret ?_)
    obtain rfl : d = 4 := by omega
    simp [waysFrom]
  | e + 1, d, out, he, hd, hl => by
    refine Ev.step (fun _ => impl_WaysFrom.l0.eq_2 ..) ?_
    refine Ev.tt (by omega) (Ev.bind (hs d) ?_)
    rw [wsucc (by omega), waysFrom_succ s (show d < 4 by omega)]
    refine Ev.ite (fun h1 => Ev.tt (by omega) ?_) (fun h1 => ?_)
    · rw [if_pos (by omega)]
      have := impl_Ways_l0 w h o c s hs e (d + 1) (out ++ [(d : Int)]) (by omega) (by omega) (by simp; omega)
      simpa using this
    · rw [if_neg (by omega)]
      exact impl_Ways_l0 w h o c s hs e (d + 1) out (by omega) (by omega) (by omega)
theorem impl_Ways_ev {w h : Int} {n : Nat} (hg : gridOk w h = true) (hn : n < 2 ^ gapsN w h) (c : Int) : Ev (fun k => impl_WaysFrom.f k w h n c) (waysI w h n c) := by
  unfold impl_WaysFrom.f waysI
  have := impl_Ways_l0 w h n c _ (fun d => impl_Step_ev hg hn c d) 4 0 [] (by omega) (by omega) (by simp)
  simpa using this
end Go.Proofs.Ytoohcdfokejkdaa.P
namespace Go.Proofs.Ytoohcdfokejkdaa.P
open Go.RowKit Go.Proofs.YtoohcdfokejkdaaW.PrintWords Go.Proofs.YtoohcdfokejkdaaW.PrintLast Go.Proofs.YtoohcdfokejkdaaW.PrintMore
attribute [local go_sem] max2_int min2_int max_two min_two max_three min_three max_four min_four   -- for this text's walks alone
set_option linter.unusedVariables false
set_option linter.unusedSimpArgs false

/-! ### spec_GapAt: function 100 -/
/-! ### spec_IsPassage: function 94 -/
/-! ### spec_Step: function 68 -/
/-! ### spec_WaysFrom: function 67 -/
end Go.Proofs.Ytoohcdfokejkdaa.P
namespace Go.Proofs.Ytoohcdfokejkdaa.P
open Go.RowKit Go.Proofs.YtoohcdfokejkdaaW.PrintWords
set_option linter.unusedVariables false
set_option linter.unusedSimpArgs false

/-- Connected by the edges of n. -/
inductive Cn (e : Nat → Nat × Nat) (n : Nat) : Nat → Nat → Prop
  | refl (x : Nat) : Cn e n x x
  | fwd {x : Nat} (k : Nat) : n.testBit k = true → Cn e n x (e k).1 → Cn e n x (e k).2
  | bwd {x : Nat} (k : Nat) : n.testBit k = true → Cn e n x (e k).2 → Cn e n x (e k).1
theorem Cn.trans {e : Nat → Nat × Nat} {n x y z : Nat} (h : Cn e n x y) (g : Cn e n y z) : Cn e n x z := by
  induction g with
  | refl => exact h
  | fwd k hk _ ih => exact .fwd k hk ih
  | bwd k hk _ ih => exact .bwd k hk ih
theorem Cn.edge {e : Nat → Nat × Nat} {n k : Nat} (h : n.testBit k = true) : Cn e n (e k).1 (e k).2 := .fwd k h (.refl _)
theorem Cn.edge' {e : Nat → Nat × Nat} {n k : Nat} (h : n.testBit k = true) : Cn e n (e k).2 (e k).1 := .bwd k h (.refl _)
theorem Cn.symm {e : Nat → Nat × Nat} {n x y : Nat} (h : Cn e n x y) : Cn e n y x := by
  induction h with
  | refl => exact .refl _
  | fwd k hk _ ih => exact (Cn.edge' hk).trans ih
  | bwd k hk _ ih => exact (Cn.edge hk).trans ih
theorem Cn.mono {e : Nat → Nat × Nat} {n m x y : Nat} (hm : ∀ i, n.testBit i = true → m.testBit i = true) (h : Cn e n x y) : Cn e m x y := by
  induction h with
  | refl => exact .refl _
  | fwd k hk _ ih => exact .fwd k (hm k hk) ih
  | bwd k hk _ ih => exact .bwd k (hm k hk) ih
theorem Cn_add {e : Nat → Nat × Nat} {n k x y : Nat} : Cn e (setB n k true) x y ↔ Cn e n x y ∨ (Cn e n x (e k).1 ∧ Cn e n (e k).2 y) ∨ (Cn e n x (e k).2 ∧ Cn e n (e k).1 y) := by
  have hm : ∀ i, n.testBit i = true → (setB n k true).testBit i = true := fun i hi => by rw [testBit_setB]; split <;> simp [hi]
  have hk : (setB n k true).testBit k = true := by rw [testBit_setB]; simp
  constructor
  · intro h
    induction h with
    | refl => exact .inl (.refl _)
    | fwd j hj _ ih =>
      rw [testBit_setB] at hj
      by_cases e1 : j = k
      · subst e1
        rcases ih with ih | ⟨h1, h2⟩ | ⟨h1, h2⟩
        · exact .inr (.inl ⟨ih, .refl _⟩)
        · exact .inr (.inl ⟨h1, .refl _⟩)
        · exact .inl h1
      · rw [if_neg e1] at hj
        rcases ih with ih | ⟨h1, h2⟩ | ⟨h1, h2⟩
        · exact .inl (.fwd j hj ih)
        · exact .inr (.inl ⟨h1, .fwd j hj h2⟩)
        · exact .inr (.inr ⟨h1, .fwd j hj h2⟩)
    | bwd j hj _ ih =>
      rw [testBit_setB] at hj
      by_cases e1 : j = k
      · subst e1
        rcases ih with ih | ⟨h1, h2⟩ | ⟨h1, h2⟩
        · exact .inr (.inr ⟨ih, .refl _⟩)
        · exact .inl h1
        · exact .inr (.inr ⟨h1, .refl _⟩)
      · rw [if_neg e1] at hj
        rcases ih with ih | ⟨h1, h2⟩ | ⟨h1, h2⟩
        · exact .inl (.bwd j hj ih)
        · exact .inr (.inl ⟨h1, .bwd j hj h2⟩)
        · exact .inr (.inr ⟨h1, .bwd j hj h2⟩)
  · rintro (h | ⟨h1, h2⟩ | ⟨h1, h2⟩)
    · exact h.mono hm
    · exact ((h1.mono hm).trans (Cn.edge hk)).trans (h2.mono hm)
    · exact ((h1.mono hm).trans (Cn.edge' hk)).trans (h2.mono hm)
theorem Cn_zero {e : Nat → Nat × Nat} {x y : Nat} : Cn e 0 x y ↔ x = y := by
  constructor
  · intro h
    induction h with
    | refl => rfl
    | fwd k hk => simp at hk
    | bwd k hk => simp at hk
  · rintro rfl; exact .refl _
/-- The first k bits of n. -/
def low (n k : Nat) : Nat := n % 2 ^ k
theorem testBit_low (n k i : Nat) : (low n k).testBit i = (decide (i < k) && n.testBit i) := Nat.testBit_mod_two_pow ..
theorem low_all {n k : Nat} (h : n < 2 ^ k) : low n k = n := Nat.mod_eq_of_lt h
theorem low_succ_set {n k : Nat} (h : n.testBit k = true) : low n (k + 1) = setB (low n k) k true := by
  apply Nat.eq_of_testBit_eq
  intro i
  rw [testBit_setB, testBit_low, testBit_low]
  by_cases e : i = k
  · subst e; simp [h]
  · rw [if_neg e]
    congr 1
    rw [decide_eq_decide]; omega
theorem low_succ_not {n k : Nat} (h : n.testBit k = false) : low n (k + 1) = low n k := by
  apply Nat.eq_of_testBit_eq
  intro i
  rw [testBit_low, testBit_low]
  by_cases e : i = k
  · subst e; simp [h]
  · congr 1
    rw [decide_eq_decide]; omega
/-- The least vertex of the part of v, by the first k edges. -/
def lab (e : Nat → Nat × Nat) (n : Nat) : Nat → Nat → Nat
  | 0, v => v
  | k + 1, v =>
    if n.testBit k = true then
      (if lab e n k v = max (lab e n k (e k).1) (lab e n k (e k).2) then min (lab e n k (e k).1) (lab e n k (e k).2) else lab e n k v)
    else lab e n k v
theorem lab_facts (e : Nat → Nat × Nat) (n : Nat) : ∀ k, (∀ v, lab e n k v ≤ v ∧ lab e n k (lab e n k v) = lab e n k v) ∧ ∀ x y, lab e n k x = lab e n k y ↔ Cn e (low n k) x y
  | 0 => by
    refine ⟨fun v => ⟨Nat.le_refl _, rfl⟩, fun x y => ?_⟩
    have : low n 0 = 0 := by unfold low; simp [Nat.mod_one]
    rw [this, Cn_zero]
    rfl
  | k + 1 => by
    obtain ⟨h1, h2⟩ := lab_facts e n k
    cases hb : n.testBit k with
    | false =>
      simp only [lab, hb, Bool.false_eq_true, if_false]
      rw [low_succ_not hb]
      exact ⟨h1, h2⟩
    | true =>
      simp only [lab, hb, if_true]
      rw [low_succ_set hb]
      refine ⟨fun v => ?_, fun x y => ?_⟩
      · have a1 := h1 v
        have a2 := h1 (e k).1
        have a3 := h1 (e k).2
        grind
      · rw [Cn_add, ← h2, ← h2, ← h2, ← h2, ← h2]
        grind
/-- Tells whether a vertex is the least of its part. -/
theorem lab_le (e : Nat → Nat × Nat) (n k v : Nat) : lab e n k v ≤ v := ((lab_facts e n k).1 v).1
theorem lab_lab (e : Nat → Nat × Nat) (n k v : Nat) : lab e n k (lab e n k v) = lab e n k v := ((lab_facts e n k).1 v).2
theorem lab_iff {e : Nat → Nat × Nat} {n k : Nat} (hn : n < 2 ^ k) (x y : Nat) : lab e n k x = lab e n k y ↔ Cn e n x y := by
  have := (lab_facts e n k).2 x y
  rwa [low_all hn] at this
theorem lab_least {e : Nat → Nat × Nat} {n k : Nat} (hn : n < 2 ^ k) {x y : Nat} (h : Cn e n x y) : lab e n k x ≤ y := by
  rw [(lab_iff hn x y).2 h]
  exact lab_le ..
theorem lab_cn {e : Nat → Nat × Nat} {n k : Nat} (hn : n < 2 ^ k) (x : Nat) : Cn e n x (lab e n k x) := (lab_iff hn _ _).1 (lab_lab ..).symm
/-- How many of the numbers under v. -/
def cnt (p : Nat → Bool) : Nat → Nat
  | 0 => 0
  | v + 1 => cnt p v + (p v).toNat
theorem cnt_congr {p q : Nat → Bool} {v : Nat} (h : ∀ i, i < v → p i = q i) : cnt p v = cnt q v := by
  induction v with
  | zero => rfl
  | succ n ih => simp only [cnt]; rw [ih (fun i hi => h i (by omega)), h n (by omega)]
theorem cnt_le (p : Nat → Bool) (v : Nat) : cnt p v ≤ v := by
  induction v with
  | zero => simp [cnt]
  | succ n ih => simp only [cnt]; have := Bool.toNat_le (p n); omega
theorem cnt_one {p q : Nat → Bool} {v m : Nat} (hm : m < v) (h1 : p m = true) (h2 : q m = false) (h : ∀ i, i < v → i ≠ m → p i = q i) : cnt p v = cnt q v + 1 := by
  induction v with
  | zero => omega
  | succ n ih =>
    simp only [cnt]
    by_cases e : m = n
    · subst e
      rw [cnt_congr (q := q) (fun i hi => h i (by omega) (by omega)), h1, h2]
      simp
    · rw [ih (by omega) (fun i hi hne => h i (by omega) hne), h n (by omega) (fun e' => e e'.symm)]
      omega
theorem cnt_zero_iff {p : Nat → Bool} {v : Nat} : cnt p v = 0 ↔ ∀ i, i < v → p i = false := by
  induction v with
  | zero => simp [cnt]
  | succ n ih =>
    simp only [cnt]
    constructor
    · intro h i hi
      by_cases e : i = n
      · subst e
        cases hp : p i
        · rfl
        · rw [hp] at h; simp at h
      · exact ih.1 (by omega) i (by omega)
    · intro h
      rw [ih.2 (fun i hi => h i (by omega)), h n (by omega)]
      rfl
/-- The number of parts of v vertices, by k edges. -/
def parts (e : Nat → Nat × Nat) (v k n : Nat) : Nat := cnt (fun c => lab e n k c == c) v
theorem rep_iff {e : Nat → Nat × Nat} {n k : Nat} (hn : n < 2 ^ k) (c : Nat) : (lab e n k c == c) = true ↔ ∀ y, Cn e n c y → c ≤ y := by
  rw [beq_iff_eq]
  constructor
  · intro h y hy
    have := lab_least hn hy
    omega
  · intro h
    have := h _ (lab_cn hn c)
    have := lab_le e n k c
    omega
theorem parts_zero (e : Nat → Nat × Nat) (v k : Nat) : parts e v k 0 = v := by
  have : ∀ k c, lab e 0 k c = c := by
    intro k
    induction k with
    | zero => intro c; rfl
    | succ k ih => intro c; simp [lab, ih]
  unfold parts
  simp only [this, beq_self_eq_true]
  induction v with
  | zero => rfl
  | succ n ih => simp only [cnt]; rw [ih]; rfl
/-- One more edge joins two parts, or none. -/
theorem parts_add {e : Nat → Nat × Nat} {v k n j : Nat} (hn : n < 2 ^ k) (hj : j < k) (h1 : (e j).1 < v) (h2 : (e j).2 < v) :
    (Cn e n (e j).1 (e j).2 → parts e v k (setB n j true) = parts e v k n) ∧ (¬ Cn e n (e j).1 (e j).2 → parts e v k n = parts e v k (setB n j true) + 1) := by
  have hn' : setB n j true < 2 ^ k := setB_lt true hn hj
  constructor
  · intro hc
    unfold parts
    refine cnt_congr fun c hcv => ?_
    rw [Bool.eq_iff_iff, rep_iff hn, rep_iff hn']
    simp only [Cn_add]
    constructor
    · intro h y hy; exact h y (.inl hy)
    · rintro h y (hy | ⟨ha, hb⟩ | ⟨ha, hb⟩)
      · exact h y hy
      · exact h y ((ha.trans hc).trans hb)
      · exact h y ((ha.trans hc.symm).trans hb)
  · intro hc
    have hne : lab e n k (e j).1 ≠ lab e n k (e j).2 := fun h => hc ((lab_iff hn _ _).1 h)
    have l1 := lab_le e n k (e j).1
    have l2 := lab_le e n k (e j).2
    have c1 := lab_cn (e := e) hn (e j).1
    have c2 := lab_cn (e := e) hn (e j).2
    unfold parts
    refine cnt_one (m := max (lab e n k (e j).1) (lab e n k (e j).2)) (by omega) ?_ ?_ ?_
    · have := lab_lab e n k (e j).1
      have := lab_lab e n k (e j).2
      rw [beq_iff_eq]
      rcases Nat.le_total (lab e n k (e j).1) (lab e n k (e j).2) with hle | hle
      · rw [Nat.max_eq_right hle]; assumption
      · rw [Nat.max_eq_left hle]; assumption
    · rw [Bool.eq_false_iff]
      intro h
      rw [rep_iff hn'] at h
      rcases Nat.le_total (lab e n k (e j).1) (lab e n k (e j).2) with hle | hle
      · rw [Nat.max_eq_right hle] at h
        have := h (lab e n k (e j).1) (Cn_add.2 (.inr (.inr ⟨c2.symm, c1⟩)))
        omega
      · rw [Nat.max_eq_left hle] at h
        have := h (lab e n k (e j).2) (Cn_add.2 (.inr (.inl ⟨c1.symm, c2⟩)))
        omega
    · intro c hcv hcm
      rw [Bool.eq_iff_iff, rep_iff hn, rep_iff hn']
      simp only [Cn_add]
      constructor
      · rintro h y (hy | ⟨ha, hb⟩ | ⟨ha, hb⟩)
        · exact h y hy
        · have e1 : lab e n k (e j).1 = c := by
            have := h _ (ha.trans c1)
            have := lab_least (e := e) hn ha.symm
            omega
          have := lab_least (e := e) hn hb
          have := lab_le e n k c
          omega
        · have e1 : lab e n k (e j).2 = c := by
            have := h _ (ha.trans c2)
            have := lab_least (e := e) hn ha.symm
            omega
          have := lab_least (e := e) hn hb
          omega
      · intro h y hy; exact h y (.inl hy)
theorem pop_setB {m n j : Nat} (hj : j < m) (h : n.testBit j = false) : pop m (setB n j true) = pop m n + 1 := by
  induction m with
  | zero => omega
  | succ m ih =>
    simp only [pop]
    by_cases e : j = m
    · subst e
      rw [pop_congr (t := n) (fun i hi => by rw [testBit_setB, if_neg (by omega)]), testBit_setB, if_pos rfl, h]
      simp
    · rw [ih (by omega), testBit_setB, if_neg (by omega)]
      omega
theorem setB_off_on {n j : Nat} (h : n.testBit j = true) : setB (setB n j false) j true = n := by
  apply Nat.eq_of_testBit_eq
  intro i
  rw [testBit_setB, testBit_setB]
  by_cases e : i = j
  · subst e; simp [h]
  · simp [e]
theorem setB_bit (n j : Nat) (b : Bool) : (setB n j b).testBit j = b := by rw [testBit_setB, if_pos rfl]
theorem setB_ne {n j i : Nat} (b : Bool) (h : i ≠ j) : (setB n j b).testBit i = n.testBit i := by rw [testBit_setB, if_neg h]
/-- A statement over masks, from none on, an edge at a time. -/
theorem mask_induction {P : Nat → Prop} {k : Nat} (h0 : P 0) (hs : ∀ n j, n < 2 ^ k → j < k → n.testBit j = false → P n → P (setB n j true)) : ∀ n, n < 2 ^ k → P n := by
  intro n hn
  have : ∀ d, d ≤ k → P (low n d) := by
    intro d
    induction d with
    | zero => intro _; have : low n 0 = 0 := by unfold low; simp [Nat.mod_one]
              rw [this]; exact h0
    | succ d ih =>
      intro hd
      cases hb : n.testBit d with
      | false => rw [low_succ_not hb]; exact ih (by omega)
      | true =>
        rw [low_succ_set hb]
        refine hs _ _ (Nat.lt_of_le_of_lt (Nat.mod_le _ _) hn) (by omega) ?_ (ih (by omega))
        rw [testBit_low]; simp
  have := this k (Nat.le_refl k)
  rwa [low_all hn] at this
/-- A graph: the ends of its edges are vertices. -/
def Gr (e : Nat → Nat × Nat) (v k : Nat) : Prop := ∀ j, j < k → (e j).1 < v ∧ (e j).2 < v
/-- The number of loops is no number under 0. -/
theorem loops_nonneg {e : Nat → Nat × Nat} {v k : Nat} (hg : Gr e v k) : ∀ n, n < 2 ^ k → v ≤ pop k n + parts e v k n := by
  refine mask_induction ?_ ?_
  · rw [parts_zero]; omega
  · intro n j hn hj hb ih
    have hp := parts_add (e := e) hn hj (hg j hj).1 (hg j hj).2
    rw [pop_setB hj hb]
    by_cases hc : Cn e n (e j).1 (e j).2
    · rw [hp.1 hc]; omega
    · have := hp.2 hc; omega
theorem lt_of_testBit {n k j : Nat} (hn : n < 2 ^ k) (h : n.testBit j = true) : j < k := by
  rcases Nat.lt_or_ge j k with h1 | h1
  · exact h1
  · rw [Nat.testBit_lt_two_pow (Nat.lt_of_lt_of_le hn (Nat.pow_le_pow_right (by decide) h1))] at h
    cases h
/-- Taking an edge away. -/
theorem parts_del {e : Nat → Nat × Nat} {v k n j : Nat} (hg : Gr e v k) (hn : n < 2 ^ k) (hb : n.testBit j = true) :
    pop k n = pop k (setB n j false) + 1 ∧ (Cn e (setB n j false) (e j).1 (e j).2 → parts e v k (setB n j false) = parts e v k n) ∧ (¬ Cn e (setB n j false) (e j).1 (e j).2 → parts e v k (setB n j false) = parts e v k n + 1) := by
  have hj := lt_of_testBit hn hb
  have hp := parts_add (e := e) (setB_lt false hn hj) hj (hg j hj).1 (hg j hj).2
  have h2 := pop_setB (m := k) (n := setB n j false) hj (setB_bit ..)
  rw [setB_off_on hb] at hp h2
  exact ⟨h2, fun h => (hp.1 h).symm, hp.2⟩
/-- No loops: every edge is a bridge. -/
theorem bridge_of_forest {e : Nat → Nat × Nat} {v k n j : Nat} (hg : Gr e v k) (hn : n < 2 ^ k) (hf : pop k n + parts e v k n = v) (hb : n.testBit j = true) : ¬ Cn e (setB n j false) (e j).1 (e j).2 := by
  intro hc
  obtain ⟨h1, h2, _⟩ := parts_del hg hn hb
  have := h2 hc
  have := loops_nonneg hg (setB n j false) (setB_lt false hn (lt_of_testBit hn hb))
  omega
theorem parts_pos {e : Nat → Nat × Nat} {v k n : Nat} (hn : n < 2 ^ k) (hv : 0 < v) : 0 < parts e v k n := by
  rcases Nat.eq_zero_or_pos (parts e v k n) with h | h
  · have := cnt_zero_iff.1 h 0 hv
    have h0 := lab_le e n k 0
    simp at this
    omega
  · exact h
def upd (D : Nat → Int) (y : Nat) (v : Int) : Nat → Int := fun c => if c = y then v else D c
/-- One direction of one cell. -/
def relax (s : Nat → Nat → Int) (x d : Nat) (S : (Nat → Int) × List Nat) : (Nat → Int) × List Nat :=
  if 0 ≤ s x d ∧ S.1 (s x d).toNat < 0 then (upd S.1 (s x d).toNat (S.1 x + 1), S.2 ++ [(s x d).toNat]) else S
def bround (s : Nat → Nat → Int) (x : Nat) (S : (Nat → Int) × List Nat) : (Nat → Int) × List Nat := relax s x 3 (relax s x 2 (relax s x 1 (relax s x 0 S)))
def bfsF (s : Nat → Nat → Int) : Nat → (Nat → Int) × List Nat → Nat → (Nat → Int)
  | 0, S, _ => S.1
  | f + 1, S, i => match S.2[i]? with
    | none => S.1
    | some x => bfsF s f (bround s x S) (i + 1)
/-- The distances from a cell, or -1. -/
def bfsD (s : Nat → Nat → Int) (v src : Nat) : Nat → Int := bfsF s (v + 1) (upd (fun _ => -1) src 0, [src]) 0
/-- Steps stay among v cells. -/
def Rng (s : Nat → Nat → Int) (v : Nat) : Prop := ∀ x d, x < v → d < 4 → s x d = -1 ∨ (0 ≤ s x d ∧ s x d < (v : Int))

structure BInv (s : Nat → Nat → Int) (v src : Nat) (S : (Nat → Int) × List Nat) (i : Nat) (m : Nat) : Prop where
  src0 : S.1 src = 0
  zero : ∀ c, S.1 c = 0 → c = src
  srcq : src ∈ S.2
  inr : ∀ c ∈ S.2, c < v
  nodup : S.2.Nodup
  neg : ∀ c, S.1 c = -1 ∨ 0 ≤ S.1 c
  mem : ∀ c, 0 ≤ S.1 c ↔ c ∈ S.2
  sorted : S.2.Pairwise (fun a b => S.1 a ≤ S.1 b)
  top : ∀ x, S.2[i]? = some x → ∀ c ∈ S.2, S.1 c ≤ S.1 x + 1
  done : ∀ j x, S.2[j]? = some x → ∀ d, d < 4 → (j < i ∨ (j = i ∧ d < m)) → 0 ≤ s x d → 0 ≤ S.1 (s x d).toNat ∧ S.1 (s x d).toNat ≤ S.1 x + 1
  pred : ∀ c ∈ S.2, c = src ∨ ∃ c' d, c' ∈ S.2 ∧ d < 4 ∧ s c' d = (c : Int) ∧ S.1 c = S.1 c' + 1
theorem BInv.start {s : Nat → Nat → Int} {v src : Nat} (h : src < v) : BInv s v src (upd (fun _ => -1) src 0, [src]) 0 0 where
  src0 := by simp [upd]
  zero := fun c => by simp only [upd]; split <;> simp_all
  srcq := by simp
  inr := by simpa using h
  nodup := by simp
  neg := fun c => by simp only [upd]; split <;> simp
  mem := fun c => by
    simp only [upd, List.mem_singleton]
    split
    · rename_i e; simp [e]
    · rename_i e; simp [e]
  sorted := by simp
  top := fun x hx c hc => by
    simp at hx hc
    subst hx hc
    omega
  done := fun j x hx d hd hj => by omega
  pred := fun c hc => .inl (by simpa using hc)
theorem BInv.relax {s : Nat → Nat → Int} {v src : Nat} (hs : Rng s v) {S : (Nat → Int) × List Nat} {i m x : Nat} (hm : m < 4) (hx : S.2[i]? = some x) (I : BInv s v src S i m) :
    BInv s v src (relax s x m S) i (m + 1) ∧ (relax s x m S).2[i]? = some x := by
  have hxq : x ∈ S.2 := List.mem_of_getElem? hx
  have hi : i < S.2.length := by
    rcases Nat.lt_or_ge i S.2.length with h | h
    · exact h
    · rw [List.getElem?_eq_none h] at hx; cases hx
  have hxv := I.inr x hxq
  have hx0 := (I.mem x).2 hxq
  unfold Go.Proofs.Ytoohcdfokejkdaa.P.relax
  by_cases hc : 0 ≤ s x m ∧ S.1 (s x m).toNat < 0
  · rw [if_pos hc]
    obtain ⟨y, hy⟩ : ∃ y : Nat, s x m = y := ⟨(s x m).toNat, by omega⟩
    have hyv : y < v := by have := hs x m hxv hm; omega
    rw [hy] at hc ⊢
    simp only [Int.toNat_natCast] at hc ⊢
    have hyq : y ∉ S.2 := fun h => by have := (I.mem y).2 h; omega
    have keep : ∀ c, c ∈ S.2 → upd S.1 y (S.1 x + 1) c = S.1 c := by
      intro c h
      unfold upd
      rw [if_neg]
      rintro rfl
      exact hyq h
    have uy : upd S.1 y (S.1 x + 1) y = S.1 x + 1 := by unfold upd; rw [if_pos rfl]
    have idx : ∀ j z, (S.2 ++ [y])[j]? = some z → S.2[j]? = some z ∨ (j = S.2.length ∧ z = y) := by
      intro j z h
      rcases Nat.lt_or_ge j S.2.length with h1 | h1
      · rw [List.getElem?_append_left h1] at h; exact .inl h
      · rw [List.getElem?_append_right h1] at h
        have : j - S.2.length = 0 := by
          rcases Nat.eq_zero_or_pos (j - S.2.length) with h2 | h2
          · exact h2
          · rw [List.getElem?_eq_none (by simp only [List.length_singleton]; omega)] at h; cases h
        rw [this] at h
        simp at h
        exact .inr ⟨by omega, h.symm⟩
    have I0 : ∀ c, (upd S.1 y (S.1 x + 1), S.2 ++ [y]).1 c = 0 → c = src := by
      intro c
      show upd _ _ _ c = 0 → _
      unfold upd
      split
      · intro h; omega
      · exact I.zero c
    refine ⟨{ src0 := ?_, zero := I0, srcq := ?_, inr := ?_, nodup := ?_, neg := ?_, mem := ?_, sorted := ?_, top := ?_, done := ?_, pred := ?_ }, by rw [List.getElem?_append_left hi]; exact hx⟩
    · show upd _ _ _ src = 0
      rw [keep _ I.srcq]; exact I.src0
    · exact List.mem_append_left _ I.srcq
    · intro c hcq
      rcases List.mem_append.1 hcq with h | h
      · exact I.inr c h
      · simp at h; omega
    · rw [List.nodup_append]
      refine ⟨I.nodup, by simp, ?_⟩
      intro a ha b hb hab
      simp at hb
      subst hab hb
      exact hyq ha
    · intro c
      show upd _ _ _ c = -1 ∨ 0 ≤ upd _ _ _ c
      by_cases e : c = y
      · subst e; rw [uy]; omega
      · rw [show upd S.1 y (S.1 x + 1) c = S.1 c from if_neg e]; exact I.neg c
    · intro c
      rw [List.mem_append, List.mem_singleton]
      show 0 ≤ upd _ _ _ c ↔ _
      unfold upd
      by_cases e : c = y
      · rw [if_pos e]; exact ⟨fun _ => .inr e, fun _ => by omega⟩
      · rw [if_neg e, I.mem]; simp [e]
    · rw [List.pairwise_append]
      refine ⟨I.sorted.imp_of_mem fun {a b} ha hb h => ?_, by simp, ?_⟩
      · show upd _ _ _ a ≤ upd _ _ _ b
        rw [keep a ha, keep b hb]; exact h
      · intro a ha b hb
        simp at hb
        subst hb
        show upd _ _ _ a ≤ upd _ _ _ b
        rw [keep a ha, uy]
        exact I.top x hx a ha
    · intro z hz c hcq
      rw [List.getElem?_append_left hi, hx] at hz
      obtain rfl := Option.some.inj hz
      show upd _ _ _ c ≤ upd _ _ _ x + 1
      rw [keep x hxq]
      rcases List.mem_append.1 hcq with h | h
      · rw [keep c h]; exact I.top x hx c h
      · simp at h; subst h; rw [uy]; omega
    · intro j z hz d hd hj h0
      rcases idx j z hz with h | ⟨h, _⟩
      · have hzq : z ∈ S.2 := List.mem_of_getElem? h
        show 0 ≤ upd _ _ _ _ ∧ upd _ _ _ _ ≤ upd _ _ _ z + 1
        rw [keep z hzq]
        by_cases e : j = i ∧ d = m
        · obtain ⟨rfl, rfl⟩ := e
          rw [hx] at h
          obtain rfl := Option.some.inj h
          rw [hy, Int.toNat_natCast, uy]
          omega
        · have := I.done j z h d hd (by omega) h0
          have h1 := (I.mem _).1 this.1
          rw [keep _ h1]
          exact this
      · omega
    · intro c hcq
      rcases List.mem_append.1 hcq with h | h
      · rcases I.pred c h with h1 | ⟨c', d, h1, h2, h3, h4⟩
        · exact .inl h1
        · refine .inr ⟨c', d, List.mem_append_left _ h1, h2, h3, ?_⟩
          show upd _ _ _ c = upd _ _ _ c' + 1
          rw [keep c h, keep c' h1]; exact h4
      · simp at h
        subst h
        refine .inr ⟨x, m, List.mem_append_left _ hxq, hm, hy, ?_⟩
        show upd _ _ _ c = upd _ _ _ x + 1
        rw [uy, keep x hxq]
  · rw [if_neg hc]
    refine ⟨{ I with done := ?_ }, hx⟩
    intro j z hz d hd hj h0
    by_cases e : j = i ∧ d = m
    · obtain ⟨rfl, rfl⟩ := e
      rw [hx] at hz
      obtain rfl := Option.some.inj hz
      have h1 : 0 ≤ S.1 (s x d).toNat := by
        have := I.neg (s x d).toNat
        omega
      exact ⟨h1, I.top x hx _ ((I.mem _).1 h1)⟩
    · exact I.done j z hz d hd (by omega) h0
theorem BInv.next {s : Nat → Nat → Int} {v src : Nat} {S : (Nat → Int) × List Nat} {i x : Nat} (hx : S.2[i]? = some x) (I : BInv s v src S i 4) : BInv s v src S (i + 1) 0 :=
  { I with
    top := fun z hz c hc => by
      have h1 := I.top x hx c hc
      have h2 := List.pairwise_iff_getElem.1 I.sorted i (i + 1)
      obtain ⟨a, rfl⟩ := List.getElem?_eq_some_iff.1 hx
      obtain ⟨b, rfl⟩ := List.getElem?_eq_some_iff.1 hz
      have := h2 a b (by omega)
      omega
    done := fun j z hz d hd hj h0 => I.done j z hz d hd (by omega) h0 }
theorem BInv.round {s : Nat → Nat → Int} {v src : Nat} (hs : Rng s v) {S : (Nat → Int) × List Nat} {i x : Nat} (hx : S.2[i]? = some x) (I : BInv s v src S i 0) : BInv s v src (bround s x S) (i + 1) 0 := by
  obtain ⟨I1, h1⟩ := I.relax hs (by omega) hx
  obtain ⟨I2, h2⟩ := I1.relax hs (by omega) h1
  obtain ⟨I3, h3⟩ := I2.relax hs (by omega) h2
  obtain ⟨I4, h4⟩ := I3.relax hs (by omega) h3
  exact I4.next h4
theorem nodup_len {v : Nat} : ∀ {q : List Nat}, q.Nodup → (∀ c ∈ q, c < v) → q.length ≤ v := by
  induction v with
  | zero =>
    intro q _ h
    cases q with
    | nil => simp
    | cons a l => have := h a (by simp); omega
  | succ v ih =>
    intro q hn h
    have h1 := ih (q := q.erase v) (hn.erase v) (fun c hc => by
      have h1 := h c (List.mem_of_mem_erase hc)
      have : c ≠ v := by rintro rfl; exact absurd hc (List.Nodup.not_mem_erase hn)
      omega)
    have h2 := List.length_erase (a := v) (l := q)
    split at h2 <;> omega
theorem BInv.len {s : Nat → Nat → Int} {v src : Nat} {S : (Nat → Int) × List Nat} {i m : Nat} (I : BInv s v src S i m) : S.2.length ≤ v := nodup_len I.nodup I.inr
/-- What distances are. -/
structure Dist (s : Nat → Nat → Int) (v src : Nat) (D : Nat → Int) : Prop where
  src0 : D src = 0
  zero : ∀ c, D c = 0 → c = src
  neg : ∀ c, D c = -1 ∨ 0 ≤ D c
  inr : ∀ c, 0 ≤ D c → c < v
  lip : ∀ x d, d < 4 → 0 ≤ D x → 0 ≤ s x d → 0 ≤ D (s x d).toNat ∧ D (s x d).toNat ≤ D x + 1
  pred : ∀ c, 0 < D c → ∃ c' d, d < 4 ∧ s c' d = (c : Int) ∧ 0 ≤ D c' ∧ D c = D c' + 1
theorem BInv.dist {s : Nat → Nat → Int} {v src : Nat} {S : (Nat → Int) × List Nat} {i : Nat} (hi : S.2[i]? = none) (I : BInv s v src S i 0) : Dist s v src S.1 where
  src0 := I.src0
  zero := I.zero
  neg := I.neg
  inr := fun c h => I.inr c ((I.mem c).1 h)
  lip := fun x d hd hx h0 => by
    obtain ⟨j, hj⟩ := List.mem_iff_getElem?.1 ((I.mem x).1 hx)
    refine I.done j x hj d hd (.inl ?_) h0
    rcases Nat.lt_or_ge j i with h | h
    · exact h
    · rw [List.getElem?_eq_none_iff] at hi
      rw [List.getElem?_eq_none (by omega)] at hj
      cases hj
  pred := fun c h => by
    rcases I.pred c ((I.mem c).1 (by omega)) with h1 | ⟨c', d, h1, h2, h3, h4⟩
    · rw [h1, I.src0] at h; omega
    · exact ⟨c', d, h2, h3, (I.mem c').2 h1, h4⟩
theorem bfsF_dist {s : Nat → Nat → Int} {v src : Nat} (hs : Rng s v) : ∀ (f : Nat) (S : (Nat → Int) × List Nat) (i : Nat), BInv s v src S i 0 → i ≤ S.2.length → v + 1 - i ≤ f → Dist s v src (bfsF s f S i)
  | 0, S, i, I, hi, hf => by have := I.len; omega
  | f + 1, S, i, I, hi, hf => by
    simp only [bfsF]
    cases h : S.2[i]? with
    | none => exact I.dist h
    | some x =>
      have I2 := I.round hs h
      have hl : S.2.length ≤ (bround s x S).2.length := by
        have h1 : ∀ m T, T.2.length ≤ (Go.Proofs.Ytoohcdfokejkdaa.P.relax s x m T).2.length := by
          intro m T
          unfold Go.Proofs.Ytoohcdfokejkdaa.P.relax
          split <;> simp
        exact Nat.le_trans (h1 0 S) (Nat.le_trans (h1 1 _) (Nat.le_trans (h1 2 _) (h1 3 _)))
      have h2 := (List.getElem?_eq_some_iff.1 h).1
      exact bfsF_dist hs f _ (i + 1) I2 (by omega) (by omega)
theorem bfsD_dist {s : Nat → Nat → Int} {v src : Nat} (hs : Rng s v) (h : src < v) : Dist s v src (bfsD s v src) := bfsF_dist hs _ _ 0 (BInv.start h) (by simp) (by omega)
/-- Steps are the edges of n. -/
structure Net (s : Nat → Nat → Int) (e : Nat → Nat × Nat) (v n : Nat) : Prop where
  rng : Rng s v
  edge : ∀ x d, x < v → d < 4 → 0 ≤ s x d → ∃ k, n.testBit k = true ∧ (e k = (x, (s x d).toNat) ∨ e k = ((s x d).toNat, x))
  lt : ∀ k, n.testBit k = true → (e k).1 < v ∧ (e k).2 < v
  fwd : ∀ k, n.testBit k = true → ∃ d, d < 4 ∧ s (e k).1 d = ((e k).2 : Int)
  bwd : ∀ k, n.testBit k = true → ∃ d, d < 4 ∧ s (e k).2 d = ((e k).1 : Int)
theorem Dist.cn {s : Nat → Nat → Int} {e : Nat → Nat × Nat} {v n src : Nat} {D : Nat → Int} (N : Net s e v n) (I : Dist s v src D) (c : Nat) : 0 ≤ D c ↔ Cn e n src c := by
  constructor
  · intro h
    obtain ⟨m, hm⟩ : ∃ m : Nat, D c = m := ⟨(D c).toNat, by omega⟩
    clear h
    induction m using Nat.strongRecOn generalizing c with
    | _ m ih =>
      by_cases h0 : 0 < D c
      · obtain ⟨c', d, hd, h1, h2, h3⟩ := I.pred c h0
        have := ih (D c').toNat (by omega) c' (by omega)
        obtain ⟨k, hk, hk2⟩ := N.edge c' d (I.inr _ h2) hd (by omega)
        rw [h1] at hk2
        simp only [Int.toNat_natCast] at hk2
        rcases hk2 with h | h
        · have e1 := Cn.edge (e := e) hk
          rw [h] at e1
          exact this.trans e1
        · have e1 := Cn.edge' (e := e) hk
          rw [h] at e1
          exact this.trans e1
      · rw [I.zero c (by omega)]
        exact .refl _
  · intro h
    induction h with
    | refl => rw [I.src0]; omega
    | fwd k hk _ ih =>
      obtain ⟨d, hd, h1⟩ := N.fwd k hk
      have := I.lip _ d hd ih (by omega)
      rw [h1] at this
      simpa using this.1
    | bwd k hk _ ih =>
      obtain ⟨d, hd, h1⟩ := N.bwd k hk
      have := I.lip _ d hd ih (by omega)
      rw [h1] at this
      simpa using this.1
def cellsN (w h : Int) : Nat := (cellsOf w h).toNat
theorem cellsN_cast (w h : Int) : ((cellsN w h : Nat) : Int) = cellsOf w h := by have := cellsOf_range w h; unfold cellsN; omega
theorem cellsN_le (w h : Int) : cellsN w h ≤ 16 := by have := cellsOf_range w h; unfold cellsN; omega
def ends (w h : Int) (g : Nat) : Nat × Nat := ((endsI w h g).1.toNat, (endsI w h g).2.toNat)
def st (w h : Int) (n : Nat) (c d : Nat) : Int := stepI w h n c d
theorem ends_facts {w h : Int} {g : Nat} (hg : g < gapsN w h) : endsI w h g = (((ends w h g).1 : Int), ((ends w h g).2 : Int)) ∧ (ends w h g).1 < (ends w h g).2 ∧ (ends w h g).2 < cellsN w h := by
  have hc := gapsN_cast w h
  have hc2 := cellsN_cast w h
  obtain ⟨h1, h2, h3, _⟩ := end_facts (w := w) (h := h) (g := g) (by omega) (by omega)
  unfold ends
  refine ⟨?_, by simp only; omega, by simp only; omega⟩
  apply Prod.ext
  · simp only; omega
  · simp only; omega
theorem gr_grid (w h : Int) : Gr (ends w h) (cellsN w h) (gapsN w h) := fun g hg => by
  have := ends_facts hg
  omega
theorem step_open {w h : Int} {n : Nat} {c d : Int} (hn : n < 2 ^ gapsN w h) (h0 : 0 ≤ stepI w h n c d) : ∃ g : Nat, g < gapsN w h ∧ gapI w h c d = g ∧ n.testBit g = true ∧ stepI w h n c d = nbI w h c d ∧ endsI w h g = (min c (nbI w h c d), max c (nbI w h c d)) := by
  have hc := gapsN_cast w h
  unfold stepI at *
  by_cases ho : openI n (gapI w h c d) = true
  · rw [if_pos ho] at *
    rcases step_facts w h c d with ⟨h1, _⟩ | ⟨h1, h2, h3, h4, h5, h6, _⟩
    · omega
    · refine ⟨(gapI w h c d).toNat, by omega, by omega, ?_, rfl, ?_⟩
      · unfold openI at ho
        simp only [Bool.and_eq_true] at ho
        exact ho.2
      · rw [show (((gapI w h c d).toNat : Nat) : Int) = gapI w h c d by omega]; exact h6
  · rw [if_neg ho] at h0; omega
theorem net_grid {w h : Int} {n : Nat} (hn : n < 2 ^ gapsN w h) : Net (st w h n) (ends w h) (cellsN w h) n where
  rng := fun x d _ _ => by
    have := cellsN_cast w h
    unfold st
    rcases step_lt (w := w) (h := h) (c := x) (d := d) (n := n) with h1 | h1
    · exact .inl h1
    · exact .inr (by omega)
  edge := fun x d hx hd h0 => by
    unfold st at *
    obtain ⟨g, h1, h2, h3, h4, h5⟩ := step_open hn h0
    refine ⟨g, h3, ?_⟩
    unfold ends
    rw [h5, h4]
    rw [h4] at h0
    rcases Int.le_total x (nbI w h x d) with hl | hl
    · left
      rw [Int.min_eq_left hl, Int.max_eq_right hl]; rfl
    · right
      rw [Int.min_eq_right hl, Int.max_eq_left hl]; rfl
  lt := fun k hk => by
    have := ends_facts (lt_of_testBit hn hk)
    omega
  fwd := fun k hk => by
    have hkg := lt_of_testBit hn hk
    have hc := gapsN_cast w h
    obtain ⟨e1, e2, e3⟩ := ends_facts hkg
    obtain ⟨_, _, _, h4⟩ := end_facts (w := w) (h := h) (g := k) (by omega) (by omega)
    rw [e1] at h4
    simp only at h4
    have ho : openI n (k : Int) = true := by unfold openI; simp [hk]
    rcases h4 with ⟨a, b⟩ | ⟨a, b⟩
    · exact ⟨1, by omega, by unfold st stepI; rw [show ((1 : Nat) : Int) = 1 from rfl, b, if_pos ho, a]⟩
    · exact ⟨2, by omega, by unfold st stepI; rw [show ((2 : Nat) : Int) = 2 from rfl, b, if_pos ho, a]⟩
  bwd := fun k hk => by
    have hkg := lt_of_testBit hn hk
    have hc := gapsN_cast w h
    obtain ⟨e1, e2, e3⟩ := ends_facts hkg
    obtain ⟨_, _, _, h4⟩ := end_facts (w := w) (h := h) (g := k) (by omega) (by omega)
    rw [e1] at h4
    simp only at h4
    have ho : openI n (k : Int) = true := by unfold openI; simp [hk]
    rcases h4 with ⟨a, b⟩ | ⟨a, b⟩
    · rcases step_facts w h (ends w h k).1 1 with ⟨q, _⟩ | ⟨q1, q2, q3, q4, q5, q6, q7, q8⟩
      · omega
      · rw [a] at q7 q8
        exact ⟨3, by omega, by unfold st stepI; rw [show ((3 : Nat) : Int) = (1 + 2) % 4 from rfl, q8, b, if_pos ho, q7]⟩
    · rcases step_facts w h (ends w h k).1 2 with ⟨q, _⟩ | ⟨q1, q2, q3, q4, q5, q6, q7, q8⟩
      · omega
      · rw [a] at q7 q8
        exact ⟨0, by omega, by unfold st stepI; rw [show ((0 : Nat) : Int) = (2 + 2) % 4 from rfl, q8, b, if_pos ho, q7]⟩
/-- The distance from a cell, or -1. -/
def distN (w h : Int) (n s : Nat) : Nat → Int := bfsD (st w h n) (cellsN w h) s
theorem distN_dist {w h : Int} {n s : Nat} (hn : n < 2 ^ gapsN w h) (hs : s < cellsN w h) : Dist (st w h n) (cellsN w h) s (distN w h n s) := bfsD_dist (net_grid hn).rng hs
theorem distN_cn {w h : Int} {n s : Nat} (hn : n < 2 ^ gapsN w h) (hs : s < cellsN w h) (c : Nat) : 0 ≤ distN w h n s c ↔ Cn (ends w h) n s c := (distN_dist hn hs).cn (net_grid hn) c
end Go.Proofs.Ytoohcdfokejkdaa.P
namespace Go.Proofs.Ytoohcdfokejkdaa.P
open Go.RowKit Go.Proofs.YtoohcdfokejkdaaW.PrintWords Go.Proofs.YtoohcdfokejkdaaW.PrintLast Go.Proofs.YtoohcdfokejkdaaW.PrintMore
attribute [local go_sem] max2_int min2_int max_two min_two max_three min_three max_four min_four   -- for this text's walks alone
set_option linter.unusedVariables false
set_option linter.unusedSimpArgs false

/-! ### spec_l04Distances: function 132 -/
end Go.Proofs.Ytoohcdfokejkdaa.P
namespace Go.Proofs.Ytoohcdfokejkdaa.P
open Go.RowKit Go.Proofs.YtoohcdfokejkdaaW.PrintWords
set_option linter.unusedVariables false
set_option linter.unusedSimpArgs false

def ints (q : List Nat) : List Int := q.map fun (x : Nat) => (x : Int)
theorem ints_length (q : List Nat) : (ints q).length = q.length := by simp [ints]
theorem ints_app (q : List Nat) (y : Nat) : ints (q ++ [y]) = ints q ++ [(y : Int)] := by simp [ints]
theorem rd_ints {q : List Nat} {i x : Nat} (h : q[i]? = some x) : rd (ints q) (i : Int) = x := by
  rw [rd_nat, List.getD_eq_getElem?_getD]
  simp [ints, h]
/-- A function on the numbers under v as a list. -/
def dlist (v : Nat) (D : Nat → Int) : List Int := (List.range v).map D
theorem dlist_length (v : Nat) (D : Nat → Int) : (dlist v D).length = v := by simp [dlist]
theorem rd_dlist {v : Nat} {D : Nat → Int} {c : Nat} (h : c < v) : rd (dlist v D) (c : Int) = D c := by
  rw [rd_get (by rw [dlist_length]; exact h)]
  simp [dlist]
theorem dlist_set {v : Nat} {D : Nat → Int} {y : Nat} {a : Int} (h : y < v) : (dlist v D).set y a = dlist v (upd D y a) := by
  refine List.ext_getElem (by simp [dlist]) fun i h1 h2 => ?_
  rw [List.getElem_set]
  simp only [dlist, upd, List.getElem_map, List.getElem_range]
  by_cases e : y = i
  · rw [if_pos e, if_pos e.symm]
  · rw [if_neg e, if_neg (fun e' => e e'.symm)]
/-- What is kept while the search goes on. -/
structure SI (v : Nat) (S : (Nat → Int) × List Nat) : Prop where
  le : ∀ c, S.1 c ≤ S.2.length
  low : ∀ c, -1 ≤ S.1 c
  lt : ∀ c ∈ S.2, c < v
theorem SI.relax {v : Nat} {s : Nat → Nat → Int} (hs : Rng s v) {S : (Nat → Int) × List Nat} (I : SI v S) {x d : Nat} (hx : x < v) (hd : d < 4) : SI v (relax s x d S) ∧ (relax s x d S).2.length ≤ S.2.length + 1 ∧ ∀ (i z : Nat), S.2[i]? = some z → (relax s x d S).2[i]? = some z := by
  unfold Go.Proofs.Ytoohcdfokejkdaa.P.relax
  split
  · rename_i hc
    refine ⟨⟨fun c => ?_, fun c => ?_, fun c hcq => ?_⟩, by simp, fun i z hz => ?_⟩
    · have := I.le c
      have := I.le x
      show upd _ _ _ c ≤ _
      unfold upd
      simp only [List.length_append, List.length_singleton]
      split <;> omega
    · have := I.low c
      have := I.low x
      show _ ≤ upd _ _ _ c
      unfold upd
      split <;> omega
    · rcases List.mem_append.1 hcq with h | h
      · exact I.lt c h
      · simp at h
        have := hs x d hx hd
        omega
    · have hi := (List.getElem?_eq_some_iff.1 hz).1
      rw [List.getElem?_append_left hi]; exact hz
  · exact ⟨I, by omega, fun i z hz => hz⟩
def relaxL (s : Nat → Nat → Int) (x : Nat) : List Nat → (Nat → Int) × List Nat → (Nat → Int) × List Nat
  | [], S => S
  | d :: ds, S => relaxL s x ds (relax s x d S)
theorem relaxL_filter (s : Nat → Nat → Int) (x : Nat) : ∀ l S, relaxL s x (l.filter fun d => decide (0 ≤ s x d)) S = relaxL s x l S
  | [], S => rfl
  | d :: ds, S => by
    rw [List.filter_cons]
    by_cases h : 0 ≤ s x d
    · simp only [h, decide_true, if_true, relaxL]
      exact relaxL_filter s x ds _
    · simp only [h, decide_false, Bool.false_eq_true, if_false, relaxL]
      rw [relaxL_filter s x ds S, show relax s x d S = S from if_neg fun hc => h hc.1]
theorem bround_eq (s : Nat → Nat → Int) (x : Nat) (S : (Nat → Int) × List Nat) : bround s x S = relaxL s x [0, 1, 2, 3] S := rfl
theorem waysI_ints (w h : Int) (n c : Nat) : waysI w h n c = ints ([0, 1, 2, 3].filter fun d => decide (0 ≤ st w h n c d)) := by
  unfold waysI waysFrom st ints
  simp only [List.drop_zero, List.filter_cons, List.filter_nil]
  by_cases a : 0 ≤ stepI w h n c 0 <;> by_cases b : 0 ≤ stepI w h n c 1 <;> by_cases c' : 0 ≤ stepI w h n c 2 <;> by_cases d : 0 ≤ stepI w h n c 3 <;> simp [a, b, c', d]
section
variable {w h : Int} {n : Nat} (hg : gridOk w h = true) (hn : n < 2 ^ gapsN w h)
include hg hn
theorem impl_dist_l1 {x i : Nat} (W : List Nat) (hW : ∀ d ∈ W, d < 4 ∧ 0 ≤ st w h n x d) (hW4 : W.length ≤ 4) (res : List Int) :
    ∀ (e j : Nat) (S : (Nat → Int) × List Nat), j + e = W.length → SI (cellsN w h) S → S.2[i]? = some x → S.2.length ≤ 100 + j →
      (∀ S', S' = relaxL (st w h n) x (W.drop j) S → SI (cellsN w h) S' → Ev (fun k => impl_distances.l0 k (dlist (cellsN w h) S'.1) (ints S'.2) ((i + 1 : Nat) : Int) w h n) res) →
      Ev (fun k => impl_distances.l1 k (dlist (cellsN w h) S.1) (ints S.2) i (ints W) ((ints W).length : Int) j w h n) res
  | 0, j, S, hj, I, hx, hl, next => by
    have hi := (List.getElem?_eq_some_iff.1 hx).1
    refine Ev.step (fun _ => impl_distances.l1.eq_2 ..) (Ev.ff (by rw [ints_length]; omega) ?_)
    rw [wsucc (by omega)]
    exact next S (by rw [List.drop_eq_nil_of_le (by omega)]; rfl) I
  | e + 1, j, S, hj, I, hx, hl, next => by
    have hcast := cellsN_cast w h
    have hi := (List.getElem?_eq_some_iff.1 hx).1
    have hxv := I.lt x (List.mem_of_getElem? hx)
    have hjW : j < W.length := by omega
    obtain ⟨hd4, hd0⟩ := hW _ (List.getElem_mem hjW)
    have hdrop : W.drop j = W[j] :: W.drop (j + 1) := List.drop_eq_getElem_cons hjW
    have hwj : rd (ints W) (j : Int) = (W[j] : Nat) := rd_ints (List.getElem?_eq_getElem hjW)
    have hrng := (net_grid hn).rng x W[j] hxv hd4
    obtain ⟨y, hy⟩ : ∃ y : Nat, st w h n x W[j] = y := ⟨(st w h n x W[j]).toNat, by omega⟩
    have hyv : y < cellsN w h := by omega
    obtain ⟨I', hl', hk'⟩ := I.relax (net_grid hn).rng hxv hd4
    have ih := impl_dist_l1 W hW hW4 res e (j + 1) (relax (st w h n) x W[j] S) (by omega) I' (hk' i x hx) (by omega) (fun S' hS' I'' => next S' (by rw [hS', hdrop]; rfl) I'')
    refine Ev.step (fun _ => impl_distances.l1.eq_2 ..) ?_
    refine Ev.tt (by rw [ints_length]; omega) (Ev.tt (by omega) (Ev.tt (by rw [ints_length]; omega) (Ev.tt (by omega) (Ev.tt (by rw [ints_length]; omega) ?_))))
    rw [hwj, rd_ints hx]
    refine Ev.bind (impl_Step_ev hg hn x (W[j] : Nat)) ?_
    rw [show stepI w h n x (W[j] : Nat) = y from hy, wsucc (by omega)]
    refine Ev.tt (by omega) (Ev.tt (by rw [dlist_length]; omega) ?_)
    rw [rd_dlist hyv, rd_dlist hxv]
    refine Ev.ite (fun h1 => ?_) (fun h1 => ?_)
    · refine Ev.tt (by omega) (Ev.tt (by rw [dlist_length]; omega) (Ev.tt (by rw [ints_length]; omega) ?_))
      have hb1 := I.le x
      have hb2 : 0 ≤ S.1 x ∨ S.1 x < 0 := by omega
      have hrel : relax (st w h n) x W[j] S = (upd S.1 y (S.1 x + 1), S.2 ++ [y]) := by
        unfold relax
        rw [hy, Int.toNat_natCast, if_pos ⟨by omega, h1⟩]
      rw [hrel] at ih
      rw [Int.toNat_natCast, dlist_set hyv, ← ints_app]
      have := I.low x
      rw [wrap64_id (by omega) (by omega)]
      exact ih
    · have hrel : relax (st w h n) x W[j] S = S := by
        unfold relax
        rw [hy, Int.toNat_natCast, if_neg (fun hc => h1 hc.2)]
      rw [hrel] at ih
      exact ih
theorem impl_dist_l0 {src : Nat} (hs : src < cellsN w h) : ∀ (f i : Nat) (S : (Nat → Int) × List Nat), BInv (st w h n) (cellsN w h) src S i 0 → SI (cellsN w h) S → i ≤ S.2.length → cellsN w h + 1 - i ≤ f →
    Ev (fun k => impl_distances.l0 k (dlist (cellsN w h) S.1) (ints S.2) i w h n) (dlist (cellsN w h) (bfsF (st w h n) f S i))
  | 0, i, S, B, I, hi, hf => by have := B.len; omega
  | f + 1, i, S, B, I, hi, hf => by
    have h16 := cellsN_le w h
    have hlen := B.len
    refine Ev.step (fun _ => impl_distances.l0.eq_2 ..) ?_
    simp only [bfsF]
    cases hx : S.2[i]? with
    | none =>
      rw [List.getElem?_eq_none_iff] at hx
      exact Ev.ff (by rw [ints_length]; omega) (Ev.ret rfl)
    | some x =>
      have hil := (List.getElem?_eq_some_iff.1 hx).1
      have hxv := I.lt x (List.mem_of_getElem? hx)
      refine Ev.tt (by rw [ints_length]; omega) (Ev.tt (by omega) ?_)
      rw [rd_ints hx]
      refine Ev.bind (impl_Ways_ev hg hn _) ?_
      rw [waysI_ints]
      have hW : ∀ d ∈ ([0, 1, 2, 3].filter fun d => decide (0 ≤ st w h n x d)), d < 4 ∧ 0 ≤ st w h n x d := fun d hd => by
        rw [List.mem_filter] at hd
        refine ⟨?_, of_decide_eq_true hd.2⟩
        have := hd.1
        simp at this
        omega
      refine impl_dist_l1 hg hn (i := i) (x := x) _ hW (List.length_filter_le _ _) _ _ 0 S (Nat.zero_add _) I hx (by omega) (fun S' hS' I' => ?_)
      rw [List.drop_zero, relaxL_filter, ← bround_eq] at hS'
      subst hS'
      have B' := B.round (net_grid hn).rng hx
      refine impl_dist_l0 hs f (i + 1) _ B' I' ?_ (by omega)
      have h1 : ∀ m T, T.2.length ≤ (relax (st w h n) x m T).2.length := by
        intro m T
        unfold relax
        split <;> simp
      have := Nat.le_trans (h1 0 S) (Nat.le_trans (h1 1 _) (Nat.le_trans (h1 2 _) (h1 3 _)))
      show i + 1 ≤ (bround (st w h n) x S).2.length
      unfold bround
      omega
omit hg hn in
theorem SI.start {v src : Nat} (h : src < v) : SI v (upd (fun _ => -1) src 0, [src]) where
  le := fun c => by simp only [upd]; split <;> simp
  low := fun c => by simp only [upd]; split <;> omega
  lt := fun c hc => by simp at hc; omega
theorem impl_distances_ev {src : Nat} (hs : src < cellsN w h) : Ev (fun k => impl_distances.f k w h n src) (dlist (cellsN w h) (distN w h n src)) := by
  have h16 := cellsN_le w h
  have hcast := cellsN_cast w h
  unfold impl_distances.f
  refine Ev.bnd0 (impl_CountCells_eq w h) (Ev.bnd0 (a := dlist (cellsN w h) fun _ => -1) ?_ ?_)
  · unfold slices_Repeat_int_int.f
    rw [if_pos ⟨by simp, by omega, by omega⟩]
    congr 1
    refine List.ext_getElem (by simp [dlist]; omega) fun i h1 h2 => ?_
    simp [dlist, rd]
  · refine Ev.tt (by omega) (Ev.tt (by rw [dlist_length]; omega) ?_)
    rw [Int.toNat_natCast, dlist_set hs]
    exact impl_dist_l0 hg hn hs _ 0 _ (BInv.start hs) (SI.start hs) (by simp) (by omega)
end
end Go.Proofs.Ytoohcdfokejkdaa.P
namespace Go.Proofs.Ytoohcdfokejkdaa.P
open Go.RowKit Go.Proofs.YtoohcdfokejkdaaW.PrintWords
set_option linter.unusedVariables false
set_option linter.unusedSimpArgs false

def sumTo : Nat → (Nat → Int) → Int
  | 0, _ => 0
  | n + 1, f => sumTo n f + f n
theorem sumTo_congr {n : Nat} {f g : Nat → Int} (h : ∀ i, i < n → f i = g i) : sumTo n f = sumTo n g := by
  induction n with
  | zero => rfl
  | succ n ih => simp only [sumTo]; rw [ih (fun i hi => h i (by omega)), h n (by omega)]
theorem sumTo_zero {n : Nat} {f : Nat → Int} (h : ∀ i, i < n → f i = 0) : sumTo n f = 0 := by
  induction n with
  | zero => rfl
  | succ n ih => simp only [sumTo]; rw [ih (fun i hi => h i (by omega)), h n (by omega)]; rfl
/-- Two sums that differ at one place. -/
theorem sumTo_one {n : Nat} {f g : Nat → Int} {k : Nat} (hk : k < n) (h : ∀ i, i < n → i ≠ k → g i = f i) : sumTo n g = sumTo n f + (g k - f k) := by
  induction n with
  | zero => omega
  | succ n ih =>
    simp only [sumTo]
    by_cases e : k = n
    · subst e
      rw [sumTo_congr (fun i hi => h i (by omega) (by omega))]
      omega
    · rw [ih (by omega) (fun i hi hne => h i (by omega) hne), h n (by omega) (fun e' => e e'.symm)]
      omega
/-- s without k. -/
def del (s k : Nat) : Nat := andNot s (2 ^ k)
theorem testBit_del (s k i : Nat) : (del s k).testBit i = (s.testBit i && decide (i ≠ k)) := by
  unfold del
  rw [testBit_andNot, Nat.testBit_two_pow]
  by_cases h : i = k
  · simp [h]
  · simp [h, show ¬ k = i from fun e => h e.symm]
theorem del_le (s k : Nat) : del s k ≤ s := andNot_le _ _
theorem del_lt {s k : Nat} (h : s.testBit k = true) : del s k < s := by
  refine Nat.lt_of_le_of_ne (del_le s k) fun e => ?_
  have := testBit_del s k k
  rw [e, h] at this
  simp at this
theorem pop_del {n s k : Nat} (hk : k < n) (h : s.testBit k = true) : pop n s = pop n (del s k) + 1 := by
  induction n with
  | zero => omega
  | succ n ih =>
    simp only [pop]
    by_cases e : k = n
    · subst e
      rw [testBit_del, h, pop_congr (s := del s k) (t := s) (fun i hi => by rw [testBit_del]; simp; omega)]
      simp
    · rw [ih (by omega), testBit_del]
      simp [show ¬ n = k from fun e' => e e'.symm]
      omega
/-- How many of s stand above k, under n. -/
def above (n s k : Nat) : Nat := pop n (s / 2 ^ (k + 1))
/-- 1, or -1 for an odd number. -/
def sgn (c : Nat) : Int := if c % 2 = 0 then 1 else -1
theorem sgn_succ (c : Nat) : sgn (c + 1) = -sgn c := by
  unfold sgn
  by_cases h : c % 2 = 0
  · rw [if_pos h, if_neg (by omega)]
  · rw [if_neg h, if_pos (by omega)]; rfl
/-- The determinant of the first r rows, over the columns of s. -/
def Dn (a : Nat → Nat → Int) (n : Nat) : Nat → Nat → Int
  | 0, _ => 1
  | r + 1, s => sumTo n fun k => if s.testBit k then sgn (above n s k) * a r k * Dn a n r (del s k) else 0
/-- The determinant of as many rows as s has columns. -/
def Ds (a : Nat → Nat → Int) (n s : Nat) : Int := Dn a n (pop n s) s
def term (a : Nat → Nat → Int) (n s k : Nat) : Int := sgn (above n s k) * a (pop n s - 1) k * Ds a n (del s k)
theorem Ds_sum {a : Nat → Nat → Int} {n s : Nat} (h : pop n s ≠ 0) : Ds a n s = sumTo n fun k => if s.testBit k then term a n s k else 0 := by
  unfold Ds
  obtain ⟨r, hr⟩ : ∃ r, pop n s = r + 1 := ⟨pop n s - 1, by omega⟩
  rw [hr]
  simp only [Dn]
  refine sumTo_congr fun k hk => ?_
  by_cases hb : s.testBit k = true
  · rw [if_pos hb, if_pos hb]
    unfold term Ds
    rw [pop_del hk hb] at hr
    rw [pop_del hk hb, show pop n (del s k) = r by omega]
    rfl
  · rw [if_neg hb, if_neg hb]
theorem pop_ne {n s : Nat} (hs : s < 2 ^ n) (h0 : s ≠ 0) : pop n s ≠ 0 := by
  intro h
  apply h0
  apply Nat.eq_of_testBit_eq
  intro i
  rw [Nat.zero_testBit]
  by_cases hi : i < n
  · cases hb : s.testBit i
    · rfl
    · have := pop_del hi hb; omega
  · exact Nat.testBit_lt_two_pow (Nat.lt_of_lt_of_le hs (Nat.pow_le_pow_right (by decide) (by omega)))
theorem Ds_zero (a : Nat → Nat → Int) (n : Nat) : Ds a n 0 = 1 := by
  unfold Ds
  rw [show pop n 0 = 0 from by rw [pop_big (n := 0) (by decide) (by omega)]; rfl]
  rfl
theorem pop_full (n : Nat) : pop n (2 ^ n - 1) = n := by
  have : ∀ m, m ≤ n → pop m (2 ^ n - 1) = m := by
    intro m
    induction m with
    | zero => intro _; rfl
    | succ m ih =>
      intro h
      simp only [pop]
      rw [ih (by omega), Nat.testBit_two_pow_sub_one]
      simp
      omega
  exact this n (Nat.le_refl n)
def p1 (x : Nat) : Nat := ((x / 2) &&& 6148914691236517205) + (x &&& 6148914691236517205)
def p2 (x : Nat) : Nat := ((x / 4) &&& 3689348814741910323) + (x &&& 3689348814741910323)
def p3 (x : Nat) : Nat := (x / 16 + x) &&& 1085102592571150095
theorem and_split {a m : Nat} (b M : Nat) (ha : a < 256) (hm : m < 256) : (256 * b + a) &&& (256 * M + m) = 256 * (b &&& M) + (a &&& m) := by
  apply Nat.eq_of_testBit_eq
  intro i
  have h1 := Nat.testBit_two_pow_mul_add b (i := 8) ha i
  have h2 := Nat.testBit_two_pow_mul_add M (i := 8) hm i
  have h3 := Nat.testBit_two_pow_mul_add (b &&& M) (i := 8) (b := a &&& m) (Nat.lt_of_le_of_lt Nat.and_le_left ha) i
  simp only [show (2 : Nat) ^ 8 = 256 from rfl] at h1 h2 h3
  rw [Nat.testBit_and, h1, h2, h3]
  split <;> simp [Nat.testBit_and]
theorem p1_split (b a : Nat) (ha : a < 256) : p1 (256 * b + a) = 256 * (((b / 2) &&& 24019198012642645) + (b &&& 24019198012642645)) + p1 a := by
  have e1 : (256 * b + a) / 2 = 256 * (b / 2) + (128 * (b % 2) + a / 2) := by omega
  have e2 : ∀ c, c < 2 → ∀ a, a < 256 → (128 * c + a / 2) &&& 85 = (a / 2) &&& 6148914691236517205 := by decide +kernel
  have e3 : ∀ a, a < 256 → a &&& 85 = a &&& 6148914691236517205 := by decide +kernel
  unfold p1
  rw [e1, show (6148914691236517205 : Nat) = 256 * 24019198012642645 + 85 from rfl, and_split _ _ (by omega) (by decide), and_split _ _ ha (by decide), ← show (6148914691236517205 : Nat) = 256 * 24019198012642645 + 85 from rfl, e2 _ (Nat.mod_lt _ (by decide)) a ha, e3 a ha]
  omega
theorem p2_split (b a : Nat) (ha : a < 256) : p2 (256 * b + a) = 256 * (((b / 4) &&& 14411518807585587) + (b &&& 14411518807585587)) + p2 a := by
  have e1 : (256 * b + a) / 4 = 256 * (b / 4) + (64 * (b % 4) + a / 4) := by omega
  have e2 : ∀ c, c < 4 → ∀ a, a < 256 → (64 * c + a / 4) &&& 51 = (a / 4) &&& 3689348814741910323 := by decide +kernel
  have e3 : ∀ a, a < 256 → a &&& 51 = a &&& 3689348814741910323 := by decide +kernel
  unfold p2
  rw [e1, show (3689348814741910323 : Nat) = 256 * 14411518807585587 + 51 from rfl, and_split _ _ (by omega) (by decide), and_split _ _ ha (by decide), ← show (3689348814741910323 : Nat) = 256 * 14411518807585587 + 51 from rfl, e2 _ (Nat.mod_lt _ (by decide)) a ha, e3 a ha]
  omega
theorem p3_split (b a : Nat) (ha : a < 72) (hb : b % 16 ≤ 4) : p3 (256 * b + a) = 256 * ((b / 16 + b) &&& 4238682002231055) + p3 a := by
  have e1 : (256 * b + a) / 16 + (256 * b + a) = 256 * (b / 16 + b) + (16 * (b % 16) + a / 16 + a) := by omega
  have e2 : ∀ c, c < 5 → ∀ a, a < 72 → (16 * c + a / 16 + a) &&& 15 = (a / 16 + a) &&& 1085102592571150095 := by decide +kernel
  unfold p3
  rw [e1, show (1085102592571150095 : Nat) = 256 * 4238682002231055 + 15 from rfl, and_split _ _ (by omega) (by decide), ← show (1085102592571150095 : Nat) = 256 * 4238682002231055 + 15 from rfl, e2 _ (by omega) a ha]
theorem byte : ∀ a, a < 256 → p1 a < 256 ∧ p1 a % 4 ≤ 2 ∧ p2 (p1 a) < 72 ∧ p2 (p1 a) % 16 ≤ 4 ∧ p3 (p2 (p1 a)) = pop 8 a := by decide +kernel
theorem and_low {b M : Nat} (hb : b < 65536) : b &&& M = b &&& (M % 65536) := by
  have h := Nat.and_mod_two_pow (a := b) (b := M) (n := 16)
  simp only [show (2 : Nat) ^ 16 = 65536 from rfl] at h
  rw [Nat.mod_eq_of_lt hb, Nat.mod_eq_of_lt (Nat.lt_of_le_of_lt Nat.and_le_left hb)] at h
  exact h
theorem p1_hi {b : Nat} (hb : b < 65536) : ((b / 2) &&& 24019198012642645) + (b &&& 24019198012642645) = p1 b := by
  unfold p1
  rw [and_low (show b / 2 < 65536 by omega), and_low hb, and_low (M := 6148914691236517205) (show b / 2 < 65536 by omega), and_low (M := 6148914691236517205) hb]
theorem p2_hi {b : Nat} (hb : b < 65536) : ((b / 4) &&& 14411518807585587) + (b &&& 14411518807585587) = p2 b := by
  unfold p2
  rw [and_low (show b / 4 < 65536 by omega), and_low hb, and_low (M := 3689348814741910323) (show b / 4 < 65536 by omega), and_low (M := 3689348814741910323) hb]
theorem p3_hi {b : Nat} (hb : b < 61680) : (b / 16 + b) &&& 4238682002231055 = p3 b := by
  unfold p3
  rw [and_low (show b / 16 + b < 65536 by omega), and_low (M := 1085102592571150095) (show b / 16 + b < 65536 by omega)]
theorem p3_three {a b c : Nat} (ha : a < 256) (hb : b < 256) (hc : c < 256) : p3 (p2 (p1 (256 * (256 * c + b) + a))) = 256 * (256 * pop 8 c + pop 8 b) + pop 8 a := by
  obtain ⟨a1, _, a2, a3, a4⟩ := byte a ha
  obtain ⟨b1, _, b2, b3, b4⟩ := byte b hb
  obtain ⟨c1, _, c2, c3, c4⟩ := byte c hc
  rw [p1_split _ _ ha, p1_hi (by omega), p1_split _ _ hb, p1_hi (by omega)]
  rw [p2_split _ _ a1, p2_hi (by omega), p2_split _ _ b1, p2_hi (by omega)]
  rw [p3_split _ _ a2 (by omega), p3_hi (by omega), p3_split _ _ b2 c3, p3_hi (by omega), a4, b4, c4]
theorem pop24 (a b c : Nat) (ha : a < 256) (hb : b < 256) (hc : c < 256) : pop 24 (256 * (256 * c + b) + a) = pop 8 a + pop 8 b + pop 8 c := by
  rw [show 24 = 8 + (8 + 8) from rfl, pop_add, pop_add, show (2 : Nat) ^ 8 = 256 from rfl, show (256 * (256 * c + b) + a) / 256 = 256 * c + b by omega, show (256 * c + b) / 256 = c by omega]
  rw [← pop_mod 8 (256 * (256 * c + b) + a), ← pop_mod 8 (256 * c + b), show (2 : Nat) ^ 8 = 256 from rfl, show (256 * (256 * c + b) + a) % 256 = a by omega, show (256 * c + b) % 256 = b by omega, Nat.add_assoc]
theorem u64_small {n : Nat} (h : n < 18446744073709551616) : IntKind.u64.wrap (n : Int) = n := by
  rw [IntKind.wrap_u64]; omega
theorem u64_and {a b : Nat} (ha : a < 9223372036854775808) (hb : b < 9223372036854775808) : Go.bits .and .u64 a b = ((a &&& b : Nat) : Int) :=
  (bits_nat .u64 63 (by decide) (fun n h0 h1 => by rw [IntKind.wrap_u64]; omega) a b (by simpa using ha) (by simpa using hb)).1
def s1 (a : Int) : Int := IntKind.u64.wrap ((Go.bits .and .u64 (a / 2) 6148914691236517205) + (Go.bits .and .u64 a 6148914691236517205))
def s2 (a : Int) : Int := IntKind.u64.wrap ((Go.bits .and .u64 (a / 4) 3689348814741910323) + (Go.bits .and .u64 a 3689348814741910323))
def s3 (a : Int) : Int := Go.bits .and .u64 (IntKind.u64.wrap (a / 16 + a)) 1085102592571150095
def s4 (a : Int) : Int := IntKind.u64.wrap (a + a / 256)
def s5 (a : Int) : Int := IntKind.u64.wrap (a + a / 65536)
def s6 (a : Int) : Int := IntKind.u64.wrap (a + a / 4294967296)
theorem ones_steps (a : Int) : bits_OnesCount.f a = some (Go.bits .and .i64 (wrap64 (s6 (s5 (s4 (s3 (s2 (s1 a))))))) 127) := rfl
theorem s1_nat {a : Nat} (h : a < 16777216) : s1 (a : Int) = (p1 a : Int) := by
  unfold s1 p1
  rw [show ((a : Int) / 2) = ((a / 2 : Nat) : Int) by omega, show (6148914691236517205 : Int) = ((6148914691236517205 : Nat) : Int) from rfl, u64_and (by omega) (by decide), u64_and (by omega) (by decide)]
  have h1 : (a / 2 &&& 6148914691236517205) ≤ a / 2 := Nat.and_le_left
  have h2 : (a &&& 6148914691236517205) ≤ a := Nat.and_le_left
  rw [← Int.natCast_add, u64_small (by omega)]
theorem s2_nat {a : Nat} (h : a < 67108864) : s2 (a : Int) = (p2 a : Int) := by
  unfold s2 p2
  rw [show ((a : Int) / 4) = ((a / 4 : Nat) : Int) by omega, show (3689348814741910323 : Int) = ((3689348814741910323 : Nat) : Int) from rfl, u64_and (by omega) (by decide), u64_and (by omega) (by decide)]
  have h1 : (a / 4 &&& 3689348814741910323) ≤ a / 4 := Nat.and_le_left
  have h2 : (a &&& 3689348814741910323) ≤ a := Nat.and_le_left
  rw [← Int.natCast_add, u64_small (by omega)]
theorem s3_nat {a : Nat} (h : a < 268435456) : s3 (a : Int) = (p3 a : Int) := by
  unfold s3 p3
  rw [show ((a : Int) / 16 + a) = ((a / 16 + a : Nat) : Int) by omega, u64_small (by omega), show (1085102592571150095 : Int) = ((1085102592571150095 : Nat) : Int) from rfl, u64_and (by omega) (by decide)]
/-- The library's count of bits. -/
theorem ones_eq {s : Nat} (h : s < 16777216) : bits_OnesCount.f (s : Int) = some (pop 24 s : Int) := by
  rw [ones_steps]
  have h1 : p1 s < 67108864 := by
    unfold p1
    have h1 : (s / 2 &&& 6148914691236517205) ≤ s / 2 := Nat.and_le_left
    have h2 : (s &&& 6148914691236517205) ≤ s := Nat.and_le_left
    omega
  have h2 : p2 (p1 s) < 268435456 := by
    unfold p2
    have h3 : (p1 s / 4 &&& 3689348814741910323) ≤ p1 s / 4 := Nat.and_le_left
    have h4 : (p1 s &&& 3689348814741910323) ≤ p1 s := Nat.and_le_left
    omega
  rw [s1_nat h, s2_nat h1, s3_nat h2]
  obtain ⟨a, b, c, ha, hb, hc, rfl⟩ : ∃ a b c, a < 256 ∧ b < 256 ∧ c < 256 ∧ s = 256 * (256 * c + b) + a := ⟨s % 256, s / 256 % 256, s / 65536, by omega, by omega, by omega, by omega⟩
  rw [p3_three ha hb hc, pop24 _ _ _ ha hb hc]
  have qa := pop_le 8 a
  have qb := pop_le 8 b
  have qc := pop_le 8 c
  generalize pop 8 a = x at *
  generalize pop 8 b = y at *
  generalize pop 8 c = z at *
  have e4 : s4 ((256 * (256 * z + y) + x : Nat) : Int) = ((65536 * z + 256 * (y + z) + (x + y) : Nat) : Int) := by
    unfold s4
    rw [show (((256 * (256 * z + y) + x : Nat) : Int) + ((256 * (256 * z + y) + x : Nat) : Int) / 256) = ((65536 * z + 256 * (y + z) + (x + y) : Nat) : Int) by omega, u64_small (by omega)]
  have e5 : s5 ((65536 * z + 256 * (y + z) + (x + y) : Nat) : Int) = ((65536 * z + 256 * (y + z) + (x + y + z) : Nat) : Int) := by
    unfold s5
    rw [show (((65536 * z + 256 * (y + z) + (x + y) : Nat) : Int) + ((65536 * z + 256 * (y + z) + (x + y) : Nat) : Int) / 65536) = ((65536 * z + 256 * (y + z) + (x + y + z) : Nat) : Int) by omega, u64_small (by omega)]
  have e6 : s6 ((65536 * z + 256 * (y + z) + (x + y + z) : Nat) : Int) = ((65536 * z + 256 * (y + z) + (x + y + z) : Nat) : Int) := by
    unfold s6
    rw [show (((65536 * z + 256 * (y + z) + (x + y + z) : Nat) : Int) + ((65536 * z + 256 * (y + z) + (x + y + z) : Nat) : Int) / 4294967296) = ((65536 * z + 256 * (y + z) + (x + y + z) : Nat) : Int) by omega, u64_small (by omega)]
  rw [e4, e5, e6, wrap64_id (by omega) (by omega), show (127 : Int) = ((127 : Nat) : Int) from rfl, bits_and (by omega) (by decide)]
  congr 2
  rw [show (127 : Nat) = 2 ^ 7 - 1 from rfl, Nat.and_two_pow_sub_one_eq_mod]
  omega
theorem ones_eq' {n s : Nat} (hn : n ≤ 24) (h : s < 2 ^ n) : bits_OnesCount.f (s : Int) = some (pop n s : Int) := by
  rw [ones_eq (Nat.lt_of_lt_of_le h (Nat.pow_le_pow_right (by decide) hn)), pop_big h hn]
theorem wrap64_shift (x q : Int) : wrap64 (x + 18446744073709551616 * q) = wrap64 x := by unfold wrap64; omega
theorem wrap64_rep (x : Int) : ∃ q, wrap64 x = x + 18446744073709551616 * q := by
  refine ⟨-((x + 9223372036854775808) / 18446744073709551616), ?_⟩
  unfold wrap64
  omega
theorem wrap64_wrap (x : Int) : wrap64 (wrap64 x) = wrap64 x := by unfold wrap64; omega
theorem wrap64_add (x y : Int) : wrap64 (wrap64 x + wrap64 y) = wrap64 (x + y) := by unfold wrap64; omega
theorem wrap64_mull (x y : Int) : wrap64 (wrap64 x * y) = wrap64 (x * y) := by
  obtain ⟨q, hq⟩ := wrap64_rep x
  rw [hq, Int.add_mul, Int.mul_assoc, wrap64_shift]
theorem wrap64_mulr (x y : Int) : wrap64 (x * wrap64 y) = wrap64 (x * y) := by
  rw [Int.mul_comm, wrap64_mull, Int.mul_comm]
theorem wrap64_mul (x y : Int) : wrap64 (wrap64 x * wrap64 y) = wrap64 (x * y) := by rw [wrap64_mull, wrap64_mulr]
end Go.Proofs.Ytoohcdfokejkdaa.P
namespace Go.Proofs.Ytoohcdfokejkdaa.P
open Go.RowKit Go.Proofs.YtoohcdfokejkdaaW.PrintWords Go.Proofs.YtoohcdfokejkdaaW.PrintLast Go.Proofs.YtoohcdfokejkdaaW.PrintMore
attribute [local go_sem] max2_int min2_int max_two min_two max_three min_three max_four min_four   -- for this text's walks alone
set_option linter.unusedVariables false
set_option linter.unusedSimpArgs false

/-! ### laws_szIntS: function 59 -/
/-! ### laws_toIntS: function 62 -/
/-! ### laws_eqIntS: function 63 -/
/-! ### laws_markIntS: function 64 -/
/-! ### laws_heldIntS: function 65 -/
/-! ### laws_szIntSS: function 22 -/
/-! ### laws_toIntSS: function 24 -/
/-! ### laws_eqIntSS: function 25 -/
end Go.Proofs.Ytoohcdfokejkdaa.P
namespace Go.Proofs.Ytoohcdfokejkdaa.P
open Go.RowKit Go.Proofs.YtoohcdfokejkdaaW.PrintWords Go.Proofs.Ytoohcdfokejkdaa.Sup
set_option linter.unusedVariables false
set_option linter.unusedSimpArgs false

theorem rdL_get {l : List (List Int)} {i : Nat} (h : i < l.length) : rd_L2 l (i : Int) = l[i] := by simp [rd_L2, List.getD_eq_getElem?_getD, List.getElem?_eq_getElem h]
end Go.Proofs.Ytoohcdfokejkdaa.P
namespace Go.Proofs.Ytoohcdfokejkdaa.P
open Go.RowKit Go.Proofs.YtoohcdfokejkdaaW.PrintWords
set_option linter.unusedVariables false
set_option linter.unusedSimpArgs false

/-- An entry of a matrix. -/
def ent (m : List (List Int)) (r k : Nat) : Int := rd (rd_L2 m r) k
theorem rd_set {X : List Int} {i j : Nat} {v : Int} (hi : i < X.length) : rd (X.set i v) j = if j = i then v else rd X j := by
  by_cases e : j = i
  · subst e
    rw [if_pos rfl, rd_get (by simpa using hi)]
    simp
  · rw [if_neg e, rd_nat, rd_nat, List.getD_eq_getElem?_getD, List.getD_eq_getElem?_getD, List.getElem?_set_ne (fun e' => e e'.symm)]
theorem shl_det {n : Nat} (h : n ≤ 16) : shl .i64 1 (n : Int) = ((2 ^ n : Nat) : Int) := shl_pow (by omega)
theorem pow_small {n : Nat} (h : n ≤ 16) : 2 ^ n ≤ 65536 := Nat.pow_le_pow_right (by decide) h
theorem tmod_two (c : Nat) : (Int.tmod (c : Int) 2 = 1) ↔ ¬ c % 2 = 0 := by
  rw [Int.tmod_eq_emod_of_nonneg (by omega)]
  omega
def rowSum (a : Nat → Nat → Int) (n s j : Nat) : Int := sumTo j fun k => if s.testBit k then term a n s k else 0
theorem rowSum_skip {a : Nat → Nat → Int} {n s j : Nat} (h : s.testBit j = true → a (pop n s - 1) j = 0) : rowSum a n s (j + 1) = rowSum a n s j := by
  unfold rowSum
  simp only [sumTo]
  by_cases hb : s.testBit j = true
  · rw [if_pos hb]
    unfold term
    rw [h hb]
    simp
  · rw [if_neg hb, Int.add_zero]
theorem rowSum_next {a : Nat → Nat → Int} {n s j : Nat} (hb : s.testBit j = true) : rowSum a n s (j + 1) = rowSum a n s j + term a n s j := by
  unfold rowSum
  simp only [sumTo]
  rw [if_pos hb]
section
variable {m : List (List Int)} {n : Nat}
theorem impl_det_l1 (hn : n = m.length) (h16 : n ≤ 16) {s : Nat} (hs : s < 2 ^ n) (h0 : s ≠ 0) (row : List Int) (hr : row = rd_L2 m (pop n s - 1 : Nat)) (hl : row.length = n) (res : Int)
    (next : ∀ X : List Int, X.length = 2 ^ n → (∀ t : Nat, t < 2 ^ n → rd X t = if t < s + 1 then wrap64 (Ds (ent m) n t) else 0) → Ev (fun k => impl_determinant.l0 k m X ((s + 1 : Nat) : Int)) res) :
    ∀ (d j : Nat) (X : List Int), n - j = d → j ≤ n → X.length = 2 ^ n → (∀ t : Nat, t < 2 ^ n → t ≠ s → rd X t = if t < s then wrap64 (Ds (ent m) n t) else 0) → rd X s = wrap64 (rowSum (ent m) n s j) →
      Ev (fun k => impl_determinant.l1 k m X s row (n : Int) j) res
  | 0, j, X, hd, hj, hX, hi, hj2 => by
    have hp := pow_small h16
    refine Ev.step (fun _ => impl_determinant.l1.eq_2 ..) ?_
    refine Ev.ff (by omega) ?_
    rw [wsucc (by omega)]
    refine next X hX fun t ht => ?_
    by_cases e : t = s
    · subst e
      rw [if_pos (by omega), hj2, Ds_sum (pop_ne hs h0), show n = j by omega]
      rfl
    · rw [hi t ht e]
      by_cases h : t < s
      · rw [if_pos h, if_pos (by omega)]
      · rw [if_neg h, if_neg (by omega)]
  | d + 1, j, X, hd, hj, hX, hi, hj2 => by
    have hp := pow_small h16
    have ih := impl_det_l1 hn h16 hs h0 row hr hl res next d (j + 1)
    have hw : rd row j = ent m (pop n s - 1) j := by rw [hr]; rfl
    refine Ev.step (fun _ => impl_determinant.l1.eq_2 ..) ?_
    refine Ev.tt (by omega) (Ev.tt (by omega) (Ev.tt (by omega) ?_))
    have skip : (s.testBit j = true → ent m (pop n s - 1) j = 0) → Ev (fun k => impl_determinant.j2 k m X s j (rd row j) row (n : Int) j true) res := by
      intro h
      refine Ev.step (fun _ => impl_determinant.j2.eq_2 ..) ?_
      refine Ev.tt rfl ?_
      rw [wsucc (by omega)]
      exact ih X (by omega) (by omega) hX hi (by rw [hj2, rowSum_skip h])
    by_cases hv : rd row j = 0
    · exact Ev.tt hv (skip fun _ => by rw [← hw]; exact hv)
    · refine Ev.ff hv ?_
      rw [bit_zero (by omega)]
      cases hb : s.testBit j
      · exact skip fun h => by rw [hb] at h; cases h
      · refine Ev.step (fun _ => impl_determinant.j2.eq_2 ..) ?_
        refine Ev.ff (by simp) ?_
        have hdl := del_le s j
        have hdn : Go.bits .andNot .i64 (s : Int) (shl .i64 1 (j : Int)) = ((del s j : Nat) : Int) := by
          rw [shl_det (by omega), bits_andNot (by omega) (by have := pow_small (show j ≤ 16 by omega); omega)]
          rfl
        rw [wsucc (by omega)]
        refine Ev.tt (by omega) ?_
        rw [shr_nat (by omega), u64_small (by have := Nat.div_le_self s (2 ^ (j + 1)); omega)]
        refine Ev.bnd0 (ones_eq' (n := n) (by omega) (Nat.lt_of_le_of_lt (Nat.div_le_self _ _) hs)) ?_
        rw [hdn]
        have hD : rd X (del s j : Nat) = wrap64 (Ds (ent m) n (del s j)) := by
          have := del_lt hb
          rw [hi _ (by omega) (by omega), if_pos this]
        rw [hD, hj2]
        have fin : ∀ v : Int, wrap64 v = wrap64 (rowSum (ent m) n s (j + 1)) → v = wrap64 v → Ev (fun k => impl_determinant.l1 k m (X.set ((s : Int)).toNat v) s row (n : Int) ((j + 1 : Nat) : Int)) res := by
          intro v hv1 hv2
          rw [Int.toNat_natCast]
          refine ih _ (by omega) (by omega) (by rw [List.length_set]; exact hX) (fun t ht hne => ?_) ?_
          · rw [rd_set (by omega), if_neg hne]
            exact hi t ht hne
          · rw [rd_set (by omega), if_pos rfl, hv2, hv1]
        have ht := rowSum_next (a := ent m) (n := n) (s := s) (j := j) hb
        unfold term at ht
        rw [← hw] at ht
        refine Ev.ite (fun ho => ?_) (fun ho => ?_)
        · refine Ev.tt (by omega) (Ev.tt (by omega) (Ev.tt (by omega) (Ev.tt (by omega) (Ev.tt (by omega) ?_))))
          refine fin _ ?_ (wrap64_wrap _).symm
          rw [wrap64_wrap, wrap64_mul, wrap64_add, ht]
          have hsg : sgn (above n s j) = -1 := by unfold sgn; rw [if_neg]; exact (tmod_two _).1 ho
          rw [hsg]
          congr 2
          simp
        · refine Ev.tt (by omega) (Ev.tt (by omega) (Ev.tt (by omega) (Ev.tt (by omega) (Ev.tt (by omega) ?_))))
          refine fin _ ?_ (wrap64_wrap _).symm
          rw [wrap64_wrap, wrap64_mulr, wrap64_add, ht]
          have hsg : sgn (above n s j) = 1 := by unfold sgn; rw [if_pos]; exact Decidable.not_not.1 (fun h => ho ((tmod_two _).2 h))
          rw [hsg]
          congr 2
          simp
theorem impl_det_l0 (hn : n = m.length) (h16 : n ≤ 16) (hrow : ∀ r, r < n → (rd_L2 m (r : Nat)).length = n) : ∀ (d s : Nat) (X : List Int), 2 ^ n - s = d → s ≤ 2 ^ n → s ≠ 0 → X.length = 2 ^ n → (∀ t : Nat, t < 2 ^ n → rd X t = if t < s then wrap64 (Ds (ent m) n t) else 0) →
      Ev (fun k => impl_determinant.l0 k m X s) (wrap64 (Ds (ent m) n (2 ^ n - 1)))
  | 0, s, X, hd, hs, h0, hX, hi => by
    have hp := pow_small h16
    have hp1 : 0 < 2 ^ n := Nat.two_pow_pos n
    refine Ev.step (fun _ => impl_determinant.l0.eq_2 ..) ?_
    refine Ev.ff (by omega) ?_
    rw [hX, show wrap64 (((2 ^ n : Nat) : Int) - 1) = ((2 ^ n - 1 : Nat) : Int) by rw [wrap64_id (by omega) (by omega)]; omega]
    refine Ev.tt (by omega) (Ev.tt (by omega) (Ev.ret ?_))
    rw [hi _ (by omega), if_pos (by omega)]
  | d + 1, s, X, hd, hs, h0, hX, hi => by
    have hp := pow_small h16
    have hsl : s < 2 ^ n := by omega
    have hpn := pop_ne hsl h0
    have hpl := pop_le n s
    refine Ev.step (fun _ => impl_determinant.l0.eq_2 ..) ?_
    refine Ev.tt (by omega) ?_
    rw [u64_small (by omega)]
    refine Ev.bnd0 (ones_eq' (n := n) (by omega) hsl) ?_
    rw [show wrap64 ((pop n s : Int) - 1) = ((pop n s - 1 : Nat) : Int) by rw [wrap64_id (by omega) (by omega)]; omega]
    refine Ev.tt (by omega) (Ev.tt (by omega) ?_)
    have hl := hrow (pop n s - 1) (by omega)
    rw [hl]
    refine impl_det_l1 hn h16 hsl h0 _ rfl hl _ (fun X' hX' hi' => impl_det_l0 hn h16 hrow d (s + 1) X' (by omega) (by omega) (by omega) hX' hi') n 0 X (by omega) (by omega) hX (fun t ht hne => ?_) ?_
    · rw [hi t ht]
    · rw [hi s hsl, if_neg (by omega), show rowSum (ent m) n s 0 = 0 from rfl, wrap64_id (by decide) (by decide)]
theorem impl_det_ev (hn : n = m.length) (h16 : n ≤ 16) (hrow : ∀ r, r < n → (rd_L2 m (r : Nat)).length = n) : Ev (fun k => impl_determinant.f k m) (wrap64 (Ds (ent m) n (2 ^ n - 1))) := by
  have hp := pow_small h16
  have hp1 : 0 < 2 ^ n := Nat.two_pow_pos n
  unfold impl_determinant.f
  rw [← hn, shl_det h16]
  refine Ev.tt (by omega) (Ev.tt (by omega) (Ev.bnd0 rfl (Ev.tt (by rw [List.length_replicate]; omega) ?_)))
  refine impl_det_l0 hn h16 hrow (2 ^ n - 1) 1 _ rfl (by omega) (by omega) (by rw [List.length_set, List.length_replicate]; omega) fun t ht => ?_
  rw [show ((0 : Int)).toNat = 0 from rfl, rd_set (by rw [List.length_replicate]; omega)]
  by_cases e : t = 0
  · subst e
    rw [if_pos rfl, if_pos (by omega), Ds_zero, wrap64_id (by decide) (by decide)]
  · rw [if_neg e, if_neg (by omega), rd_nat, List.getD_eq_getElem?_getD]
    cases h : (List.replicate (((2 ^ n : Nat) : Int)).toNat (0 : Int))[t]? with
    | none => rfl
    | some v => exact (List.mem_replicate.1 (List.mem_of_getElem? h)).2
end
end Go.Proofs.Ytoohcdfokejkdaa.P
namespace Go.Proofs.Ytoohcdfokejkdaa.P
open Go.RowKit Go.Proofs.YtoohcdfokejkdaaW.PrintWords
set_option linter.unusedVariables false
set_option linter.unusedSimpArgs false

theorem sumTo_add (n : Nat) (f g : Nat → Int) : sumTo n (fun i => f i + g i) = sumTo n f + sumTo n g := by
  induction n with
  | zero => rfl
  | succ n ih => simp only [sumTo]; rw [ih]; omega
theorem sumTo_mul (n : Nat) (c : Int) (f : Nat → Int) : sumTo n (fun i => c * f i) = c * sumTo n f := by
  induction n with
  | zero => simp [sumTo]
  | succ n ih => simp only [sumTo]; rw [ih, Int.mul_add]
theorem sumTo_neg (n : Nat) (f : Nat → Int) : sumTo n (fun i => -f i) = -sumTo n f := by
  induction n with
  | zero => rfl
  | succ n ih => simp only [sumTo]; rw [ih]; omega
theorem sumTo_comm (m n : Nat) (f : Nat → Nat → Int) : sumTo m (fun i => sumTo n (fun j => f i j)) = sumTo n (fun j => sumTo m (fun i => f i j)) := by
  induction m with
  | zero => simp only [sumTo]; exact (sumTo_zero fun _ _ => rfl).symm
  | succ m ih => simp only [sumTo]; rw [ih, ← sumTo_add]
/-- A sum with two places set apart. -/
theorem sumTo_two {n i : Nat} {f g : Nat → Int} (h1 : i + 1 < n) (hs : g i + g (i + 1) = -(f i + f (i + 1))) (h : ∀ k, k < n → k ≠ i → k ≠ i + 1 → g k = -f k) : sumTo n g = -sumTo n f := by
  have e1 : sumTo n (fun k => g k + f k) = 0 := by
    have : ∀ m, m ≤ n → sumTo m (fun k => g k + f k) = if m = i + 1 then g i + f i else 0 := by
      intro m
      induction m with
      | zero => intro _; simp [sumTo]
      | succ m ih =>
        intro hm
        simp only [sumTo]
        rw [ih (by omega)]
        by_cases a : m = i
        · subst a; simp
        · by_cases b : m = i + 1
          · subst b; simp; omega
          · have := h m (by omega) a b
            simp [a, b]; omega
    rw [this n (Nat.le_refl n), if_neg (by omega)]
  rw [sumTo_add] at e1
  omega
theorem sgn_par {a b : Nat} (h : a % 2 = b % 2) : sgn a = sgn b := by unfold sgn; rw [h]
/-- Without the vector i. -/
def er (i : Nat) (A : Nat → Nat → Int) : Nat → Nat → Int := fun j => if j < i then A j else A (j + 1)
/-- Without the coordinate c. -/
def ec (c : Nat) (A : Nat → Nat → Int) : Nat → Nat → Int := fun j d => if d < c then A j d else A j (d + 1)
/-- With another vector at i. -/
def rp (A : Nat → Nat → Int) (i : Nat) (v : Nat → Int) : Nat → Nat → Int := fun j => if j = i then v else A j
def swp (A : Nat → Nat → Int) (i j : Nat) : Nat → Nat → Int := fun k => if k = i then A j else if k = j then A i else A k
/-- The determinant of r vectors, along the last coordinate. -/
def dt : Nat → (Nat → Nat → Int) → Int
  | 0, _ => 1
  | r + 1, A => sumTo (r + 1) fun i => sgn (r - i) * A i r * dt r (er i A)
theorem dt_congr : ∀ {r : Nat} {A B : Nat → Nat → Int}, (∀ i c, i < r → c < r → A i c = B i c) → dt r A = dt r B
  | 0, _, _, _ => rfl
  | r + 1, A, B, h => by
    simp only [dt]
    refine sumTo_congr fun i hi => ?_
    rw [h i r hi (by omega), dt_congr (A := er i A) (B := er i B)]
    intro j c hj hc
    unfold er
    split
    · exact h j c (by omega) (by omega)
    · exact h (j + 1) c (by omega) (by omega)
theorem er_rp_same (A : Nat → Nat → Int) (i : Nat) (v : Nat → Int) : er i (rp A i v) = er i A := by
  funext j
  unfold er rp
  split
  · rw [if_neg (by omega)]
  · rw [if_neg (by omega)]
theorem er_rp (A : Nat → Nat → Int) {k i : Nat} (h : k ≠ i) (v : Nat → Int) : er k (rp A i v) = rp (er k A) (if i < k then i else i - 1) v := by
  funext j
  simp only [er, rp]
  by_cases hk : i < k
  · rw [if_pos hk]
    repeat' split
    all_goals first | rfl | omega
  · rw [if_neg hk]
    repeat' split
    all_goals first | rfl | omega
theorem rp_same (A : Nat → Nat → Int) (i : Nat) (v : Nat → Int) : rp A i v i = v := if_pos rfl
theorem rp_ne (A : Nat → Nat → Int) {i j : Nat} (h : j ≠ i) (v : Nat → Int) : rp A i v j = A j := if_neg h
theorem dt_lin : ∀ {r : Nat} (A : Nat → Nat → Int) {i : Nat} (hi : i < r) (c d : Int) (u v : Nat → Int), dt r (rp A i (fun x => c * u x + d * v x)) = c * dt r (rp A i u) + d * dt r (rp A i v)
  | 0, _, _, hi, _, _, _, _ => by omega
  | r + 1, A, i, hi, c, d, u, v => by
    simp only [dt]
    rw [← sumTo_mul, ← sumTo_mul, ← sumTo_add]
    refine sumTo_congr fun k hk => ?_
    by_cases e : k = i
    · subst e
      simp only [rp_same, er_rp_same]
      grind
    · simp only [rp_ne _ e, er_rp _ e]
      rw [dt_lin (er k A) (by split <;> omega)]
      grind
theorem dt_adj : ∀ {r : Nat} (A : Nat → Nat → Int) {i : Nat} (hi : i + 1 < r), dt r (swp A i (i + 1)) = -dt r A
  | 0, _, _, hi => by omega
  | r + 1, A, i, hi => by
    simp only [dt]
    have h1 : er i (swp A i (i + 1)) = er (i + 1) A := by
      funext j; unfold er swp
      repeat' split
      all_goals first | rfl | omega | (congr 1; omega)
    have h2 : er (i + 1) (swp A i (i + 1)) = er i A := by
      funext j; unfold er swp
      repeat' split
      all_goals first | rfl | omega | (congr 1; omega)
    refine sumTo_two (i := i) hi ?_ ?_
    · rw [h1, h2, show swp A i (i + 1) i = A (i + 1) from if_pos rfl, show swp A i (i + 1) (i + 1) = A i by unfold swp; rw [if_neg (by omega), if_pos rfl], show r - i = (r - (i + 1)) + 1 by omega, sgn_succ]
      grind
    · intro k hk n1 n2
      have h3 : er k (swp A i (i + 1)) = swp (er k A) (if i < k then i else i - 1) ((if i < k then i else i - 1) + 1) := by
        funext j; simp only [er, swp]
        by_cases hk : i < k
        · rw [if_pos hk]
          repeat' split
          all_goals first | rfl | omega | (congr 1; omega)
        · rw [if_neg hk]
          repeat' split
          all_goals first | rfl | omega | (congr 1; omega)
      rw [h3, dt_adj (er k A) (by split <;> omega), show swp A i (i + 1) k = A k by unfold swp; rw [if_neg n1, if_neg n2]]
      grind
theorem dt_same : ∀ (d : Nat) {r : Nat} (A : Nat → Nat → Int) {i : Nat}, i + 1 + d < r → (∀ c, A i c = A (i + 1 + d) c) → dt r A = 0
  | 0, r, A, i, hj, h => by
    have h1 := dt_adj A (i := i) hj
    have h2 : swp A i (i + 1) = A := by
      funext k c; unfold swp
      split
      · rename_i e; subst e; exact (h c).symm
      · split
        · rename_i e; subst e; exact h c
        · rfl
    rw [h2] at h1
    omega
  | d + 1, r, A, i, hj, h => by
    have h1 := dt_adj A (i := i + 1 + d) (by omega)
    have h2 := dt_same d (r := r) (swp A (i + 1 + d) (i + 1 + d + 1)) (i := i) (by omega) (fun c => by
      unfold swp
      rw [if_neg (by omega), if_neg (by omega), if_pos rfl]
      exact h c)
    omega
theorem dt_eq {r : Nat} (A : Nat → Nat → Int) {i j : Nat} (hij : i ≠ j) (hi : i < r) (hj : j < r) (h : ∀ c, A i c = A j c) : dt r A = 0 := by
  rcases Nat.lt_or_gt_of_ne hij with hl | hl
  · exact dt_same (j - i - 1) A (i := i) (by omega) (fun c => by rw [show i + 1 + (j - i - 1) = j by omega]; exact h c)
  · exact dt_same (i - j - 1) A (i := j) (by omega) (fun c => by rw [show j + 1 + (i - j - 1) = i by omega]; exact (h c).symm)
theorem rp_self (A : Nat → Nat → Int) (i : Nat) : rp A i (A i) = A := by
  funext j; unfold rp; split
  · rename_i e; rw [e]
  · rfl
/-- A multiple of another vector added. -/
theorem dt_addrow {r : Nat} (A : Nat → Nat → Int) {i j : Nat} (hij : i ≠ j) (hi : i < r) (hj : j < r) (d : Int) : dt r (rp A i (fun x => A i x + d * A j x)) = dt r A := by
  have h := dt_lin A hi 1 d (A i) (A j)
  rw [rp_self, dt_eq (rp A i (A j)) hij hi hj (fun c => by rw [rp_same, rp_ne _ (Ne.symm hij)])] at h
  simp only [Int.one_mul, Int.mul_zero, Int.add_zero] at h
  exact h
theorem er_ec (A : Nat → Nat → Int) (i c : Nat) : er i (ec c A) = ec c (er i A) := by
  funext j d
  by_cases h : j < i <;> by_cases h2 : d < c <;> simp [er, ec, h, h2]
/-- Along the last vector. -/
theorem dt_lastvec : ∀ (r : Nat) (A : Nat → Nat → Int), dt (r + 1) A = sumTo (r + 1) fun c => sgn (r - c) * A r c * dt r (ec c A)
  | 0, A => rfl
  | r + 1, A => by
    have L : dt (r + 2) A = sumTo (r + 1) (fun i => sgn (r + 1 - i) * A i (r + 1) * dt (r + 1) (er i A)) + sgn (r + 1 - (r + 1)) * A (r + 1) (r + 1) * dt (r + 1) (er (r + 1) A) := rfl
    rw [L]
    show _ = sumTo (r + 1) (fun c => sgn (r + 1 - c) * A (r + 1) c * dt (r + 1) (ec c A)) + sgn (r + 1 - (r + 1)) * A (r + 1) (r + 1) * dt (r + 1) (ec (r + 1) A)
    have e1 : dt (r + 1) (er (r + 1) A) = dt (r + 1) (ec (r + 1) A) := dt_congr fun i c hi hc => by unfold er ec; rw [if_pos hi, if_pos hc]
    rw [e1]
    congr 1
    have e2 : sumTo (r + 1) (fun i => sgn (r + 1 - i) * A i (r + 1) * dt (r + 1) (er i A)) = sumTo (r + 1) (fun i => sumTo (r + 1) fun c => sgn (r + 1 - i) * sgn (r - c) * (A i (r + 1) * A (r + 1) c) * dt r (ec c (er i A))) := by
      refine sumTo_congr fun i hi => ?_
      rw [dt_lastvec r (er i A), ← sumTo_mul]
      refine sumTo_congr fun c hc => ?_
      rw [show er i A r = A (r + 1) from if_neg (by omega)]
      grind
    have e3 : sumTo (r + 1) (fun c => sgn (r + 1 - c) * A (r + 1) c * dt (r + 1) (ec c A)) = sumTo (r + 1) (fun c => sumTo (r + 1) fun i => sgn (r + 1 - i) * sgn (r - c) * (A i (r + 1) * A (r + 1) c) * dt r (ec c (er i A))) := by
      refine sumTo_congr fun c hc => ?_
      show _ * dt (r + 1) (ec c A) = _
      simp only [dt]
      rw [← sumTo_mul]
      refine sumTo_congr fun i hi => ?_
      rw [show ec c A i r = A i (r + 1) from if_neg (by omega), er_ec, show r + 1 - c = (r - c) + 1 by omega, show r + 1 - i = (r - i) + 1 by omega, sgn_succ, sgn_succ]
      grind
    rw [e2, e3, sumTo_comm]
def tr (A : Nat → Nat → Int) : Nat → Nat → Int := fun i c => A c i
theorem dt_tr : ∀ (r : Nat) (A : Nat → Nat → Int), dt r (tr A) = dt r A
  | 0, A => rfl
  | r + 1, A => by
    rw [dt_lastvec r A]
    simp only [dt]
    refine sumTo_congr fun i hi => ?_
    have : er i (tr A) = tr (ec i A) := by
      funext j c; simp only [er, tr, ec]
      split <;> rfl
    rw [this, dt_tr r (ec i A)]
    rfl
/-- Along any vector. -/
theorem dt_vec {r : Nat} : ∀ (d p : Nat) (A : Nat → Nat → Int), p + d = r → dt (r + 1) A = sumTo (r + 1) fun c => sgn (p + c) * A p c * dt r (er p (ec c A))
  | 0, p, A, h => by
    have : p = r := by omega
    subst this
    rw [dt_lastvec]
    refine sumTo_congr fun c hc => ?_
    rw [sgn_par (show (p - c) % 2 = (p + c) % 2 by omega)]
    congr 1
    exact dt_congr fun i c' hi hc' => by unfold er; rw [if_pos hi]
  | d + 1, p, A, h => by
    have h1 := dt_adj A (i := p) (r := r + 1) (by omega)
    have h2 := dt_vec (r := r) d (p + 1) (swp A p (p + 1)) (by omega)
    rw [h2] at h1
    have h3 : sumTo (r + 1) (fun c => sgn (p + 1 + c) * swp A p (p + 1) (p + 1) c * dt r (er (p + 1) (ec c (swp A p (p + 1))))) = -sumTo (r + 1) fun c => sgn (p + c) * A p c * dt r (er p (ec c A)) := by
      rw [← sumTo_neg]
      refine sumTo_congr fun c hc => ?_
      have h4 : er (p + 1) (ec c (swp A p (p + 1))) = er p (ec c A) := by
        funext j d
        have h4 : er (p + 1) (swp A p (p + 1)) = er p A := by
          funext j; simp only [er, swp]
          repeat' split
          all_goals first | rfl | omega | (congr 1; omega)
        rw [er_ec, h4, er_ec]
      rw [h4, show swp A p (p + 1) (p + 1) = A p by unfold swp; rw [if_neg (by omega), if_pos rfl], show p + 1 + c = p + c + 1 by omega, sgn_succ]
      grind
    omega
theorem sumTo_single {n q : Nat} {f : Nat → Int} (hq : q < n) (h : ∀ i, i < n → i ≠ q → f i = 0) : sumTo n f = f q := by
  have := sumTo_one (f := fun _ => 0) (g := f) hq (fun i hi hne => h i hi hne)
  rw [sumTo_zero (f := fun _ => 0) (fun _ _ => rfl)] at this
  omega
/-- Along a vector with one entry. -/
theorem dt_unit {r : Nat} (A : Nat → Nat → Int) {p q : Nat} (hp : p ≤ r) (hq : q ≤ r) (h : ∀ c, c ≤ r → c ≠ q → A p c = 0) : dt (r + 1) A = sgn (p + q) * A p q * dt r (er p (ec q A)) := by
  rw [dt_vec (r - p) p A (by omega)]
  refine sumTo_single (f := fun c => sgn (p + c) * A p c * dt r (er p (ec c A))) (by omega) fun c hc hne => ?_
  rw [h c (by omega) hne]
  simp
theorem dt_zero {r : Nat} (A : Nat → Nat → Int) {i : Nat} (hi : i < r) (h : ∀ c, c < r → A i c = 0) : dt r A = 0 := by
  have := dt_lin A hi 0 0 (A i) (A i)
  rw [show dt r (rp A i fun x => 0 * A i x + 0 * A i x) = dt r A from dt_congr fun j c hj hc => by
    unfold rp; split
    · rename_i e; subst e; rw [h c hc]; simp
    · rfl] at this
  simpa using this
end Go.Proofs.Ytoohcdfokejkdaa.P
namespace Go.Proofs.Ytoohcdfokejkdaa.P
open Go.RowKit Go.Proofs.YtoohcdfokejkdaaW.PrintWords
set_option linter.unusedVariables false
set_option linter.unusedSimpArgs false

def dl (x y : Nat) : Int := if x = y then 1 else 0
theorem dl_self (x : Nat) : dl x x = 1 := if_pos rfl
theorem dl_ne {x y : Nat} (h : x ≠ y) : dl x y = 0 := if_neg h
/-- An edge as a vector over the vertices that stand for their parts, without the root. -/
def vg (l : Nat → Nat) (r : Nat) (e : Nat × Nat) (x : Nat) : Int := if x = r then 0 else dl x (l e.1) - dl x (l e.2)
/-- The matrix over all vertices: 1 at the root and at vertices that do not stand for a part. -/
def dg (l : Nat → Nat) (r x y : Nat) : Int := if x = y ∧ (l x ≠ x ∨ x = r) then 1 else 0
def sg (e : Nat → Nat × Nat) (E : Nat) (l : Nat → Nat) (r : Nat) (U : Nat → Bool) (x y : Nat) : Int := sumTo E fun g => if U g then vg l r (e g) x * vg l r (e g) y else 0
def big (e : Nat → Nat × Nat) (E : Nat) (l : Nat → Nat) (r : Nat) (U : Nat → Bool) (x y : Nat) : Int := dg l r x y + sg e E l r U x y
theorem unit_row {r : Nat} {A : Nat → Nat → Int} {t : Nat} (ht : t ≤ r) (h : ∀ c, c ≤ r → A t c = dl t c) : dt (r + 1) A = dt r (er t (ec t A)) := by
  rw [dt_unit A ht ht (fun c hc hne => by rw [h c hc, dl_ne (Ne.symm hne)]), h t ht, dl_self, sgn_par (show (t + t) % 2 = 0 % 2 by omega)]
  simp [sgn]
theorem minor_congr {r : Nat} {A B : Nat → Nat → Int} {t : Nat} (ht : t ≤ r) (h : ∀ x y, x ≤ r → y ≤ r → x ≠ t → y ≠ t → A x y = B x y) : dt r (er t (ec t A)) = dt r (er t (ec t B)) := by
  refine dt_congr fun i c hi hc => ?_
  by_cases h1 : i < t <;> by_cases h2 : c < t <;> simp only [er, ec, h1, h2, if_true, if_false] <;> exact h _ _ (by omega) (by omega) (by omega) (by omega)
section
variable {e : Nat → Nat × Nat} {E : Nat} {l : Nat → Nat} {r : Nat} {U : Nat → Bool} {g P Q : Nat}
def lq (l : Nat → Nat) (P Q : Nat) : Nat → Nat := fun x => if l x = Q then P else l x
def uq (U : Nat → Bool) (g : Nat) : Nat → Bool := fun h => U h && decide (h ≠ g)
theorem sg_split (hg : g < E) (hU : U g = true) (x y : Nat) : sg e E l r U x y = sg e E l r (uq U g) x y + vg l r (e g) x * vg l r (e g) y := by
  unfold sg
  rw [sumTo_one hg (f := fun h => if uq U g h then vg l r (e h) x * vg l r (e h) y else 0) (g := fun h => if U h then vg l r (e h) x * vg l r (e h) y else 0) (fun i hi hne => by simp [uq, hne])]
  simp [uq, hU]
theorem lq_ne (hPQ : P ≠ Q) (x : Nat) : lq l P Q x ≠ Q := by
  unfold lq; split
  · exact hPQ
  · assumption
theorem dl_lq (hPQ : P ≠ Q) {x : Nat} (hx : x ≠ Q) (a : Nat) : dl x (lq l P Q a) = dl x (l a) + if x = P then dl Q (l a) else 0 := by
  unfold lq dl
  by_cases h : l a = Q
  · rw [if_pos h, h, if_neg hx, if_pos rfl]; simp
  · rw [if_neg h, if_neg (show ¬ Q = l a from fun e => h e.symm)]; simp
variable (hl : ∀ x, l (l x) = l x) (hr : l r = r) (hg : g < E) (hU : U g = true) (hP : P = l (e g).1 ∧ Q = l (e g).2 ∨ P = l (e g).2 ∧ Q = l (e g).1) (hPQ : P ≠ Q)
include hl hr hg hU hP hPQ
omit hr hg hU hPQ in
theorem lP : l P = P := by rcases hP with ⟨h, _⟩ | ⟨h, _⟩ <;> rw [h, hl]
omit hr hg hU hPQ in
theorem lQ : l Q = Q := by rcases hP with ⟨_, h⟩ | ⟨_, h⟩ <;> rw [h, hl]
omit hl hr hPQ in
theorem sg_w (x y : Nat) : sg e E l r U x y = sg e E l r (uq U g) x y + (if x = r then 0 else dl x P - dl x Q) * (if y = r then 0 else dl y P - dl y Q) := by
  rw [sg_split hg hU]
  congr 1
  unfold vg
  rcases hP with ⟨h1, h2⟩ | ⟨h1, h2⟩
  · rw [h1, h2]
  · rw [h1, h2]
    split <;> split <;> grind
omit hr hg hU in
theorem dg_lq {x : Nat} (hx : x ≠ Q) (y : Nat) : dg (lq l P Q) r x y = dg l r x y := by
  have h1 := lP hl hP
  unfold dg lq
  by_cases h : l x = Q
  · rw [if_pos h]
    have : x ≠ P := by rintro rfl; exact hPQ (h1.symm.trans h)
    simp [h, Ne.symm hx, Ne.symm this]
  · rw [if_neg h]
omit hr in
/-- The root is elsewhere. -/
theorem big_join_far {v : Nat} (hPv : P < v) (hQv : Q < v) (h1 : r ≠ P) (h2 : r ≠ Q) : dt v (big e E l r U) = dt v (big e E l r (uq U g)) + dt v (big e E (lq l P Q) r (uq U g)) := by
  obtain ⟨v, rfl⟩ : ∃ u, v = u + 1 := ⟨v - 1, by omega⟩
  have l1 := lP hl hP
  have l2 := lQ hl hP
  generalize hB : big e E l r (uq U g) = B
  generalize hw : (fun x => if x = r then (0 : Int) else dl x P - dl x Q) = w
  have hwP : w P = 1 := by rw [← hw]; simp [h1.symm, dl, hPQ]
  have hwQ : w Q = -1 := by rw [← hw]; simp [h2.symm, dl, hPQ.symm]
  have hw0 : ∀ x, x ≠ P → x ≠ Q → w x = 0 := fun x a b => by rw [← hw]; simp [dl, a, b]
  have hM : ∀ x y, big e E l r U x y = B x y + w x * w y := by
    intro x y
    rw [← hB, ← hw]
    unfold big
    rw [sg_w hg hU hP x y, ← Int.add_assoc]
  generalize hMM : big e E l r U = M at *
  have a1 := dt_addrow M (i := P) (j := Q) hPQ hPv hQv 1
  have a2 : (fun c => M P c + 1 * M Q c) = fun c => B P c + B Q c := by
    funext c
    rw [hM, hM, hwP, hwQ]; omega
  rw [a2] at a1
  have a3 : rp M P (fun c => B P c + B Q c) = rp (rp B P (fun c => B P c + 1 * B Q c)) Q (fun c => 1 * B Q c + (-1) * w c) := by
    funext x c
    unfold rp
    by_cases x1 : x = P
    · subst x1; simp [hPQ]
    · by_cases x2 : x = Q
      · subst x2; rw [if_neg x1, if_pos rfl, hM, hwQ]; omega
      · rw [if_neg x1, if_neg x2, if_neg x1, hM, hw0 x x1 x2]; omega
  rw [a3, dt_lin _ hQv, show rp (rp B P (fun c => B P c + 1 * B Q c)) Q (B Q) = rp B P (fun c => B P c + 1 * B Q c) by
    funext x; unfold rp
    by_cases x2 : x = Q
    · subst x2; rw [if_pos rfl, if_neg hPQ.symm]
    · rw [if_neg x2], dt_addrow B hPQ hPv hQv 1] at a1
  -- the second one
  generalize hG : rp (rp B P (fun c => B P c + 1 * B Q c)) Q w = G at *
  have b1 := dt_addrow (tr G) (i := P) (j := Q) hPQ hPv hQv 1
  rw [dt_tr, ← dt_tr] at b1
  generalize hG' : tr (rp (tr G) P (fun x => tr G P x + 1 * tr G Q x)) = G' at *
  have c1 : ∀ x y, G' x y = if y = P then G x P + G x Q else G x y := by
    intro x y
    rw [← hG']
    unfold tr rp
    split <;> simp
  have gQ : ∀ y, G Q y = w y := fun y => by rw [← hG, rp_same]
  have b2 : dt (v + 1) G' = -dt v (er Q (ec Q G')) := by
    rw [dt_unit G' (p := Q) (q := Q) (by omega) (by omega) (fun c hc hne => by
      rw [c1]
      by_cases x1 : c = P
      · rw [if_pos x1, gQ, gQ, hwP, hwQ]; rfl
      · rw [if_neg x1, gQ, hw0 c x1 hne]), c1, if_neg hPQ.symm, gQ, hwQ, sgn_par (show (Q + Q) % 2 = 0 % 2 by omega)]
    simp [sgn]
  have b3 : dt (v + 1) (big e E (lq l P Q) r (uq U g)) = dt v (er Q (ec Q (big e E (lq l P Q) r (uq U g)))) := by
    refine unit_row (by omega) fun c hc => ?_
    have z : ∀ h, vg (lq l P Q) r (e h) Q = 0 := fun h => by
      unfold vg
      rw [dl_ne (Ne.symm (lq_ne hPQ _)), dl_ne (Ne.symm (lq_ne hPQ _))]; simp
    unfold big sg dg
    rw [sumTo_zero fun i hi => by rw [z]; simp]
    have : lq l P Q Q ≠ Q := lq_ne hPQ _
    simp [this, dl]
  have b4 : dt v (er Q (ec Q (big e E (lq l P Q) r (uq U g)))) = dt v (er Q (ec Q G')) := by
    refine minor_congr (by omega) fun x y hx hy hxQ hyQ => ?_
    have vx : ∀ x, x ≠ Q → ∀ h, vg (lq l P Q) r (e h) x = vg l r (e h) x + if x = P then vg l r (e h) Q else 0 := by
      intro x hxQ h
      unfold vg
      rw [dl_lq hPQ hxQ, dl_lq hPQ hxQ, if_neg h2.symm]
      by_cases x1 : x = P
      · rw [if_pos x1, if_neg (by rw [x1]; exact h1.symm), if_pos x1, if_pos x1]; rw [if_neg (by rw [x1]; exact h1.symm)]; omega
      · rw [if_neg x1, if_neg x1, if_neg x1]; simp
    have sgP : ∀ y, B P y = sg e E l r (uq U g) P y := fun y => by
      rw [← hB]; unfold big dg
      rw [if_neg (fun hh => hh.2.elim (fun h => h l1) (fun h => h1 h.symm))]; omega
    have sgQ : ∀ y, B Q y = sg e E l r (uq U g) Q y := fun y => by
      rw [← hB]; unfold big dg
      rw [if_neg (fun hh => hh.2.elim (fun h => h l2) (fun h => h2 h.symm))]; omega
    have sgx : ∀ x, x ≠ Q → B x Q = sg e E l r (uq U g) x Q := fun x hxQ => by
      rw [← hB]; unfold big dg
      rw [if_neg (by rintro ⟨h, _⟩; exact hxQ h)]; omega
    have sgxP : ∀ x, x ≠ P → B x P = sg e E l r (uq U g) x P := fun x hxQ => by
      rw [← hB]; unfold big dg
      rw [if_neg (by rintro ⟨h, _⟩; exact hxQ h)]; omega
    have dP : ∀ y, dg l r P y = 0 := fun y => by unfold dg; rw [if_neg (fun hh => hh.2.elim (fun h => h l1) (fun h => h1 h.symm))]
    have dP' : ∀ x, x ≠ P → dg l r x P = 0 := fun x hx => by unfold dg; rw [if_neg (by rintro ⟨h, _⟩; exact hx h)]
    have gP : ∀ y, G P y = B P y + B Q y := fun y => by rw [← hG, rp_ne _ hPQ, rp_same]; omega
    have gx : ∀ x, x ≠ P → x ≠ Q → G x = B x := fun x a b => by rw [← hG, rp_ne _ b, rp_ne _ a]
    have key : big e E (lq l P Q) r (uq U g) x y = dg l r x y + (sg e E l r (uq U g) x y + (if x = P then sg e E l r (uq U g) Q y else 0) + (if y = P then sg e E l r (uq U g) x Q else 0) + (if x = P ∧ y = P then sg e E l r (uq U g) Q Q else 0)) := by
      unfold big
      rw [dg_lq hl hP hPQ hxQ]
      congr 1
      unfold sg
      simp only [vx x hxQ, vx y hyQ]
      by_cases x1 : x = P <;> by_cases y1 : y = P <;> simp only [x1, y1, if_true, if_false, and_self, and_true, and_false, false_and, true_and, Int.add_zero]
      · rw [← sumTo_add, ← sumTo_add, ← sumTo_add]
        refine sumTo_congr fun i hi => ?_
        split <;> grind
      · rw [← sumTo_add]
        refine sumTo_congr fun i hi => ?_
        split <;> grind
      · rw [← sumTo_add]
        refine sumTo_congr fun i hi => ?_
        split <;> grind
    rw [key, c1]
    by_cases x1 : x = P
    · subst x1
      by_cases y1 : y = x
      · subst y1
        simp only [if_true, and_self]
        rw [gP, gP, sgP, sgP, sgQ, sgQ, dP]; omega
      · simp only [if_true, y1, if_false, and_false]
        rw [gP, sgP, sgQ, dP]; omega
    · rw [gx x x1 hxQ]
      simp only [x1, false_and, if_false]
      by_cases y1 : y = P
      · subst y1
        rw [if_pos rfl, if_pos rfl, sgxP x x1, sgx x hxQ, dP' x x1]; omega
      · rw [if_neg y1, if_neg y1, ← hB]
        unfold big; omega
  rw [b3, b4]
  omega
omit hr in
/-- The root is one of the two. -/
theorem big_join_near {v : Nat} (hPv : P < v) (hQv : Q < v) (h : r = P ∨ r = Q) : dt v (big e E l r U) = dt v (big e E l r (uq U g)) + dt v (big e E (lq l P Q) P (uq U g)) := by
  obtain ⟨v, rfl⟩ : ∃ u, v = u + 1 := ⟨v - 1, by omega⟩
  have l1 := lP hl hP
  have l2 := lQ hl hP
  obtain ⟨t, htv, htr, ht⟩ : ∃ t, t < v + 1 ∧ t ≠ r ∧ (r = P ∧ t = Q ∨ r = Q ∧ t = P) := by
    rcases h with h | h
    · exact ⟨Q, hQv, by rw [h]; exact hPQ.symm, .inl ⟨h, rfl⟩⟩
    · exact ⟨P, hPv, by rw [h]; exact hPQ, .inr ⟨h, rfl⟩⟩
  generalize hB : big e E l r (uq U g) = B
  have hM : ∀ x y, big e E l r U x y = B x y + dl x t * dl y t := by
    intro x y
    rw [← hB]
    unfold big
    rw [sg_w hg hU hP x y, ← Int.add_assoc]
    congr 1
    rcases ht with ⟨e1, e2⟩ | ⟨e1, e2⟩
    · rw [e1, e2]
      unfold dl
      by_cases a : x = P <;> by_cases b : y = P <;> by_cases c : x = Q <;> by_cases d : y = Q <;> simp_all
    · rw [e1, e2]
      unfold dl
      by_cases a : x = P <;> by_cases b : y = P <;> by_cases c : x = Q <;> by_cases d : y = Q <;> simp_all
  have a1 : big e E l r U = rp B t (fun c => 1 * B t c + 1 * dl t c) := by
    funext x c
    rw [hM]
    unfold rp
    by_cases e1 : x = t
    · subst e1
      rw [if_pos rfl, dl_self, show dl c x = dl x c by unfold dl; simp [eq_comm]]; omega
    · rw [if_neg e1, dl_ne e1]; omega
  rw [a1, dt_lin _ htv, rp_self]
  have b1 : dt (v + 1) (rp B t (dl t)) = dt v (er t (ec t (rp B t (dl t)))) := unit_row (by omega) fun c hc => by rw [rp_same]
  have b3 : dt (v + 1) (big e E (lq l P Q) P (uq U g)) = dt v (er t (ec t (big e E (lq l P Q) P (uq U g)))) := by
    refine unit_row (by omega) fun c hc => ?_
    have z : ∀ h, vg (lq l P Q) P (e h) t = 0 := fun h => by
      unfold vg
      rcases ht with ⟨e1, e2⟩ | ⟨e1, e2⟩
      · rw [e2, dl_ne (Ne.symm (lq_ne hPQ _)), dl_ne (Ne.symm (lq_ne hPQ _))]; simp
      · rw [if_pos e2]
    unfold big sg dg
    rw [sumTo_zero fun i hi => by rw [z]; simp]
    have : lq l P Q t ≠ t ∨ t = P := by
      rcases ht with ⟨e1, e2⟩ | ⟨e1, e2⟩
      · left; rw [e2]; exact lq_ne hPQ _
      · right; exact e2
    simp [this, dl]
  have b4 : dt v (er t (ec t (big e E (lq l P Q) P (uq U g)))) = dt v (er t (ec t (rp B t (dl t)))) := by
    refine minor_congr (by omega) fun x y hx hy hxt hyt => ?_
    rw [rp_ne _ hxt, ← hB]
    unfold big
    have vx : ∀ x, x ≠ t → ∀ h, vg (lq l P Q) P (e h) x = vg l r (e h) x := by
      intro x hxt h
      unfold vg
      rcases ht with ⟨e1, e2⟩ | ⟨e1, e2⟩
      · rw [e2] at hxt
        rw [e1]
        by_cases x1 : x = P
        · rw [if_pos x1, if_pos x1]
        · rw [if_neg x1, if_neg x1, dl_lq hPQ hxt, dl_lq hPQ hxt, if_neg x1, if_neg x1]; omega
      · rw [e2] at hxt
        rw [e1, if_neg hxt]
        by_cases x1 : x = Q
        · rw [if_pos x1, x1, dl_ne (Ne.symm (lq_ne hPQ _)), dl_ne (Ne.symm (lq_ne hPQ _))]; rfl
        · rw [if_neg x1, dl_lq hPQ x1, dl_lq hPQ x1, if_neg hxt, if_neg hxt]; omega
    congr 1
    · rcases ht with ⟨e1, e2⟩ | ⟨e1, e2⟩
      · rw [e2] at hxt
        have := dg_lq (r := r) hl hP hPQ hxt y
        rwa [e1] at this ⊢
      · rw [e2] at hxt
        by_cases x1 : x = Q
        · have := lq_ne (l := l) hPQ Q
          rw [x1, e1]
          unfold dg
          simp [this]
        · rw [show dg (lq l P Q) P x y = dg (lq l P Q) r x y by unfold dg; rw [e1]; simp [hxt, x1]]
          exact dg_lq hl hP hPQ x1 y
    · unfold sg
      simp only [vx x hxt, vx y hyt]
  rw [b1, b3, b4]
  omega
end
end Go.Proofs.Ytoohcdfokejkdaa.P
