/- The statement FnExactNextMaze of the seat, out of its plain form (FnExactNextMaze_pure) and the walk of its Go function. Part 5 of 6: each Go function's walk, then the plain lemmas, then the row. No condition: it holds for every input. -/
import Derived.Test.YtoohcdfokejkdaaBFnExactNextMaze4
import Derived.ChangeSlices
import Derived.Deep.Matrix
import Derived.Lib.SmallJoins
import Derived.SizedLaws
namespace Go.Proofs.Ytoohcdfokejkdaa.P
open Go.RowKit Go.Proofs.YtoohcdfokejkdaaW.PrintWords Go.Proofs.YtoohcdfokejkdaaW.PrintLast Go.Proofs.YtoohcdfokejkdaaW.PrintMore
attribute [local go_sem] max2_int min2_int max_two min_two max_three min_three max_four min_four   -- for this text's walks alone
set_option linter.unusedVariables false
set_option linter.unusedSimpArgs false

def spec_Neighbor.j0 : Nat → Int → Int → Int → Int → Option (Int)
 | 0, _, _, _, _ => none
 | k + 1, x7, x8, x102000, x102001 => (spec_l01In.f x7 0 (wrap64 (x102000 - 1))).bind fun t104 => (if t104 = true then ((spec_l01In.f x8 0 (wrap64 (x102001 - 1))).bind fun t105 => (if t105 = true then (some (wrap64 ((wrap64 (x8 * x102000)) + x7))) else (some (-1)))) else (some (-1)))
def spec_Neighbor.f (k : Nat) (a0_0 : Int) (a0_1 : Int) (a1 : Int) (a2 : Int) : Option (Int) := (spec_CountCells.f a0_0 a0_1).bind fun t102 => ((spec_l01In.f a1 0 (wrap64 (t102 - 1))).bind fun t103 => (if t103 = true then (if a0_0 = 0 then (none) else (if a2 = 0 then (spec_Neighbor.j0 k (Int.tmod a1 a0_0) (wrap64 ((wrap64 (Int.tdiv a1 a0_0)) - 1)) a0_0 a0_1) else (if a2 = 1 then (spec_Neighbor.j0 k (wrap64 ((Int.tmod a1 a0_0) + 1)) (wrap64 (Int.tdiv a1 a0_0)) a0_0 a0_1) else (if a2 = 2 then (spec_Neighbor.j0 k (Int.tmod a1 a0_0) (wrap64 ((wrap64 (Int.tdiv a1 a0_0)) + 1)) a0_0 a0_1) else (if a2 = 3 then (spec_Neighbor.j0 k (wrap64 ((Int.tmod a1 a0_0) - 1)) (wrap64 (Int.tdiv a1 a0_0)) a0_0 a0_1) else (some (-1))))))) else (some (-1))))
set_option maxHeartbeats 8000000 in
set_option maxRecDepth 100000 in
theorem spec_Neighbor.calls (k : Nat) (a0_0 : Int) (a0_1 : Int) (a1 : Int) (a2 : Int) (r : Int) (w : World) (h : spec_Neighbor.f k a0_0 a0_1 a1 a2 = some r) :
  Calls Try.prog 101 #[.agg #[.int .i64 a0_0, .int .i64 a0_1], .int .i64 a1, .int .i64 a2] w fun e w' => e = .returned (.int .i64 r) ∧ Below w.heap.size w w' := by
 have hu40 := Try.underlying40
 have HB := A_ (Below.refl w.heap.size w)
 have H : ((spec_CountCells.f a0_0 a0_1).bind fun t102 => ((spec_l01In.f a1 0 (wrap64 (t102 - 1))).bind fun t103 => (if t103 = true then (if a0_0 = 0 then (none) else (if a2 = 0 then (spec_Neighbor.j0 k (Int.tmod a1 a0_0) (wrap64 ((wrap64 (Int.tdiv a1 a0_0)) - 1)) a0_0 a0_1) else (if a2 = 1 then (spec_Neighbor.j0 k (wrap64 ((Int.tmod a1 a0_0) + 1)) (wrap64 (Int.tdiv a1 a0_0)) a0_0 a0_1) else (if a2 = 2 then (spec_Neighbor.j0 k (Int.tmod a1 a0_0) (wrap64 ((wrap64 (Int.tdiv a1 a0_0)) + 1)) a0_0 a0_1) else (if a2 = 3 then (spec_Neighbor.j0 k (wrap64 ((Int.tmod a1 a0_0) - 1)) (wrap64 (Int.tdiv a1 a0_0)) a0_0 a0_1) else (some (-1))))))) else (some (-1))))) = some r := h
 clear h
 obtain ⟨t102, A40, H⟩ := oB_ H
 (try dsimp only at H); have A4 := A_ A40; clear A40
 obtain ⟨t103, A50, H⟩ := oB_ H
 (try dsimp only at H); have A5 := A_ A50; clear A50
 by_cases c6 : t103 = true
 ·subst c6
  rw [if_pos rfl] at H
  by_cases c7 : a0_0 = 0
  ·rw [if_pos c7] at H
   exact absurd H (by simp)
  ·rw [if_neg c7] at H
   have c7b0 : (a0_0 == 0) = false := beq_eq_false_iff_ne.mpr c7
   have c7b1 : (a0_0 != 0) = true := bne_iff_ne.mpr c7
   have HC8 := A_ H
   clear H
   go_enter Try.func101, Try.ntmps101
   go_upto_block 0 with (first | ((with_reducible refine gate_dst (N := 3) rfl ?_); refine be_ 3 #[.int .i64 a0_0, .int .i64 a0_1] 40 ?_; intro gb101 hg w9 hbox hb; have n0_ := A_ (bs_ HB.1 hb); have n1_ := A_ (hbox); have n2_ := A_ (bS_ HB.out hg); have n3_ := A_ (bS_ HB.out hg); clear HB; have HB := n0_; have BK101 := n1_; have GW101 := n2_; have GE101 := n3_; clear n0_ n1_ n2_ n3_ hb hbox hg; obtain ⟨hcz10_0, hcz10_1⟩ := kk2_ BK101.1; have hfz10_0 := bf_ BK101.out 0; have hfz10_1 := bf_ BK101.out 1) | ((with_reducible refine gate_callee (f := 36) rfl ?_); refine gl_ 11 Try.func36 #[.agg #[.int .i64 a0_0, .int .i64 a0_1]] ?_; (with_reducible refine (spec_CountCells.calls a0_0 a0_1 t102 _ A4.out).mono ?_); rintro e w11 ⟨rfl, hb⟩; refine ⟨_, rfl, ?_⟩; have n0_ := A_ (blk_below BK101.out hb); have n1_ := A_ (bs_ HB.1 hb); clear BK101 HB; have BK101 := n0_; have HB := n1_; clear n0_ n1_; (try clear hb); (try clear hk)) | ((with_reducible refine gate_callee (f := 61) rfl ?_); refine gl_ 13 Try.func61 #[.int .i64 a1, .int .i64 0, .int .i64 (wrap64 (t102 - 1))] ?_; (with_reducible refine (spec_l01In.calls a1 0 (wrap64 (t102 - 1)) true _ A5.out).mono ?_); rintro e w' ⟨rfl, ⟨nd, rfl⟩⟩; refine ⟨_, rfl, ?_⟩; obtain ⟨hcz12_0, hcz12_1⟩ := kk2_ BK101.1; have hfz12_0 := bf_ BK101.out 0; have hfz12_1 := bf_ BK101.out 1))
   (try simp only [Act.put, List.setIfInBounds_toArray, List.set_cons_zero, List.set_cons_succ])
   go_cut [7, 8] (fun v7 v8 wc => ∃ (kq : Nat) (x7_7 : Int) (x8_7 : Int), v7 = .int .i64 x7_7 ∧ v8 = .int .i64 x8_7 ∧ Aside0 (spec_Neighbor.j0 kq x7_7 x8_7 a0_0 a0_1 = some r) ∧ Aside0 (kq ≤ k) ∧ Aside0 (wc.heap[gb101]? = some (.cells #[.int .i64 a0_0, .int .i64 a0_1] 40 (0, 0))) ∧ Aside0 (Below w.heap.size w wc))
   case first =>
    have H := HC8.out
    clear HC8
    by_cases c13 : a2 = 0
    ·rw [if_pos c13] at H
     have c13b0 : (a2 == 0) = true := beq_iff_eq.mpr c13
     have c13b1 : (a2 != 0) = false := bne_eq_false_iff_eq.mpr c13
     clear c13
     (skip)
     have H' := A_ H
     clear H
     go_wp2
     go_meet
     case rel => exact ⟨_, (Int.tmod a1 a0_0), (wrap64 ((wrap64 (Int.tdiv a1 a0_0)) - 1)), (by rfl), (by rfl), H', ⟨by omega⟩, ⟨by (with_reducible repeat (refine blk_drewN ?_ _)); exact BK101.out⟩, ⟨by repeat ((with_reducible first | exact HB.out | apply pw_below_drewN))⟩⟩
    ·rw [if_neg c13] at H
     have c13b0 : (a2 == 0) = false := beq_eq_false_iff_ne.mpr c13
     have c13b1 : (a2 != 0) = true := bne_iff_ne.mpr c13
     (skip)
     by_cases c14 : a2 = 1
     ·rw [if_pos c14] at H
      have c14b0 : (a2 == 1) = true := beq_iff_eq.mpr c14
      have c14b1 : (a2 != 1) = false := bne_eq_false_iff_eq.mpr c14
      clear c14
      have H' := A_ H
      clear H
      go_wp2
      go_meet
      case rel => exact ⟨_, (wrap64 ((Int.tmod a1 a0_0) + 1)), (wrap64 (Int.tdiv a1 a0_0)), (by rfl), (by rfl), H', ⟨by omega⟩, ⟨by (with_reducible repeat (refine blk_drewN ?_ _)); exact BK101.out⟩, ⟨by repeat ((with_reducible first | exact HB.out | apply pw_below_drewN))⟩⟩
     ·rw [if_neg c14] at H
      have c14b0 : (a2 == 1) = false := beq_eq_false_iff_ne.mpr c14
      have c14b1 : (a2 != 1) = true := bne_iff_ne.mpr c14
      by_cases c15 : a2 = 2
      ·rw [if_pos c15] at H
       have c15b0 : (a2 == 2) = true := beq_iff_eq.mpr c15
       have c15b1 : (a2 != 2) = false := bne_eq_false_iff_eq.mpr c15
       clear c15
       have H' := A_ H
       clear H
       go_wp2
       go_meet
       case rel => exact ⟨_, (Int.tmod a1 a0_0), (wrap64 ((wrap64 (Int.tdiv a1 a0_0)) + 1)), (by rfl), (by rfl), H', ⟨by omega⟩, ⟨by (with_reducible repeat (refine blk_drewN ?_ _)); exact BK101.out⟩, ⟨by repeat ((with_reducible first | exact HB.out | apply pw_below_drewN))⟩⟩
      ·rw [if_neg c15] at H
       have c15b0 : (a2 == 2) = false := beq_eq_false_iff_ne.mpr c15
       have c15b1 : (a2 != 2) = true := bne_iff_ne.mpr c15
       by_cases c16 : a2 = 3
       ·rw [if_pos c16] at H
        have c16b0 : (a2 == 3) = true := beq_iff_eq.mpr c16
        have c16b1 : (a2 != 3) = false := bne_eq_false_iff_eq.mpr c16
        clear c16
        have H' := A_ H
        clear H
        go_wp2
        go_meet
        case rel => exact ⟨_, (wrap64 ((Int.tmod a1 a0_0) - 1)), (wrap64 (Int.tdiv a1 a0_0)), (by rfl), (by rfl), H', ⟨by omega⟩, ⟨by (with_reducible repeat (refine blk_drewN ?_ _)); exact BK101.out⟩, ⟨by repeat ((with_reducible first | exact HB.out | apply pw_below_drewN))⟩⟩
       ·rw [if_neg c16] at H
        have c16b0 : (a2 == 3) = false := beq_eq_false_iff_ne.mpr c16
        have c16b1 : (a2 != 3) = true := bne_iff_ne.mpr c16
        obtain rfl := Option.some.inj H
        go_wp2
        go_ret
        exact ⟨by rfl, by repeat ((with_reducible first | exact HB.out | apply pw_below_drewN))⟩
   case rest =>
    clear HC8; try clear c1; try clear p2; try clear c3; try clear c6; try clear p6; try clear c7; try clear c7b0; try clear c7b1; try clear c10; try clear c13; try clear c13b0; try clear c13b1; try clear c14; try clear c14b0; try clear c14b1; try clear c15; try clear c15b0; try clear c15b1; try clear c16; try clear c16b0; try clear c16b1; try clear hcz10_0; try clear hcz10_1; try clear hcz12_0; try clear hcz12_1; try clear hfz10_0; try clear hfz10_1; try clear hfz12_0; try clear hfz12_1
    obtain ⟨kq, x7_7, x8_7, rfl, rfl, HA, HJ7, BK101, HB⟩ := hcut
    cases kq with
    | zero => exact absurd HA.out (by simp [spec_Neighbor.j0])
    | succ kj7 =>
     have H := HA.out
     clear HA
     simp only [spec_Neighbor.j0] at H
     obtain ⟨t104, A170, H⟩ := oB_ H
     (try dsimp only at H); have A17 := A_ A170; clear A170
     by_cases c18 : t104 = true
     ·subst c18
      rw [if_pos rfl] at H
      obtain ⟨t105, A190, H⟩ := oB_ H
      (try dsimp only at H); have A19 := A_ A190; clear A190
      by_cases c20 : t105 = true
      ·subst c20
       rw [if_pos rfl] at H
       obtain rfl := Option.some.inj H
       obtain ⟨hcz21_0, hcz21_1⟩ := kk2_ BK101.1
       have hfz21_0 := bf_ BK101.out 0
       have hfz21_1 := bf_ BK101.out 1
       go_wp2_with (first | ((with_reducible refine gate_callee (f := 61) rfl ?_); refine gl_ 44 Try.func61 #[.int .i64 x7_7, .int .i64 0, .int .i64 (wrap64 (a0_0 - 1))] ?_; (with_reducible refine (spec_l01In.calls x7_7 0 (wrap64 (a0_0 - 1)) true _ A17.out).mono ?_); rintro e w' ⟨rfl, ⟨nd, rfl⟩⟩; refine ⟨_, rfl, ?_⟩) | (go_at_call 61; (with_reducible refine (spec_l01In.calls x8_7 0 (wrap64 (a0_1 - 1)) true _ A19.out).mono ?_); rintro e w' ⟨rfl, ⟨nd, rfl⟩⟩))
       go_ret
       exact ⟨by rfl, by repeat ((with_reducible first | exact HB.out | apply pw_below_drewN))⟩
      ·replace c20 := Bool.eq_false_iff.mpr c20
       subst c20
       have H1 : (some (-1)) = some r := by rw [if_neg (show ¬ (false = true) by decide)] at H; exact H
       clear H
       have H := H1
       clear H1
       obtain rfl := Option.some.inj H
       obtain ⟨hcz22_0, hcz22_1⟩ := kk2_ BK101.1
       have hfz22_0 := bf_ BK101.out 0
       have hfz22_1 := bf_ BK101.out 1
       go_wp2_with (first | ((with_reducible refine gate_callee (f := 61) rfl ?_); refine gl_ 44 Try.func61 #[.int .i64 x7_7, .int .i64 0, .int .i64 (wrap64 (a0_0 - 1))] ?_; (with_reducible refine (spec_l01In.calls x7_7 0 (wrap64 (a0_0 - 1)) true _ A17.out).mono ?_); rintro e w' ⟨rfl, ⟨nd, rfl⟩⟩; refine ⟨_, rfl, ?_⟩) | (go_at_call 61; (with_reducible refine (spec_l01In.calls x8_7 0 (wrap64 (a0_1 - 1)) false _ A19.out).mono ?_); rintro e w' ⟨rfl, ⟨nd, rfl⟩⟩))
       go_ret
       exact ⟨by rfl, by repeat ((with_reducible first | exact HB.out | apply pw_below_drewN))⟩
     ·replace c18 := Bool.eq_false_iff.mpr c18
      subst c18
      have H1 : (some (-1)) = some r := by rw [if_neg (show ¬ (false = true) by decide)] at H; exact H
      clear H
      have H := H1
      clear H1
      obtain rfl := Option.some.inj H
      obtain ⟨hcz23_0, hcz23_1⟩ := kk2_ BK101.1
      have hfz23_0 := bf_ BK101.out 0
      have hfz23_1 := bf_ BK101.out 1
      go_wp2_with (((with_reducible refine gate_callee (f := 61) rfl ?_); refine gl_ 44 Try.func61 #[.int .i64 x7_7, .int .i64 0, .int .i64 (wrap64 (a0_0 - 1))] ?_; (with_reducible refine (spec_l01In.calls x7_7 0 (wrap64 (a0_0 - 1)) false _ A17.out).mono ?_); rintro e w' ⟨rfl, ⟨nd, rfl⟩⟩; refine ⟨_, rfl, ?_⟩))
      go_ret
      exact ⟨by rfl, by repeat ((with_reducible first | exact HB.out | apply pw_below_drewN))⟩
 ·replace c6 := Bool.eq_false_iff.mpr c6
  subst c6
  have H1 : (some (-1)) = some r := by rw [if_neg (show ¬ (false = true) by decide)] at H; exact H
  clear H
  have H := H1
  clear H1
  obtain rfl := Option.some.inj H
  go_enter Try.func101, Try.ntmps101
  go_wp2_with (first | ((with_reducible refine gate_dst (N := 3) rfl ?_); refine be_ 3 #[.int .i64 a0_0, .int .i64 a0_1] 40 ?_; intro gb101 hg w24 hbox hb; have n0_ := A_ (bs_ HB.1 hb); have n1_ := A_ (hbox); have n2_ := A_ (bS_ HB.out hg); have n3_ := A_ (bS_ HB.out hg); clear HB; have HB := n0_; have BK101 := n1_; have GW101 := n2_; have GE101 := n3_; clear n0_ n1_ n2_ n3_ hb hbox hg; obtain ⟨hcz25_0, hcz25_1⟩ := kk2_ BK101.1; have hfz25_0 := bf_ BK101.out 0; have hfz25_1 := bf_ BK101.out 1) | ((with_reducible refine gate_callee (f := 36) rfl ?_); refine gl_ 11 Try.func36 #[.agg #[.int .i64 a0_0, .int .i64 a0_1]] ?_; (with_reducible refine (spec_CountCells.calls a0_0 a0_1 t102 _ A4.out).mono ?_); rintro e w26 ⟨rfl, hb⟩; refine ⟨_, rfl, ?_⟩; have n0_ := A_ (blk_below BK101.out hb); have n1_ := A_ (bs_ HB.1 hb); clear BK101 HB; have BK101 := n0_; have HB := n1_; clear n0_ n1_; (try clear hb); (try clear hk)) | ((with_reducible refine gate_callee (f := 61) rfl ?_); refine gl_ 13 Try.func61 #[.int .i64 a1, .int .i64 0, .int .i64 (wrap64 (t102 - 1))] ?_; (with_reducible refine (spec_l01In.calls a1 0 (wrap64 (t102 - 1)) false _ A5.out).mono ?_); rintro e w' ⟨rfl, ⟨nd, rfl⟩⟩; refine ⟨_, rfl, ?_⟩))
  go_ret
  exact ⟨by rfl, by repeat ((with_reducible first | exact HB.out | apply pw_below_drewN))⟩

def spec_GapAt.f (k : Nat) (a0_0 : Int) (a0_1 : Int) (a1 : Int) (a2 : Int) : Option (Int) := (spec_Neighbor.f k a0_0 a0_1 a1 a2).bind fun t102 => (if t102 < 0 then (some (-1)) else (if a2 = 1 then (if a0_0 = 0 then (none) else (some (wrap64 ((wrap64 ((wrap64 (Int.tdiv (mn a1 t102) a0_0)) * (wrap64 (a0_0 - 1)))) + (Int.tmod (mn a1 t102) a0_0))))) else (if a2 = 3 then (if a0_0 = 0 then (none) else (some (wrap64 ((wrap64 ((wrap64 (Int.tdiv (mn a1 t102) a0_0)) * (wrap64 (a0_0 - 1)))) + (Int.tmod (mn a1 t102) a0_0))))) else ((spec_l02East.f a0_0 a0_1).bind fun t103 => (some (wrap64 (t103 + (mn a1 t102))))))))
set_option maxHeartbeats 8000000 in
set_option maxRecDepth 100000 in
theorem spec_GapAt.calls (k : Nat) (a0_0 : Int) (a0_1 : Int) (a1 : Int) (a2 : Int) (r : Int) (w : World) (h : spec_GapAt.f k a0_0 a0_1 a1 a2 = some r) :
  Calls Try.prog 100 #[.agg #[.int .i64 a0_0, .int .i64 a0_1], .int .i64 a1, .int .i64 a2] w fun e w' => e = .returned (.int .i64 r) ∧ Below w.heap.size w w' := by
 have hu40 := Try.underlying40
 have HB := A_ (Below.refl w.heap.size w)
 have H : ((spec_Neighbor.f k a0_0 a0_1 a1 a2).bind fun t102 => (if t102 < 0 then (some (-1)) else (if a2 = 1 then (if a0_0 = 0 then (none) else (some (wrap64 ((wrap64 ((wrap64 (Int.tdiv (mn a1 t102) a0_0)) * (wrap64 (a0_0 - 1)))) + (Int.tmod (mn a1 t102) a0_0))))) else (if a2 = 3 then (if a0_0 = 0 then (none) else (some (wrap64 ((wrap64 ((wrap64 (Int.tdiv (mn a1 t102) a0_0)) * (wrap64 (a0_0 - 1)))) + (Int.tmod (mn a1 t102) a0_0))))) else ((spec_l02East.f a0_0 a0_1).bind fun t103 => (some (wrap64 (t103 + (mn a1 t102))))))))) = some r := h
 clear h
 obtain ⟨t102, A40, H⟩ := oB_ H
 (try dsimp only at H); have A4 := A_ A40; clear A40
 by_cases c5 : t102 < 0
 ·rw [if_pos c5] at H
  have c5b0 : decide (t102 < 0) = true := decide_eq_true c5
  clear c5
  obtain rfl := Option.some.inj H
  go_enter Try.func100, Try.ntmps100
  go_wp2_with (first | ((with_reducible refine gate_dst (N := 3) rfl ?_); refine be_ 3 #[.int .i64 a0_0, .int .i64 a0_1] 40 ?_; intro gb101 hg w6 hbox hb; have n0_ := A_ (bs_ HB.1 hb); have n1_ := A_ (hbox); have n2_ := A_ (bS_ HB.out hg); have n3_ := A_ (bS_ HB.out hg); clear HB; have HB := n0_; have BK101 := n1_; have GW101 := n2_; have GE101 := n3_; clear n0_ n1_ n2_ n3_ hb hbox hg; obtain ⟨hcz7_0, hcz7_1⟩ := kk2_ BK101.1; have hfz7_0 := bf_ BK101.out 0; have hfz7_1 := bf_ BK101.out 1) | (go_at_call 101; (with_reducible refine (spec_Neighbor.calls k a0_0 a0_1 a1 a2 t102 _ A4.out).mono ?_); rintro e w8 ⟨rfl, hb⟩; have n0_ := A_ (blk_below BK101.out hb); have n1_ := A_ (bs_ HB.1 hb); clear BK101 HB; have BK101 := n0_; have HB := n1_; clear n0_ n1_; (try clear hb); (try clear hk)))
  repeat (go_quiet (fail); try go_wp2_with (fail))
  go_ret
  exact ⟨by rfl, by repeat ((with_reducible exact HB.out))⟩
 ·rw [if_neg c5] at H
  have c5b0 : decide (t102 < 0) = false := decide_eq_false c5
  clear c5
  obtain ⟨ji9, hji9⟩ : ∃ j_ : Int, (mn a1 t102) = j_ := ⟨_, rfl⟩
  replace H : (if a2 = 1 then (if a0_0 = 0 then (none) else (some (wrap64 ((wrap64 ((wrap64 (Int.tdiv (ji9) a0_0)) * (wrap64 (a0_0 - 1)))) + (Int.tmod (ji9) a0_0))))) else (if a2 = 3 then (if a0_0 = 0 then (none) else (some (wrap64 ((wrap64 ((wrap64 (Int.tdiv (ji9) a0_0)) * (wrap64 (a0_0 - 1)))) + (Int.tmod (ji9) a0_0))))) else ((spec_l02East.f a0_0 a0_1).bind fun t103 => (some (wrap64 (t103 + (ji9))))))) = some r := by (rw [hji9] at H; exact H)
  (try rw [hji9] at A4)
  have hji9_ : (if t102 < a1 then t102 else a1) = ji9 := hji9
  by_cases c10 : a2 = 1
  ·rw [if_pos c10] at H
   have c10b0 : (a2 == 1) = true := beq_iff_eq.mpr c10
   have c10b1 : (a2 != 1) = false := bne_eq_false_iff_eq.mpr c10
   clear c10
   by_cases c11 : a0_0 = 0
   ·rw [if_pos c11] at H
    exact absurd H (by simp)
   ·rw [if_neg c11] at H
    have c11b0 : (a0_0 == 0) = false := beq_eq_false_iff_ne.mpr c11
    have c11b1 : (a0_0 != 0) = true := bne_iff_ne.mpr c11
    obtain rfl := Option.some.inj H
    go_enter Try.func100, Try.ntmps100
    go_wp2_with (first | ((with_reducible refine gate_dst (N := 3) rfl ?_); refine be_ 3 #[.int .i64 a0_0, .int .i64 a0_1] 40 ?_; intro gb101 hg w12 hbox hb; have n0_ := A_ (bs_ HB.1 hb); have n1_ := A_ (hbox); have n2_ := A_ (bS_ HB.out hg); have n3_ := A_ (bS_ HB.out hg); clear HB; have HB := n0_; have BK101 := n1_; have GW101 := n2_; have GE101 := n3_; clear n0_ n1_ n2_ n3_ hb hbox hg; obtain ⟨hcz13_0, hcz13_1⟩ := kk2_ BK101.1; have hfz13_0 := bf_ BK101.out 0; have hfz13_1 := bf_ BK101.out 1) | (go_at_call 101; (with_reducible refine (spec_Neighbor.calls k a0_0 a0_1 a1 a2 t102 _ A4.out).mono ?_); rintro e w14 ⟨rfl, hb⟩; have n0_ := A_ (blk_below BK101.out hb); have n1_ := A_ (bs_ HB.1 hb); clear BK101 HB; have BK101 := n0_; have HB := n1_; clear n0_ n1_; (try clear hb); (try clear hk); obtain ⟨hcz15_0, hcz15_1⟩ := kk2_ BK101.1; have hfz15_0 := bf_ BK101.out 0; have hfz15_1 := bf_ BK101.out 1))
    repeat (go_quiet (fail); try go_wp2_with (fail))
    go_ret
    exact ⟨by rfl, by repeat ((with_reducible first | exact HB.out | apply pw_below_drewN))⟩
  ·rw [if_neg c10] at H
   have c10b0 : (a2 == 1) = false := beq_eq_false_iff_ne.mpr c10
   have c10b1 : (a2 != 1) = true := bne_iff_ne.mpr c10
   by_cases c16 : a2 = 3
   ·rw [if_pos c16] at H
    have c16b0 : (a2 == 3) = true := beq_iff_eq.mpr c16
    have c16b1 : (a2 != 3) = false := bne_eq_false_iff_eq.mpr c16
    clear c16
    by_cases c17 : a0_0 = 0
    ·rw [if_pos c17] at H
     exact absurd H (by simp)
    ·rw [if_neg c17] at H
     have c17b0 : (a0_0 == 0) = false := beq_eq_false_iff_ne.mpr c17
     have c17b1 : (a0_0 != 0) = true := bne_iff_ne.mpr c17
     obtain rfl := Option.some.inj H
     go_enter Try.func100, Try.ntmps100
     go_wp2_with (first | ((with_reducible refine gate_dst (N := 3) rfl ?_); refine be_ 3 #[.int .i64 a0_0, .int .i64 a0_1] 40 ?_; intro gb101 hg w18 hbox hb; have n0_ := A_ (bs_ HB.1 hb); have n1_ := A_ (hbox); have n2_ := A_ (bS_ HB.out hg); have n3_ := A_ (bS_ HB.out hg); clear HB; have HB := n0_; have BK101 := n1_; have GW101 := n2_; have GE101 := n3_; clear n0_ n1_ n2_ n3_ hb hbox hg; obtain ⟨hcz19_0, hcz19_1⟩ := kk2_ BK101.1; have hfz19_0 := bf_ BK101.out 0; have hfz19_1 := bf_ BK101.out 1) | (go_at_call 101; (with_reducible refine (spec_Neighbor.calls k a0_0 a0_1 a1 a2 t102 _ A4.out).mono ?_); rintro e w20 ⟨rfl, hb⟩; have n0_ := A_ (blk_below BK101.out hb); have n1_ := A_ (bs_ HB.1 hb); clear BK101 HB; have BK101 := n0_; have HB := n1_; clear n0_ n1_; (try clear hb); (try clear hk); obtain ⟨hcz21_0, hcz21_1⟩ := kk2_ BK101.1; have hfz21_0 := bf_ BK101.out 0; have hfz21_1 := bf_ BK101.out 1))
     repeat (go_quiet (fail); try go_wp2_with (fail))
     go_ret
     exact ⟨by rfl, by repeat ((with_reducible first | exact HB.out | apply pw_below_drewN))⟩
   ·rw [if_neg c16] at H
    have c16b0 : (a2 == 3) = false := beq_eq_false_iff_ne.mpr c16
    have c16b1 : (a2 != 3) = true := bne_iff_ne.mpr c16
    obtain ⟨t103, A220, H⟩ := oB_ H
    (try dsimp only at H); have A22 := A_ A220; clear A220
    obtain rfl := Option.some.inj H
    go_enter Try.func100, Try.ntmps100
    go_wp2_with (first | ((with_reducible refine gate_dst (N := 3) rfl ?_); refine be_ 3 #[.int .i64 a0_0, .int .i64 a0_1] 40 ?_; intro gb101 hg w23 hbox hb; have n0_ := A_ (bs_ HB.1 hb); have n1_ := A_ (hbox); have n2_ := A_ (bS_ HB.out hg); have n3_ := A_ (bS_ HB.out hg); clear HB; have HB := n0_; have BK101 := n1_; have GW101 := n2_; have GE101 := n3_; clear n0_ n1_ n2_ n3_ hb hbox hg; obtain ⟨hcz24_0, hcz24_1⟩ := kk2_ BK101.1; have hfz24_0 := bf_ BK101.out 0; have hfz24_1 := bf_ BK101.out 1) | (go_at_call 101; (with_reducible refine (spec_Neighbor.calls k a0_0 a0_1 a1 a2 t102 _ A4.out).mono ?_); rintro e w25 ⟨rfl, hb⟩; have n0_ := A_ (blk_below BK101.out hb); have n1_ := A_ (bs_ HB.1 hb); clear BK101 HB; have BK101 := n0_; have HB := n1_; clear n0_ n1_; (try clear hb); (try clear hk); obtain ⟨hcz26_0, hcz26_1⟩ := kk2_ BK101.1; have hfz26_0 := bf_ BK101.out 0; have hfz26_1 := bf_ BK101.out 1) | (go_at_call 75; (with_reducible refine (spec_l02East.calls a0_0 a0_1 t103 _ A22.out).mono ?_); rintro e w27 ⟨rfl, hb⟩; have n0_ := A_ (blk_below BK101.out hb); have n1_ := A_ (bs_ HB.1 hb); clear BK101 HB; have BK101 := n0_; have HB := n1_; clear n0_ n1_; (try clear hb); (try clear hk)))
    repeat (go_quiet (fail); try go_wp2_with (fail))
    go_ret
    exact ⟨by rfl, by repeat ((with_reducible exact HB.out))⟩

def spec_Step.f (k : Nat) (a0_0 : Int) (a0_1 : Int) (a0_2 : Int) (a1 : Int) (a2 : Int) : Option (Int) := (spec_MazeOk.f a0_0 a0_1 a0_2).bind fun t102 => (if t102 = true then ((spec_GapAt.f k a0_0 a0_1 a1 a2).bind fun t103 => ((spec_IsPassage.f a0_0 a0_1 a0_2 t103).bind fun t104 => (if t104 = true then ((spec_Neighbor.f k a0_0 a0_1 a1 a2).bind fun t105 => (some t105)) else (some (-1))))) else (some (-1)))
def spec_Step.T1 : Bool × List (List Nat × List Nat) := (true, [([], []), ([0], [0]), ([1], [1]), ([2, 1], [2]), ([3], [3]), ([3], [3]), ([5, 3], [3, 5]), ([3], [3]), ([3], [3]), ([6, 7, 8, 3, 3], [3, 6, 7, 8]), ([4, 9, 9, 3], [3, 4, 9]), ([10, 3], [3, 10]), ([3, 11], [3, 11])])
def spec_Step.B1 : List Nat := [0, 1, 3, 7, 15, 15, 47, 15, 15, 495, 1023, 2047, 4095]
theorem spec_Step.tab1 : rtab .any (opsOf Try.f68 1) = spec_Step.T1 := by kernel_rfl
theorem spec_Step.bits1 : waitsOk spec_Step.T1.2 spec_Step.B1 = true := by kernel_rfl
set_option maxHeartbeats 8000000 in
set_option maxRecDepth 100000 in
theorem spec_Step.calls (k : Nat) (a0_0 : Int) (a0_1 : Int) (a0_2 : Int) (a1 : Int) (a2 : Int) (r : Int) (w : World) (h : spec_Step.f k a0_0 a0_1 a0_2 a1 a2 = some r) :
  Calls Try.prog 68 #[.agg #[.int .i64 a0_0, .int .i64 a0_1, .int .i64 a0_2], .int .i64 a1, .int .i64 a2] w fun e w' => e = .returned (.int .i64 r) ∧ Below w.heap.size w w' := by
 have hu42 := Try.underlying42
 have hu40 := Try.underlying40
 have HB := A_ (Below.refl w.heap.size w)
 have H : ((spec_MazeOk.f a0_0 a0_1 a0_2).bind fun t102 => (if t102 = true then ((spec_GapAt.f k a0_0 a0_1 a1 a2).bind fun t103 => ((spec_IsPassage.f a0_0 a0_1 a0_2 t103).bind fun t104 => (if t104 = true then ((spec_Neighbor.f k a0_0 a0_1 a1 a2).bind fun t105 => (some t105)) else (some (-1))))) else (some (-1)))) = some r := h
 clear h
 obtain ⟨t102, A40, H⟩ := oB_ H
 (try dsimp only at H); have A4 := A_ A40; clear A40
 by_cases c5 : t102 = true
 ·subst c5
  rw [if_pos rfl] at H
  obtain ⟨t103, A60, H⟩ := oB_ H
  (try dsimp only at H); have A6 := A_ A60; clear A60
  obtain ⟨t104, A70, H⟩ := oB_ H
  (try dsimp only at H); have A7 := A_ A70; clear A70
  by_cases c8 : t104 = true
  ·subst c8
   rw [if_pos rfl] at H
   obtain ⟨t105, A90, H⟩ := oB_ H
   (try dsimp only at H); have A9 := A_ A90; clear A90
   obtain rfl := Option.some.inj H
   go_enter Try.func68, Try.ntmps68
   try go_wp2_with (((with_reducible refine gate_dst (N := 3) rfl ?_); refine be_ 3 #[.int .i64 a0_0, .int .i64 a0_1, .int .i64 a0_2] 42 ?_; intro gb101 hg w10 hbox hb; have n0_ := A_ (bs_ HB.1 hb); have n1_ := A_ (hbox); have n2_ := A_ (bS_ HB.out hg); have n3_ := A_ (bS_ HB.out hg); clear HB; have HB := n0_; have BK101 := n1_; have GW101 := n2_; have GE101 := n3_; clear n0_ n1_ n2_ n3_ hb hbox hg)); have n0_ := A_ (blk_drew BK101.out); have n1_ := A_ (below_drew1 HB.out); clear BK101 HB; have BK101 := n0_; have HB := n1_; clear n0_ n1_
   refine start_ (n := 13) (S := fun w' => w'.cell? ⟨gb101, 0, none⟩ = some (.int .i64 a0_0) ∧ w'.cell? ⟨gb101, 1, none⟩ = some (.int .i64 a0_1) ∧ w'.cell? ⟨gb101, 2, none⟩ = some (.int .i64 a0_2)) (ds := []) #[false, false, false, false, false, false, false, false, false, false, false, false, false] (by kernel_rfl) rfl rfl ⟨(blk_cell BK101.out 0).trans rfl, (blk_cell BK101.out 1).trans rfl, (blk_cell BK101.out 2).trans rfl⟩ (fun hHeld => ?_); refine with_tabW spec_Step.tab1 spec_Step.bits1 (fun HT_ HW_ => ?_)
   generalize w10.drew = w11 at BK101 HB hHeld ⊢; refine tv_ 0 7 rfl HT_ HW_ hHeld (by rintro w' ⟨s0, s1, s2⟩; go_simp; with_reducible rfl) ?_
   refine on_ 1 (some 8) rfl rfl HT_ (by kernel_rfl) (by decide) (fun K hK => ?_)
   refine gs_ Try.func66 #[.agg #[.int .i64 a0_0, .int .i64 a0_1, .int .i64 a0_2]] ?_
   with_reducible refine (spec_MazeOk.calls a0_0 a0_1 a0_2 true _ A4.out).mono ?_
   rintro e w12 ⟨rfl, hb⟩
   refine ⟨_, rfl, ?_⟩
   have n0_ := A_ (blk_below BK101.out hb)
   have n1_ := A_ (bs_ HB.1 hb)
   clear BK101 HB; have BK101 := n0_; have HB := n1_; clear n0_ n1_; (try clear hb); (try clear hk)
   refine hK.out _ _ ⟨(blk_cell BK101.out 0).trans rfl, (blk_cell BK101.out 1).trans rfl, (blk_cell BK101.out 2).trans rfl⟩ (fun hHeld => ?_)
   clear hK K
   refine norm_ (a' := ?_) ?_ ?_; rotate_left; (show Act.put _ (some 8) _ = _; simp only [P6_]; rfl)
   refine pv_ 2 9 HT_ ?_; refine pv_ 3 10 HT_ ?_; refine pv_ 5 12 HT_ ?_; refine pv_ 7 14 HT_ ?_; refine pv_ 8 15 HT_ ?_; refine tv_ 4 11 rfl HT_ HW_ hHeld (by rintro w' ⟨s0, s1, s2⟩; go_simp; with_reducible rfl) ?_
   refine tv_ 6 13 rfl HT_ HW_ hHeld (by rintro w' ⟨s0, s1, s2⟩; go_simp; with_reducible rfl) ?_
   refine on_ 9 (some 16) rfl rfl HT_ (by kernel_rfl) (by decide) (fun K hK => ?_)
   refine gs_ Try.func100 #[.agg #[.int .i64 a0_0, .int .i64 a0_1], .int .i64 a1, .int .i64 a2] ?_
   with_reducible refine (spec_GapAt.calls k a0_0 a0_1 a1 a2 t103 _ A6.out).mono ?_
   rintro e w13 ⟨rfl, hb⟩
   refine ⟨_, rfl, ?_⟩
   have n0_ := A_ (blk_below BK101.out hb)
   have n1_ := A_ (bs_ HB.1 hb)
   clear BK101 HB; have BK101 := n0_; have HB := n1_; clear n0_ n1_; (try clear hb); (try clear hk)
   refine hK.out _ _ ⟨(blk_cell BK101.out 0).trans rfl, (blk_cell BK101.out 1).trans rfl, (blk_cell BK101.out 2).trans rfl⟩ (fun hHeld => ?_)
   clear hK K
   refine norm_ (a' := ?_) ?_ ?_; rotate_left; (show Act.put _ (some 16) _ = _; simp only [P6_]; rfl)
   refine on_ 10 (some 17) rfl rfl HT_ (by kernel_rfl) (by decide) (fun K hK => ?_)
   refine gs_ Try.func94 #[.agg #[.int .i64 a0_0, .int .i64 a0_1, .int .i64 a0_2], .int .i64 t103] ?_
   with_reducible refine (spec_IsPassage.calls a0_0 a0_1 a0_2 t103 true _ A7.out).mono ?_
   rintro e w14 ⟨rfl, hb⟩
   refine ⟨_, rfl, ?_⟩
   have n0_ := A_ (blk_below BK101.out hb)
   have n1_ := A_ (bs_ HB.1 hb)
   clear BK101 HB; have BK101 := n0_; have HB := n1_; clear n0_ n1_; (try clear hb); (try clear hk)
   refine hK.out _ _ ⟨(blk_cell BK101.out 0).trans rfl, (blk_cell BK101.out 1).trans rfl, (blk_cell BK101.out 2).trans rfl⟩ (fun hHeld => ?_)
   clear hK K
   refine norm_ (a' := ?_) ?_ ?_; rotate_left; (show Act.put _ (some 17) _ = _; simp only [P6_]; rfl)
   refine pv_ 11 18 HT_ ?_; refine pv_ 12 19 HT_ ?_
   refine done_ (done_of HT_.out (by kernel_rfl)) ?_
   obtain ⟨hcz15_0, hcz15_1, hcz15_2⟩ := kk3_ BK101.1
   have hfz15_0 := bf_ BK101.out 0
   have hfz15_1 := bf_ BK101.out 1
   have hfz15_2 := bf_ BK101.out 2
   try go_wp2_with (((with_reducible refine gate_callee (f := 101) rfl ?_); refine gl_ 24 Try.func101 #[.agg #[.int .i64 a0_0, .int .i64 a0_1], .int .i64 a1, .int .i64 a2] ?_; (with_reducible refine (spec_Neighbor.calls k a0_0 a0_1 a1 a2 t105 _ A9.out).mono ?_); rintro e w16 ⟨rfl, hb⟩; refine ⟨_, rfl, ?_⟩; have n0_ := A_ (blk_below BK101.out hb); have n1_ := A_ (bs_ HB.1 hb); clear BK101 HB; have BK101 := n0_; have HB := n1_; clear n0_ n1_; (try clear hb); (try clear hk)))
   go_ret
   exact ⟨by rfl, by repeat ((with_reducible exact HB.out))⟩
  ·replace c8 := Bool.eq_false_iff.mpr c8
   subst c8
   have H1 : (some (-1)) = some r := by rw [if_neg (show ¬ (false = true) by decide)] at H; exact H
   clear H
   have H := H1
   clear H1
   obtain rfl := Option.some.inj H
   go_enter Try.func68, Try.ntmps68
   try go_wp2_with (((with_reducible refine gate_dst (N := 3) rfl ?_); refine be_ 3 #[.int .i64 a0_0, .int .i64 a0_1, .int .i64 a0_2] 42 ?_; intro gb101 hg w17 hbox hb; have n0_ := A_ (bs_ HB.1 hb); have n1_ := A_ (hbox); have n2_ := A_ (bS_ HB.out hg); have n3_ := A_ (bS_ HB.out hg); clear HB; have HB := n0_; have BK101 := n1_; have GW101 := n2_; have GE101 := n3_; clear n0_ n1_ n2_ n3_ hb hbox hg)); have n0_ := A_ (blk_drew BK101.out); have n1_ := A_ (below_drew1 HB.out); clear BK101 HB; have BK101 := n0_; have HB := n1_; clear n0_ n1_
   refine start_ (n := 13) (S := fun w' => w'.cell? ⟨gb101, 0, none⟩ = some (.int .i64 a0_0) ∧ w'.cell? ⟨gb101, 1, none⟩ = some (.int .i64 a0_1) ∧ w'.cell? ⟨gb101, 2, none⟩ = some (.int .i64 a0_2)) (ds := []) #[false, false, false, false, false, false, false, false, false, false, false, false, false] (by kernel_rfl) rfl rfl ⟨(blk_cell BK101.out 0).trans rfl, (blk_cell BK101.out 1).trans rfl, (blk_cell BK101.out 2).trans rfl⟩ (fun hHeld => ?_); refine with_tabW spec_Step.tab1 spec_Step.bits1 (fun HT_ HW_ => ?_)
   generalize w17.drew = w18 at BK101 HB hHeld ⊢; refine tv_ 0 7 rfl HT_ HW_ hHeld (by rintro w' ⟨s0, s1, s2⟩; go_simp; with_reducible rfl) ?_
   refine on_ 1 (some 8) rfl rfl HT_ (by kernel_rfl) (by decide) (fun K hK => ?_)
   refine gs_ Try.func66 #[.agg #[.int .i64 a0_0, .int .i64 a0_1, .int .i64 a0_2]] ?_
   with_reducible refine (spec_MazeOk.calls a0_0 a0_1 a0_2 true _ A4.out).mono ?_
   rintro e w19 ⟨rfl, hb⟩
   refine ⟨_, rfl, ?_⟩
   have n0_ := A_ (blk_below BK101.out hb)
   have n1_ := A_ (bs_ HB.1 hb)
   clear BK101 HB; have BK101 := n0_; have HB := n1_; clear n0_ n1_; (try clear hb); (try clear hk)
   refine hK.out _ _ ⟨(blk_cell BK101.out 0).trans rfl, (blk_cell BK101.out 1).trans rfl, (blk_cell BK101.out 2).trans rfl⟩ (fun hHeld => ?_)
   clear hK K
   refine norm_ (a' := ?_) ?_ ?_; rotate_left; (show Act.put _ (some 8) _ = _; simp only [P6_]; rfl)
   refine pv_ 2 9 HT_ ?_; refine pv_ 3 10 HT_ ?_; refine pv_ 5 12 HT_ ?_; refine pv_ 7 14 HT_ ?_; refine pv_ 8 15 HT_ ?_; refine tv_ 4 11 rfl HT_ HW_ hHeld (by rintro w' ⟨s0, s1, s2⟩; go_simp; with_reducible rfl) ?_
   refine tv_ 6 13 rfl HT_ HW_ hHeld (by rintro w' ⟨s0, s1, s2⟩; go_simp; with_reducible rfl) ?_
   refine on_ 9 (some 16) rfl rfl HT_ (by kernel_rfl) (by decide) (fun K hK => ?_)
   refine gs_ Try.func100 #[.agg #[.int .i64 a0_0, .int .i64 a0_1], .int .i64 a1, .int .i64 a2] ?_
   with_reducible refine (spec_GapAt.calls k a0_0 a0_1 a1 a2 t103 _ A6.out).mono ?_
   rintro e w20 ⟨rfl, hb⟩
   refine ⟨_, rfl, ?_⟩
   have n0_ := A_ (blk_below BK101.out hb)
   have n1_ := A_ (bs_ HB.1 hb)
   clear BK101 HB; have BK101 := n0_; have HB := n1_; clear n0_ n1_; (try clear hb); (try clear hk)
   refine hK.out _ _ ⟨(blk_cell BK101.out 0).trans rfl, (blk_cell BK101.out 1).trans rfl, (blk_cell BK101.out 2).trans rfl⟩ (fun hHeld => ?_)
   clear hK K
   refine norm_ (a' := ?_) ?_ ?_; rotate_left; (show Act.put _ (some 16) _ = _; simp only [P6_]; rfl)
   refine on_ 10 (some 17) rfl rfl HT_ (by kernel_rfl) (by decide) (fun K hK => ?_)
   refine gs_ Try.func94 #[.agg #[.int .i64 a0_0, .int .i64 a0_1, .int .i64 a0_2], .int .i64 t103] ?_
   with_reducible refine (spec_IsPassage.calls a0_0 a0_1 a0_2 t103 false _ A7.out).mono ?_
   rintro e w21 ⟨rfl, hb⟩
   refine ⟨_, rfl, ?_⟩
   have n0_ := A_ (blk_below BK101.out hb)
   have n1_ := A_ (bs_ HB.1 hb)
   clear BK101 HB; have BK101 := n0_; have HB := n1_; clear n0_ n1_; (try clear hb); (try clear hk)
   refine hK.out _ _ ⟨(blk_cell BK101.out 0).trans rfl, (blk_cell BK101.out 1).trans rfl, (blk_cell BK101.out 2).trans rfl⟩ (fun hHeld => ?_)
   clear hK K
   refine norm_ (a' := ?_) ?_ ?_; rotate_left; (show Act.put _ (some 17) _ = _; simp only [P6_]; rfl)
   refine pv_ 11 18 HT_ ?_; refine pv_ 12 19 HT_ ?_
   refine done_ (done_of HT_.out (by kernel_rfl)) ?_
   try go_wp2
   go_ret
   exact ⟨by rfl, by repeat ((with_reducible exact HB.out))⟩
 ·replace c5 := Bool.eq_false_iff.mpr c5
  subst c5
  have H1 : (some (-1)) = some r := by rw [if_neg (show ¬ (false = true) by decide)] at H; exact H
  clear H
  have H := H1
  clear H1
  obtain rfl := Option.some.inj H
  go_enter Try.func68, Try.ntmps68
  try go_wp2_with (((with_reducible refine gate_dst (N := 3) rfl ?_); refine be_ 3 #[.int .i64 a0_0, .int .i64 a0_1, .int .i64 a0_2] 42 ?_; intro gb101 hg w22 hbox hb; have n0_ := A_ (bs_ HB.1 hb); have n1_ := A_ (hbox); have n2_ := A_ (bS_ HB.out hg); have n3_ := A_ (bS_ HB.out hg); clear HB; have HB := n0_; have BK101 := n1_; have GW101 := n2_; have GE101 := n3_; clear n0_ n1_ n2_ n3_ hb hbox hg)); have n0_ := A_ (blk_drew BK101.out); have n1_ := A_ (below_drew1 HB.out); clear BK101 HB; have BK101 := n0_; have HB := n1_; clear n0_ n1_
  refine start_ (n := 13) (S := fun w' => w'.cell? ⟨gb101, 0, none⟩ = some (.int .i64 a0_0) ∧ w'.cell? ⟨gb101, 1, none⟩ = some (.int .i64 a0_1) ∧ w'.cell? ⟨gb101, 2, none⟩ = some (.int .i64 a0_2)) (ds := []) #[false, false, false, false, false, false, false, false, false, false, false, false, false] (by kernel_rfl) rfl rfl ⟨(blk_cell BK101.out 0).trans rfl, (blk_cell BK101.out 1).trans rfl, (blk_cell BK101.out 2).trans rfl⟩ (fun hHeld => ?_); refine with_tabW spec_Step.tab1 spec_Step.bits1 (fun HT_ HW_ => ?_)
  generalize w22.drew = w23 at BK101 HB hHeld ⊢; refine tv_ 0 7 rfl HT_ HW_ hHeld (by rintro w' ⟨s0, s1, s2⟩; go_simp; with_reducible rfl) ?_
  refine on_ 1 (some 8) rfl rfl HT_ (by kernel_rfl) (by decide) (fun K hK => ?_)
  refine gs_ Try.func66 #[.agg #[.int .i64 a0_0, .int .i64 a0_1, .int .i64 a0_2]] ?_
  with_reducible refine (spec_MazeOk.calls a0_0 a0_1 a0_2 false _ A4.out).mono ?_
  rintro e w24 ⟨rfl, hb⟩
  refine ⟨_, rfl, ?_⟩
  have n0_ := A_ (blk_below BK101.out hb)
  have n1_ := A_ (bs_ HB.1 hb)
  clear BK101 HB; have BK101 := n0_; have HB := n1_; clear n0_ n1_; (try clear hb); (try clear hk)
  refine hK.out _ _ ⟨(blk_cell BK101.out 0).trans rfl, (blk_cell BK101.out 1).trans rfl, (blk_cell BK101.out 2).trans rfl⟩ (fun hHeld => ?_)
  clear hK K
  refine norm_ (a' := ?_) ?_ ?_; rotate_left; (show Act.put _ (some 8) _ = _; simp only [P6_]; rfl)
  refine pv_ 2 9 HT_ ?_; refine pv_ 3 10 HT_ ?_; refine pw_ 4 11 HT_ ?_; refine pw_ 5 12 HT_ ?_; refine pw_ 6 13 HT_ ?_; refine pw_ 7 14 HT_ ?_; refine pw_ 8 15 HT_ ?_; refine pw_ 9 16 HT_ ?_; refine pw_ 10 17 HT_ ?_; refine pw_ 11 18 HT_ ?_; refine pv_ 12 19 HT_ ?_
  refine done_ (done_of HT_.out (by kernel_rfl)) ?_
  try go_wp2
  go_ret
  exact ⟨by rfl, by repeat ((with_reducible exact HB.out))⟩

end Go.Proofs.Ytoohcdfokejkdaa.P
namespace Go.Proofs.Ytoohcdfokejkdaa.P
open Go.RowKit Go.Proofs.YtoohcdfokejkdaaW.PrintWords Go.Proofs.YtoohcdfokejkdaaW.PrintLast Go.Proofs.YtoohcdfokejkdaaW.PrintMore
attribute [local go_sem] max2_int min2_int max_two min_two max_three min_three max_four min_four   -- for this text's walks alone
set_option linter.unusedVariables false
set_option linter.unusedSimpArgs false

mutual
def spec_l04Distances.l0 : Nat → Int → List Int → Int → Int → Int → Int → Option (List Int)
 | 0, _, _, _, _, _, _ => none
 | k + 1, x1, x5, x6, x102000, x102001, x102002 => if x6 < (x5.length : Int) then (if 0 ≤ x6 then (spec_l04Distances.l0 k x1 (x5.set (x6 : Int).toNat (-1)) (wrap64 (x6 + 1)) x102000 x102001 x102002) else (none)) else (if 0 ≤ x1 then (if x1 < (x5.length : Int) then (spec_l04Distances.l1 k (x5.set (x1 : Int).toNat 0) (([x1] : List Int)) 0 x102000 x102001 x102002) else (none)) else (none))
def spec_l04Distances.l1 : Nat → List Int → List Int → Int → Int → Int → Int → Option (List Int)
 | 0, _, _, _, _, _, _ => none
 | k + 1, x5, x7, x8, x102000, x102001, x102002 => if x8 < (x7.length : Int) then (spec_l04Distances.l2 k x5 x7 x8 0 x102000 x102001 x102002) else (some x5)
def spec_l04Distances.l2 : Nat → List Int → List Int → Int → Int → Int → Int → Int → Option (List Int)
 | 0, _, _, _, _, _, _, _ => none
 | k + 1, x5, x7, x8, x9, x102000, x102001, x102002 => if x9 ≤ 3 then (if 0 ≤ x8 then (if x8 < (x7.length : Int) then ((spec_Step.f k x102000 x102001 x102002 (rd x7 x8) x9).bind fun t112 => (if t112 ≥ 0 then (if 0 ≤ t112 then (if t112 < (x5.length : Int) then (if (rd x5 t112) < 0 then (if 0 ≤ (rd x7 x8) then (if (rd x7 x8) < (x5.length : Int) then (if x7.length < 17592186044416 then (spec_l04Distances.l2 k (x5.set (t112 : Int).toNat (wrap64 ((rd x5 (rd x7 x8)) + 1))) (x7 ++ [t112]) x8 (wrap64 (x9 + 1)) x102000 x102001 x102002) else (none)) else (none)) else (none)) else (spec_l04Distances.l2 k x5 x7 x8 (wrap64 (x9 + 1)) x102000 x102001 x102002)) else (none)) else (none)) else (spec_l04Distances.l2 k x5 x7 x8 (wrap64 (x9 + 1)) x102000 x102001 x102002))) else (none)) else (none)) else (spec_l04Distances.l1 k x5 x7 (wrap64 (x8 + 1)) x102000 x102001 x102002)
end
def spec_l04Distances.f (k : Nat) (a0_0 : Int) (a0_1 : Int) (a0_2 : Int) (a1 : Int) : Option (List Int) := (spec_CountCells.f a0_0 a0_1).bind fun t102 => (if 0 ≤ t102 then (if (t102 : Int).toNat ≤ 35184372088832 then (spec_l04Distances.l0 k a1 (List.replicate (t102 : Int).toNat 0) 0 a0_0 a0_1 a0_2) else (none)) else (none))
def spec_l04Distances.T14 : Bool × List (List Nat × List Nat) := (true, [([], []), ([], []), ([], []), ([1, 2], [1, 2]), ([3], [3]), ([], []), ([0, 4, 5], [0, 4, 5]), ([6, 6, 0, 1, 2, 3, 4, 5, 6], [6])])
def spec_l04Distances.B14 : List Nat := [0, 0, 0, 6, 14, 0, 63, 127]
theorem spec_l04Distances.tab14 : rtab .any (opsOf Try.f132 14) = spec_l04Distances.T14 := by kernel_rfl
theorem spec_l04Distances.bits14 : waitsOk spec_l04Distances.T14.2 spec_l04Distances.B14 = true := by kernel_rfl
set_option maxHeartbeats 8000000 in
set_option maxRecDepth 100000 in
theorem spec_l04Distances.calls (k : Nat) (a0_0 : Int) (a0_1 : Int) (a0_2 : Int) (a1 : Int) (r : List Int) (w : World) (h : spec_l04Distances.f k a0_0 a0_1 a0_2 a1 = some r) :
  Calls Try.prog 132 #[.agg #[.int .i64 a0_0, .int .i64 a0_1, .int .i64 a0_2], .int .i64 a1] w fun e w' => ∃ v0_ : Value, e = .returned (v0_) ∧ Kd.R (Kd.int .i64) 3 w' w.heap.size (fun _ => True) v0_ r ∧ Below w.heap.size w w' := by
 have hu42 := Try.underlying42
 have hu40 := Try.underlying40
 have HB := A_ (Below.refl w.heap.size w)
 have H : ((spec_CountCells.f a0_0 a0_1).bind fun t102 => (if 0 ≤ t102 then (if (t102 : Int).toNat ≤ 35184372088832 then (spec_l04Distances.l0 k a1 (List.replicate (t102 : Int).toNat 0) 0 a0_0 a0_1 a0_2) else (none)) else (none))) = some r := h
 clear h
 obtain ⟨t102, A30, H⟩ := oB_ H
 (try dsimp only at H); have A3 := A_ A30; clear A30
 replace H := iN_ H; obtain ⟨c4, H⟩ := H
 have c4b0 := eq_true c4
 have c4b1 : decide (0 ≤ t102) = true := decide_eq_true c4
 clear c4
 replace H := iN_ H; obtain ⟨c5, H⟩ := H
 have c5b0 := eq_true c5
 have c5b1 : decide ((t102 : Int).toNat ≤ 35184372088832) = true := decide_eq_true c5
 clear c5
 obtain ⟨y103, hy103⟩ : ∃ y_ : List Int, y_ = (List.replicate (t102 : Int).toNat 0) := ⟨_, rfl⟩
 replace H : (spec_l04Distances.l0 k a1 y103 0 a0_0 a0_1 a0_2) = some r := by (rw [hy103]; with_reducible exact H)
 have Ny103 := A_ hy103
 clear hy103
 have H' := A_ H
 clear H
 go_enter Try.func132, Try.ntmps132
 go_wp2_with (first | ((with_reducible refine gate_dst (N := 2) rfl ?_); refine be_ 2 #[.int .i64 a0_0, .int .i64 a0_1, .int .i64 a0_2] 42 ?_; intro gb101 hg w6 hbox hb; have n0_ := A_ (bs_ HB.1 hb); have n1_ := A_ (hbox); have n2_ := A_ (bS_ HB.out hg); have n3_ := A_ (bS_ HB.out hg); clear HB; have HB := n0_; have BK101 := n1_; have GW101 := n2_; have GE101 := n3_; clear n0_ n1_ n2_ n3_ hb hbox hg; obtain ⟨hcz7_0, hcz7_1, hcz7_2⟩ := kk3_ BK101.1; have hfz7_0 := bf_ BK101.out 0; have hfz7_1 := bf_ BK101.out 1; have hfz7_2 := bf_ BK101.out 2) | ((with_reducible refine gate_callee (f := 36) rfl ?_); refine gl_ 13 Try.func36 #[.agg #[.int .i64 a0_0, .int .i64 a0_1]] ?_; (with_reducible refine (spec_CountCells.calls a0_0 a0_1 t102 _ A3.out).mono ?_); rintro e w8 ⟨rfl, hb⟩; refine ⟨_, rfl, ?_⟩; have n0_ := A_ (blk_below BK101.out hb); have n1_ := A_ (bs_ HB.1 hb); clear BK101 HB; have BK101 := n0_; have HB := n1_; clear n0_ n1_; (try clear hb); (try clear hk)) | ((with_reducible refine gate_dst (N := 14) rfl ?_); refine Kd.R_make (Kd.int .i64) _ 3 rfl (N := 14) rfl 29 _ _ rfl t102 rfl rfl Try.underlying29 (.int .i64 0) 8 info3 rfl (by decide) (by omega) 0 (ok := fun _ => True) (okp := fun _ => True) rfl (fun _ hk => hk) trivial (oD_) (Nat.le_trans (Nat.mul_le_mul_right _ (oD_ : t102.toNat ≤ 35184372088832)) (by omega)) (Below.refl _ _) (Nat.le_refl _) ?_; intro v104 w9 ho10 hb hg_ hnew_; clear hg_ hnew_; (rw [← Ny103.out] at ho10); have n0_ := A_ (Kd.R_lower ho10 (below_size HB.out)); have n1_ := A_ (blk_below BK101.out hb); have n2_ := A_ (bs_ HB.1 hb); clear BK101 HB; have HO105 := n0_; have BK101 := n1_; have HB := n2_; clear n0_ n1_ n2_ hb ho10))
 go_loopg [6] k (fun kq v6 w' => ∃ (x5_1 : List Int) (x6_1 : Int), v6 = .int .i64 x6_1 ∧ Aside0 (spec_l04Distances.l0 kq a1 x5_1 x6_1 a0_0 a0_1 a0_2 = some r) ∧ Aside0 (kq ≤ k) ∧ Aside0 (Kd.R (Kd.int .i64) 3 w' w.heap.size (fun _ => True) v104 x5_1) ∧ Aside0 (w'.heap[gb101]? = some (.cells #[.int .i64 a0_0, .int .i64 a0_1, .int .i64 a0_2] 42 (0, 0))) ∧ Aside0 (Below w.heap.size w w'))
 case atStart => exact ⟨(y103), (0), (by rfl), H', ⟨Nat.le_refl _⟩, ⟨by exact HO105.out⟩, ⟨by exact BK101.out⟩, ⟨by repeat ((with_reducible exact HB.out))⟩⟩
 case round =>
  clear H'; try clear c1; try clear p2; try clear c3; try clear c4; try clear c4b0; try clear c4b1; try clear c5; try clear c5b0; try clear c5b1; try clear hcz7_0; try clear hcz7_1; try clear hcz7_2; try clear hfz7_0; try clear hfz7_1; try clear hfz7_2
  obtain ⟨x5_1, x6_1, rfl, HA, HK1, HO_5, BK101, HB⟩ := hrel
  cases gk with
  | zero => exact absurd HA.out (by simp [spec_l04Distances.l0])
  | succ k1 =>
   have H := HA.out
   clear HA
   simp only [spec_l04Distances.l0] at H
   by_cases c11 : x6_1 < (x5_1.length : Int)
   ·rw [if_pos c11] at H
    have c11b0 : decide (x6_1 < (x5_1.length : Int)) = true := decide_eq_true c11
    clear c11
    replace H := iN_ H; obtain ⟨c12, H⟩ := H
    have c12b0 : decide (0 ≤ x6_1) = true := decide_eq_true c12
    clear c12
    obtain ⟨y106, hy106⟩ : ∃ y_ : List Int, y_ = (x5_1.set (x6_1 : Int).toNat (-1)) := ⟨_, rfl⟩
    replace H : (spec_l04Distances.l0 k1 a1 y106 (wrap64 (x6_1 + 1)) a0_0 a0_1 a0_2) = some r := by (rw [hy106]; with_reducible exact H)
    have Ny106 := A_ hy106
    clear hy106
    have H' := A_ H
    clear H
    obtain ⟨Ao14, co14, eo14⟩ := Kd.R_slice HO_5.out
    subst eo14
    have p13 : 0 ≤ (x6_1 : Int) := oD_
    have q13 : (x6_1 : Int) < ((x5_1.length : Int) : Int) := oD_
    obtain ⟨go13, co13, eo13, gb13, gl13, cl13, HG13⟩ := Kd.R_form HO_5.out (by omega)
    (cases eo13)
    have GB13 := A_ gb13
    have GG13 := A_ HG13
    clear gb13 gl13 HG13
    obtain ⟨hx13_0, hf13_0⟩ := Kd.R_celln 0 HO_5.out (x6_1 : Int) p13 q13
    replace p13 := eq_true p13; replace q13 := eq_true q13
    have HP15 := Kd.R_putg HO_5.out (x6_1 : Int) (-1)
    go_wp2_with (((with_reducible refine gate_store (t := 3) (p := 23) rfl ?_); refine store_event (t := 3) (p := 23) (v := ?vo_w16) (w1 := (wr.setCell ⟨go13, (x6_1 : Int).toNat, none⟩ (.int .i64 (-1)))) ?hg ?ho ?hn ?hr ?_; (case ho => rfl); (case hg => rfl); (case hn => rfl); (case hr => (go_simp; done)); intro w16 hw; have hg : wr.grownBy w16 (some go13) := (by rw [hw]; exact HP15.2); have hp_ : Kd.R (Kd.int .i64) 3 w16 w.heap.size (fun _ => True) (.slice (some ⟨go13, 0, none⟩) x5_1.length co14) y106 := (by rw [hw, Ny106.out]; exact HP15.1); clear HP15; have n0_ := A_ (hp_); have n1_ := A_ (blk_grown (g := gb101) (o := .cells #[.int .i64 a0_0, .int .i64 a0_1, .int .i64 a0_2] 42 (0, 0)) BK101.out hg (Kd.R_ne HO_5.out BK101.out (by decide))); have n2_ := A_ ((by rw [hw]; exact below_set (HB.out) GB13.out : Below w.heap.size w w16)); clear HO_5 BK101 HB; have HO_5 := n0_; have BK101 := n1_; have HB := n2_; clear n0_ n1_ n2_ hg hw hp_))
    go_roundg k1
    case measure => have := HK1.out; omega
    case rel => exact ⟨(y106), (wrap64 (x6_1 + 1)), (by rfl), H', ⟨by have := HK1.out; omega⟩, ⟨by exact HO_5.out⟩, ⟨by exact BK101.out⟩, ⟨by repeat ((with_reducible exact HB.out))⟩⟩
   ·rw [if_neg c11] at H
    have c11b0 : decide (x6_1 < (x5_1.length : Int)) = false := decide_eq_false c11
    clear c11
    replace H := iN_ H; obtain ⟨c17, H⟩ := H
    have c17b0 : decide (0 ≤ a1) = true := decide_eq_true c17
    clear c17
    replace H := iN_ H; obtain ⟨c18, H⟩ := H
    have c18b0 : decide (a1 < (x5_1.length : Int)) = true := decide_eq_true c18
    clear c18
    obtain ⟨y107, hy107⟩ : ∃ y_ : List Int, y_ = (x5_1.set (a1 : Int).toNat 0) := ⟨_, rfl⟩
    replace H : (spec_l04Distances.l1 k1 y107 (([a1] : List Int)) 0 a0_0 a0_1 a0_2) = some r := by (rw [hy107]; with_reducible exact H)
    have Ny107 := A_ hy107
    clear hy107
    obtain ⟨y108, hy108⟩ : ∃ y_ : List Int, y_ = (([a1] : List Int)) := ⟨_, rfl⟩
    replace H : (spec_l04Distances.l1 k1 y107 y108 0 a0_0 a0_1 a0_2) = some r := by (rw [hy108]; with_reducible exact H)
    have Ny108 := A_ hy108
    clear hy108
    have H' := A_ H
    clear H
    obtain ⟨Ao20, co20, eo20⟩ := Kd.R_slice HO_5.out
    subst eo20
    have p19 : 0 ≤ (a1 : Int) := oD_
    have q19 : (a1 : Int) < ((x5_1.length : Int) : Int) := oD_
    obtain ⟨go19, co19, eo19, gb19, gl19, cl19, HG19⟩ := Kd.R_form HO_5.out (by omega)
    (cases eo19)
    have GB19 := A_ gb19
    have GG19 := A_ HG19
    clear gb19 gl19 HG19
    obtain ⟨hx19_0, hf19_0⟩ := Kd.R_celln 0 HO_5.out (a1 : Int) p19 q19
    replace p19 := eq_true p19; replace q19 := eq_true q19
    have HP21 := Kd.R_putg HO_5.out (a1 : Int) 0
    go_wp2_with (first | ((with_reducible refine gate_store (t := 3) (p := 26) rfl ?_); refine store_event (t := 3) (p := 26) (v := ?vo_w22) (w1 := (wr.setCell ⟨go19, (a1 : Int).toNat, none⟩ (.int .i64 0))) ?hg ?ho ?hn ?hr ?_; (case ho => rfl); (case hg => rfl); (case hn => rfl); (case hr => (go_simp; done)); intro w22 hw; have hg : wr.grownBy w22 (some go19) := (by rw [hw]; exact HP21.2); have hp_ : Kd.R (Kd.int .i64) 3 w22 w.heap.size (fun _ => True) (.slice (some ⟨go19, 0, none⟩) x5_1.length co20) y107 := (by rw [hw, Ny107.out]; exact HP21.1); clear HP21; have n0_ := A_ (hp_); have n1_ := A_ (blk_grown (g := gb101) (o := .cells #[.int .i64 a0_0, .int .i64 a0_1, .int .i64 a0_2] 42 (0, 0)) BK101.out hg (Kd.R_ne HO_5.out BK101.out (by decide))); have n2_ := A_ ((by rw [hw]; exact below_set (HB.out) GB19.out : Below w.heap.size w w22)); clear HO_5 BK101 HB; have HO_5 := n0_; have BK101 := n1_; have HB := n2_; clear n0_ n1_ n2_ hg hw hp_) | ((with_reducible refine gate_dst (N := 28) rfl ?_); refine Kd.R_lit (Kd.int .i64) _ 3 ?hg (N := 28) ?hd (xs := ([a1] : List Int)) (inner := [.int .i64 a1]) (ok := fun _ => True) (okp := fun _ => True) ?hr ?hp (fun _ hk => hk) trivial (Below.refl _ _) (Nat.le_refl _) (by simp) ?_; (case hd => rfl); (case hg => rfl); (case hr => (go_simp; done)); (case hp => exact (Reps.one (show Kd.M (Kd.int .i64) _ _ _ a1 [.int .i64 a1] from rfl) (Reps.none _ _))); intro v109 w23 ho24 hb hg_ hnew_; clear hg_ hnew_; (rw [← Ny108.out] at ho24); have n0_ := A_ (Kd.R_elder' HO_5.out (Kd.R_base ho24) hb); have n1_ := A_ (Kd.R_lower (Kd.R_new' ho24 (Kd.R_lt HO_5.out)) (below_size HB.out)); have n2_ := A_ (blk_below BK101.out hb); have n3_ := A_ (bs_ HB.1 hb); clear HO_5 BK101 HB; have HO_5 := n0_; have HO110 := n1_; have BK101 := n2_; have HB := n3_; clear n0_ n1_ n2_ n3_ hb ho24))
    go_loopg [7, 8] k1 (fun kq v7 v8 w' => ∃ (x5_2 : List Int) (x7_2 : List Int) (x8_2 : Int), v8 = .int .i64 x8_2 ∧ Aside0 (spec_l04Distances.l1 kq x5_2 x7_2 x8_2 a0_0 a0_1 a0_2 = some r) ∧ Aside0 (kq ≤ k1) ∧ Aside0 (Kd.R (Kd.int .i64) 3 w' w.heap.size (fun k_ => some k_ ≠ (v7 : Value).ownBlock) (.slice (some ⟨go19, 0, none⟩) x5_1.length co20) x5_2) ∧ Aside0 (Kd.R (Kd.int .i64) 3 w' w.heap.size (fun k_ => some k_ ≠ ((.slice (some ⟨go19, 0, none⟩) x5_1.length co20) : Value).ownBlock) v7 x7_2) ∧ Aside0 (w'.heap[gb101]? = some (.cells #[.int .i64 a0_0, .int .i64 a0_1, .int .i64 a0_2] 42 (0, 0))) ∧ Aside0 (Below w.heap.size w w'))
    case atStart => exact ⟨(y107), (y108), (0), (by rfl), H', ⟨Nat.le_refl _⟩, ⟨by exact Kd.R_mono HO_5.out (fun _ hk => hk.2)⟩, ⟨by exact Kd.R_mono HO110.out (fun _ hk => hk.2)⟩, ⟨by exact BK101.out⟩, ⟨by repeat ((with_reducible exact HB.out))⟩⟩
    case round =>
     clear H'; try clear c1; try clear p1; try clear q1; try clear hx1; try clear p2; try clear c3; try clear c4; try clear c4b0; try clear c4b1; try clear c5; try clear c5b0; try clear c5b1; try clear p6; try clear c11; try clear c11b0; try clear c12; try clear c12b0; try clear c13; try clear p13; try clear q13; try clear hx13; try clear hf13; try clear c17; try clear c17b0; try clear c18; try clear c18b0; try clear p19; try clear q19; try clear hx19; try clear hf19; try clear hcz7_0; try clear hcz7_1; try clear hcz7_2; try clear hfz7_0; try clear hfz7_1; try clear hfz7_2; try clear hx13_0; try clear hx19_0; try clear p13; try clear p19; try clear p2; try clear q13; try clear q19
     obtain ⟨x5_2, x7_2, x8_2, rfl, HA, HK2, HO_5, HO_7, BK101, HB⟩ := hrel
     have hl5_2 := (Kd.R_reads' HO_5.out).1
     rw [hl5_2] at HO_5
     (try simp only [hl5_2])
     (try simp only [hl5_2] at BK101)
     (try simp only [hl5_2] at HO_7)
     cases gk with
     | zero => exact absurd HA.out (by simp [spec_l04Distances.l1])
     | succ k2 =>
      have H := HA.out
      clear HA
      simp only [spec_l04Distances.l1] at H
      by_cases c25 : x8_2 < (x7_2.length : Int)
      ·rw [if_pos c25] at H
       have c25b0 : decide (x8_2 < (x7_2.length : Int)) = true := decide_eq_true c25
       clear c25
       have H' := A_ H
       clear H
       obtain ⟨Ao26, co26, eo26⟩ := Kd.R_slice HO_7.out
       subst eo26
       go_wp2
       go_loopg [7, 9] k2 (fun kq v7 v9 w' => ∃ (x5_3 : List Int) (x7_3 : List Int) (x9_3 : Int), v9 = .int .i64 x9_3 ∧ Aside0 (spec_l04Distances.l2 kq x5_3 x7_3 x8_2 x9_3 a0_0 a0_1 a0_2 = some r) ∧ Aside0 (kq ≤ k2) ∧ Aside0 (Kd.R (Kd.int .i64) 3 w' w.heap.size (fun k_ => some k_ ≠ (v7 : Value).ownBlock) (.slice (some ⟨go19, 0, none⟩) x5_2.length co20) x5_3) ∧ Aside0 (Kd.R (Kd.int .i64) 3 w' w.heap.size (fun k_ => some k_ ≠ ((.slice (some ⟨go19, 0, none⟩) x5_2.length co20) : Value).ownBlock) v7 x7_3) ∧ Aside0 (w'.heap[gb101]? = some (.cells #[.int .i64 a0_0, .int .i64 a0_1, .int .i64 a0_2] 42 (0, 0))) ∧ Aside0 (Below w.heap.size w w'))
       case atStart => exact ⟨(x5_2), (x7_2), (0), (by rfl), H', ⟨Nat.le_refl _⟩, ⟨by (try simp only [hl5_2]); exact HO_5.out⟩, ⟨by (try simp only [hl5_2]); exact HO_7.out⟩, ⟨by (try simp only [hl5_2]); exact BK101.out⟩, ⟨by repeat ((with_reducible exact HB.out))⟩⟩
       case round =>
        clear H'; try clear c1; try clear p1; try clear q1; try clear hx1; try clear c2; try clear p2; try clear c3; try clear c4; try clear c4b0; try clear c4b1; try clear c5; try clear c5b0; try clear c5b1; try clear p6; try clear c11; try clear c11b0; try clear c12; try clear c12b0; try clear c13; try clear p13; try clear q13; try clear hx13; try clear hf13; try clear c17; try clear c17b0; try clear c18; try clear c18b0; try clear p19; try clear q19; try clear hx19; try clear hf19; try clear c25; try clear c25b0; try clear hcz7_0; try clear hcz7_1; try clear hcz7_2; try clear hfz7_0; try clear hfz7_1; try clear hfz7_2; try clear hx13_0; try clear hx19_0; try clear p1; try clear p13; try clear p19; try clear p2; try clear p6; try clear q1; try clear q13; try clear q19
        obtain ⟨x5_3, x7_3, x9_3, rfl, HA, HK3, HO_5, HO_7, BK101, HB⟩ := hrel
        have hl5_3 := (Kd.R_reads' HO_5.out).1
        rw [hl5_3] at HO_5
        (try simp only [hl5_3])
        (try simp only [hl5_3] at BK101)
        (try simp only [hl5_3] at HO_7)
        cases gk with
        | zero => exact absurd HA.out (by simp [spec_l04Distances.l2])
        | succ k3 =>
         have H := HA.out
         clear HA
         simp only [spec_l04Distances.l2] at H
         by_cases c27 : x9_3 ≤ 3
         ·rw [if_pos c27] at H
          have c27b0 : decide (x9_3 ≤ 3) = true := decide_eq_true c27
          clear c27
          replace H := iN_ H; obtain ⟨c28, H⟩ := H
          have c28b0 : decide (0 ≤ x8_2) = true := decide_eq_true c28
          clear c28
          replace H := iN_ H; obtain ⟨c29, H⟩ := H
          have c29b0 : decide (x8_2 < (x7_3.length : Int)) = true := decide_eq_true c29
          clear c29
          obtain ⟨t112, A300, H⟩ := oB_ H
          (try dsimp only at H); have A30 := A_ A300; clear A300
          by_cases c31 : t112 ≥ 0
          ·rw [if_pos c31] at H
           have c31b0 : decide (0 ≤ t112) = true := decide_eq_true c31
           clear c31
           replace H := iN_ H; obtain ⟨c32, H⟩ := H
           have c32b0 : decide (0 ≤ t112) = true := decide_eq_true c32
           clear c32
           replace H := iN_ H; obtain ⟨c33, H⟩ := H
           have c33b0 : decide (t112 < (x5_3.length : Int)) = true := decide_eq_true c33
           clear c33
           by_cases c34 : (rd x5_3 t112) < 0
           ·rw [if_pos c34] at H
            have c34b0 : decide ((rd x5_3 t112) < 0) = true := decide_eq_true c34
            clear c34
            replace H := iN_ H; obtain ⟨c35, H⟩ := H
            have c35b0 : decide (0 ≤ (rd x7_3 x8_2)) = true := decide_eq_true c35
            clear c35
            replace H := iN_ H; obtain ⟨c36, H⟩ := H
            have c36b0 : decide ((rd x7_3 x8_2) < (x5_3.length : Int)) = true := decide_eq_true c36
            clear c36
            obtain ⟨y116, hy116⟩ : ∃ y_ : List Int, y_ = (x5_3.set (t112 : Int).toNat (wrap64 ((rd x5_3 (rd x7_3 x8_2)) + 1))) := ⟨_, rfl⟩
            replace H : (if x7_3.length < 17592186044416 then (spec_l04Distances.l2 k3 y116 (x7_3 ++ [t112]) x8_2 (wrap64 (x9_3 + 1)) a0_0 a0_1 a0_2) else (none)) = some r := by (rw [hy116]; with_reducible exact H)
            have Ny116 := A_ hy116
            clear hy116
            replace H := iN_ H; obtain ⟨c38, H⟩ := H
            have LMc38 := A_ c38
            clear c38
            obtain ⟨y117, hy117⟩ : ∃ y_ : List Int, y_ = (x7_3 ++ [t112]) := ⟨_, rfl⟩
            replace H : (spec_l04Distances.l2 k3 y116 y117 x8_2 (wrap64 (x9_3 + 1)) a0_0 a0_1 a0_2) = some r := by (rw [hy117]; with_reducible exact H)
            have Ny117 := A_ hy117
            clear hy117
            have H' := A_ H
            clear H
            try go_wp2
            have n0_ := A_ (Kd.R_drew HO_5.out)
            have n1_ := A_ (Kd.R_drew HO_7.out)
            have n2_ := A_ (blk_drew BK101.out); have n3_ := A_ (below_drew1 HB.out); clear HO_5 HO_7 BK101 HB; have HO_5 := n0_; have HO_7 := n1_; have BK101 := n2_; have HB := n3_; clear n0_ n1_ n2_ n3_
            obtain ⟨Ao40, co40, eo40⟩ := Kd.R_slice HO_7.out
            (subst eo40)
            have p111 : 0 ≤ (x8_2 : Int) := oD_
            have q111 : x8_2 < (x7_3.length : Int) := oD_
            obtain ⟨ad111, e111, hx111_0⟩ := Kd.at_int (Kd.R_reads' HO_7.out).2.2 x8_2 p111 q111
            cases e111
            replace p111 := eq_true p111; replace q111 := eq_true q111
            refine start_ (n := 8) (S := fun w' => w'.cell? ⟨gb101, 0, none⟩ = some (.int .i64 a0_0) ∧ w'.cell? ⟨gb101, 1, none⟩ = some (.int .i64 a0_1) ∧ w'.cell? ⟨gb101, 2, none⟩ = some (.int .i64 a0_2) ∧ w'.cell? (ad111.add (x8_2).toNat) = some (.int .i64 (rd x7_3 x8_2))) (ds := []) #[false, false, false, false, false, false, false, false] (by kernel_rfl) rfl rfl ⟨(blk_cell BK101.out 0).trans rfl, (blk_cell BK101.out 1).trans rfl, (blk_cell BK101.out 2).trans rfl, hx111_0⟩ (fun hHeld => ?_); refine with_tabW spec_l04Distances.tab14 spec_l04Distances.bits14 (fun HT_ HW_ => ?_)
            generalize wr.drew = w39 at HO_5 HO_7 BK101 HB hx111_0 hHeld ⊢
            refine pv_ 1 40 HT_ ?_; refine pv_ 2 41 HT_ ?_; refine pv_ 3 42 HT_ ?_; refine pv_ 5 44 HT_ ?_; refine tv_ 0 39 rfl HT_ HW_ hHeld (by rintro w' ⟨s0, s1, s2, s3⟩; go_simp; with_reducible rfl) ?_
            refine tv_ 4 43 rfl HT_ HW_ hHeld (by rintro w' ⟨s0, s1, s2, s3⟩; go_simp; with_reducible rfl) ?_
            refine on_ 6 (some 45) rfl rfl HT_ (by kernel_rfl) (by decide) (fun K hK => ?_)
            refine gs_ Try.func68 #[.agg #[.int .i64 a0_0, .int .i64 a0_1, .int .i64 a0_2], .int .i64 (rd x7_3 x8_2), .int .i64 x9_3] ?_
            with_reducible refine (spec_Step.calls k3 a0_0 a0_1 a0_2 (rd x7_3 x8_2) x9_3 t112 _ A30.out).mono ?_
            rintro e w41 ⟨rfl, hb⟩
            have HS3_ := (hb.cell (World.block_lt_of_cell? _ _ (hHeld.2.2.2))).trans (hHeld.2.2.2)
            refine ⟨_, rfl, ?_⟩
            have n0_ := A_ (Kd.R_below HO_5.out hb)
            have n1_ := A_ (Kd.R_below HO_7.out hb)
            have n2_ := A_ (blk_below BK101.out hb)
            have n3_ := A_ (bs_ HB.1 hb)
            clear HO_5 HO_7 BK101 HB; have HO_5 := n0_; have HO_7 := n1_; have BK101 := n2_; have HB := n3_; clear n0_ n1_ n2_ n3_; (try clear hb); (try clear hk)
            refine hK.out _ _ ⟨(blk_cell BK101.out 0).trans rfl, (blk_cell BK101.out 1).trans rfl, (blk_cell BK101.out 2).trans rfl, HS3_⟩ (fun hHeld => ?_)
            clear hK K
            refine norm_ (a' := ?_) ?_ ?_; rotate_left; (show Act.put _ (some 45) _ = _; simp only [P6_]; rfl)
            refine pv_ 7 10 HT_ ?_
            refine done_ (done_of HT_.out (by kernel_rfl)) ?_
            have p113 : 0 ≤ (t112 : Int) := oD_
            have q113 : t112 < (x5_3.length : Int) := oD_
            obtain ⟨ad113, e113, hx113_0⟩ := Kd.at_int (Kd.R_reads' HO_5.out).2.2 t112 p113 q113
            obtain rfl : (⟨go19, 0, none⟩ : Addr) = ad113 := (by injection e113)
            (simp only [add_plain] at hx113_0)
            replace p113 := eq_true p113; replace q113 := eq_true q113
            have p114 : 0 ≤ (x8_2 : Int) := oD_
            have q114 : x8_2 < (x7_3.length : Int) := oD_
            obtain ⟨ad114, e114, hx114_0⟩ := Kd.at_int (Kd.R_reads' HO_7.out).2.2 x8_2 p114 q114
            obtain rfl : ad111 = ad114 := (by injection e114)
            replace p114 := eq_true p114; replace q114 := eq_true q114
            have p115 : 0 ≤ ((rd x7_3 x8_2) : Int) := oD_
            have q115 : (rd x7_3 x8_2) < (x5_3.length : Int) := oD_
            obtain ⟨ad115, e115, hx115_0⟩ := Kd.at_int (Kd.R_reads' HO_5.out).2.2 (rd x7_3 x8_2) p115 q115
            obtain rfl : (⟨go19, 0, none⟩ : Addr) = ad115 := (by injection e115)
            (simp only [add_plain] at hx115_0)
            replace p115 := eq_true p115; replace q115 := eq_true q115
            have p37 : 0 ≤ (t112 : Int) := oD_
            have q37 : (t112 : Int) < ((x5_3.length : Int) : Int) := oD_
            obtain ⟨hx37_0, hf37_0⟩ := Kd.R_celln 0 HO_5.out (t112 : Int) p37 q37
            replace p37 := eq_true p37; replace q37 := eq_true q37
            obtain ⟨hy42_, hz42_⟩ := Kd.R_celln 0 HO_5.out (t112 : Int) (oD_) (oD_)
            have HP42 := Kd.R_putg HO_5.out (t112 : Int) (wrap64 ((rd x5_3 (rd x7_3 x8_2)) + 1))
            try go_wp2_with (first | ((with_reducible refine gate_store (t := 3) (p := 65) rfl ?_); refine store_event (t := 3) (p := 65) (v := ?vo_w43) (w1 := (w41.setCell ⟨go19, (t112 : Int).toNat, none⟩ (.int .i64 (wrap64 ((rd x5_3 (rd x7_3 x8_2)) + 1))))) ?hg ?ho ?hn ?hr ?_; (case ho => rfl); (case hg => rfl); (case hn => rfl); (case hr => (go_simp; done)); intro w43 hw; have hg : w41.grownBy w43 (some go19) := (by rw [hw]; exact HP42.2); have hp_ : Kd.R (Kd.int .i64) 3 w43 w.heap.size (fun k_ => some k_ ≠ (.slice (some ad111) x7_3.length co40 : Value).ownBlock) (.slice (some ⟨go19, 0, none⟩) x5_3.length co20) y116 := (by rw [hw, Ny116.out]; exact HP42.1); clear HP42; have n0_ := A_ (hp_); have n1_ := A_ (Kd.R_after (v := (.slice (some ⟨go19, 0, none⟩) x5_3.length co20)) (v1 := (.slice (some ⟨go19, 0, none⟩) x5_3.length co20)) (ok := (fun _ => True)) (by exact Kd.R_mono HO_7.out (fun _ hk => ⟨trivial, hk⟩)) hg (.inl rfl)); have n2_ := A_ (blk_grown (g := gb101) (o := .cells #[.int .i64 a0_0, .int .i64 a0_1, .int .i64 a0_2] 42 (0, 0)) BK101.out hg (Kd.R_ne HO_5.out BK101.out (by decide))); have n3_ := A_ ((by rw [hw]; exact below_set (HB.out) GB19.out : Below w.heap.size w w43)); clear HO_5 HO_7 BK101 HB; have HO_5 := n0_; have HO_7 := n1_; have BK101 := n2_; have HB := n3_; clear n0_ n1_ n2_ n3_ hg hw hp_) | ((with_reducible refine gate_builtin (b := .append) (xs := #[.tmp 66, .tmp 68]) rfl ?_); at_builtin; refine Kd.R_append (Kd.int .i64) (w0 := w) w.heap.size rfl (.tmp 66) (.tmp 68) 29 3 (.int .i64 0) 8 rfl Try.underlying29 info3 rfl (by decide) (by omega) (.slice (some ad111) x7_3.length co40) x7_3 t112 [.int .i64 t112] (fun k_ => some k_ ≠ (.slice (some ⟨go19, 0, none⟩) x5_3.length co20 : Value).ownBlock) (fun _ => False) rfl rfl ?aP (fun _ hk => hk.elim) ?aF ?aO ?aB ?aS ?aL ?_; (case aP => exact rfl); (case aB => exact HB.out); (case aF => exact (fun k_ hk => Kd.fresh' (Kd.R_lt HO_5.out) k_ hk)); (case aO => exact (by exact Kd.R_mono HO_7.out (fun _ hk => hk.2))); (case aS => exact (below_size HB.out)); (case aL => have := LMc38.out; omega); intro v118 w44 ho hb hg hat; rw [← Ny117.out] at ho; have n0_ := A_ (Kd.R_after (ok := (fun _ => True)) (by exact Kd.R_mono HO_5.out (fun _ hk => ⟨trivial, hk⟩)) hg hat); have n1_ := A_ (blk_grown (g := gb101) (o := .cells #[.int .i64 a0_0, .int .i64 a0_1, .int .i64 a0_2] 42 (0, 0)) BK101.out hg (Kd.R_ne HO_7.out BK101.out (by decide))); have n2_ := A_ (hb); have n3_ := A_ (ho); clear HO_5 BK101 HB HO_7; have HO_5 := n0_; have BK101 := n1_; have HB := n2_; have HO119 := n3_; clear n0_ n1_ n2_ n3_ ho hb hg hat))
            (try simp only [← hl5_3])
            go_roundg k3
            case measure => have := HK1.out; have := HK2.out; have := HK3.out; omega
            case rel => exact ⟨(y116), (y117), (wrap64 (x9_3 + 1)), (by rfl), H', ⟨by have := HK1.out; have := HK2.out; have := HK3.out; omega⟩, ⟨by (try simp only [hl5_2]); (try simp only [hl5_3]); exact Kd.R_mono HO_5.out (fun _ hk => hk.2)⟩, ⟨by (try simp only [hl5_2]); (try simp only [hl5_3]); exact HO119.out⟩, ⟨by (try simp only [hl5_2]); (try simp only [hl5_3]); exact BK101.out⟩, ⟨by repeat ((with_reducible exact HB.out))⟩⟩
           ·rw [if_neg c34] at H
            have c34b0 : decide ((rd x5_3 t112) < 0) = false := decide_eq_false c34
            clear c34
            have H' := A_ H
            clear H
            try go_wp2
            have n0_ := A_ (Kd.R_drew HO_5.out)
            have n1_ := A_ (Kd.R_drew HO_7.out)
            have n2_ := A_ (blk_drew BK101.out); have n3_ := A_ (below_drew1 HB.out); clear HO_5 HO_7 BK101 HB; have HO_5 := n0_; have HO_7 := n1_; have BK101 := n2_; have HB := n3_; clear n0_ n1_ n2_ n3_
            obtain ⟨Ao46, co46, eo46⟩ := Kd.R_slice HO_7.out
            (subst eo46)
            have p111 : 0 ≤ (x8_2 : Int) := oD_
            have q111 : x8_2 < (x7_3.length : Int) := oD_
            obtain ⟨ad111, e111, hx111_0⟩ := Kd.at_int (Kd.R_reads' HO_7.out).2.2 x8_2 p111 q111
            cases e111
            replace p111 := eq_true p111; replace q111 := eq_true q111
            refine start_ (n := 8) (S := fun w' => w'.cell? ⟨gb101, 0, none⟩ = some (.int .i64 a0_0) ∧ w'.cell? ⟨gb101, 1, none⟩ = some (.int .i64 a0_1) ∧ w'.cell? ⟨gb101, 2, none⟩ = some (.int .i64 a0_2) ∧ w'.cell? (ad111.add (x8_2).toNat) = some (.int .i64 (rd x7_3 x8_2))) (ds := []) #[false, false, false, false, false, false, false, false] (by kernel_rfl) rfl rfl ⟨(blk_cell BK101.out 0).trans rfl, (blk_cell BK101.out 1).trans rfl, (blk_cell BK101.out 2).trans rfl, hx111_0⟩ (fun hHeld => ?_); refine with_tabW spec_l04Distances.tab14 spec_l04Distances.bits14 (fun HT_ HW_ => ?_)
            generalize wr.drew = w45 at HO_5 HO_7 BK101 HB hx111_0 hHeld ⊢
            refine pv_ 1 40 HT_ ?_; refine pv_ 2 41 HT_ ?_; refine pv_ 3 42 HT_ ?_; refine pv_ 5 44 HT_ ?_; refine tv_ 0 39 rfl HT_ HW_ hHeld (by rintro w' ⟨s0, s1, s2, s3⟩; go_simp; with_reducible rfl) ?_
            refine tv_ 4 43 rfl HT_ HW_ hHeld (by rintro w' ⟨s0, s1, s2, s3⟩; go_simp; with_reducible rfl) ?_
            refine on_ 6 (some 45) rfl rfl HT_ (by kernel_rfl) (by decide) (fun K hK => ?_)
            refine gs_ Try.func68 #[.agg #[.int .i64 a0_0, .int .i64 a0_1, .int .i64 a0_2], .int .i64 (rd x7_3 x8_2), .int .i64 x9_3] ?_
            with_reducible refine (spec_Step.calls k3 a0_0 a0_1 a0_2 (rd x7_3 x8_2) x9_3 t112 _ A30.out).mono ?_
            rintro e w47 ⟨rfl, hb⟩
            have HS3_ := (hb.cell (World.block_lt_of_cell? _ _ (hHeld.2.2.2))).trans (hHeld.2.2.2)
            refine ⟨_, rfl, ?_⟩
            have n0_ := A_ (Kd.R_below HO_5.out hb)
            have n1_ := A_ (Kd.R_below HO_7.out hb)
            have n2_ := A_ (blk_below BK101.out hb)
            have n3_ := A_ (bs_ HB.1 hb)
            clear HO_5 HO_7 BK101 HB; have HO_5 := n0_; have HO_7 := n1_; have BK101 := n2_; have HB := n3_; clear n0_ n1_ n2_ n3_; (try clear hb); (try clear hk)
            refine hK.out _ _ ⟨(blk_cell BK101.out 0).trans rfl, (blk_cell BK101.out 1).trans rfl, (blk_cell BK101.out 2).trans rfl, HS3_⟩ (fun hHeld => ?_)
            clear hK K
            refine norm_ (a' := ?_) ?_ ?_; rotate_left; (show Act.put _ (some 45) _ = _; simp only [P6_]; rfl)
            refine pv_ 7 10 HT_ ?_
            refine done_ (done_of HT_.out (by kernel_rfl)) ?_
            have p113 : 0 ≤ (t112 : Int) := oD_
            have q113 : t112 < (x5_3.length : Int) := oD_
            obtain ⟨ad113, e113, hx113_0⟩ := Kd.at_int (Kd.R_reads' HO_5.out).2.2 t112 p113 q113
            obtain rfl : (⟨go19, 0, none⟩ : Addr) = ad113 := (by injection e113)
            (simp only [add_plain] at hx113_0)
            replace p113 := eq_true p113; replace q113 := eq_true q113
            try go_wp2
            (try simp only [← hl5_3])
            go_roundg k3
            case measure => have := HK1.out; have := HK2.out; have := HK3.out; omega
            case rel => exact ⟨(x5_3), (x7_3), (wrap64 (x9_3 + 1)), (by rfl), H', ⟨by have := HK1.out; have := HK2.out; have := HK3.out; omega⟩, ⟨by (try simp only [hl5_2]); (try simp only [hl5_3]); exact HO_5.out⟩, ⟨by (try simp only [hl5_2]); (try simp only [hl5_3]); exact HO_7.out⟩, ⟨by (try simp only [hl5_2]); (try simp only [hl5_3]); exact BK101.out⟩, ⟨by repeat ((with_reducible exact HB.out))⟩⟩
          ·rw [if_neg c31] at H
           have c31b0 : decide (0 ≤ t112) = false := decide_eq_false c31
           clear c31
           have H' := A_ H
           clear H
           try go_wp2
           have n0_ := A_ (Kd.R_drew HO_5.out)
           have n1_ := A_ (Kd.R_drew HO_7.out)
           have n2_ := A_ (blk_drew BK101.out); have n3_ := A_ (below_drew1 HB.out); clear HO_5 HO_7 BK101 HB; have HO_5 := n0_; have HO_7 := n1_; have BK101 := n2_; have HB := n3_; clear n0_ n1_ n2_ n3_
           obtain ⟨Ao49, co49, eo49⟩ := Kd.R_slice HO_7.out
           (subst eo49)
           have p111 : 0 ≤ (x8_2 : Int) := oD_
           have q111 : x8_2 < (x7_3.length : Int) := oD_
           obtain ⟨ad111, e111, hx111_0⟩ := Kd.at_int (Kd.R_reads' HO_7.out).2.2 x8_2 p111 q111
           cases e111
           replace p111 := eq_true p111; replace q111 := eq_true q111
           refine start_ (n := 8) (S := fun w' => w'.cell? ⟨gb101, 0, none⟩ = some (.int .i64 a0_0) ∧ w'.cell? ⟨gb101, 1, none⟩ = some (.int .i64 a0_1) ∧ w'.cell? ⟨gb101, 2, none⟩ = some (.int .i64 a0_2) ∧ w'.cell? (ad111.add (x8_2).toNat) = some (.int .i64 (rd x7_3 x8_2))) (ds := []) #[false, false, false, false, false, false, false, false] (by kernel_rfl) rfl rfl ⟨(blk_cell BK101.out 0).trans rfl, (blk_cell BK101.out 1).trans rfl, (blk_cell BK101.out 2).trans rfl, hx111_0⟩ (fun hHeld => ?_); refine with_tabW spec_l04Distances.tab14 spec_l04Distances.bits14 (fun HT_ HW_ => ?_)
           generalize wr.drew = w48 at HO_5 HO_7 BK101 HB hx111_0 hHeld ⊢
           refine pv_ 1 40 HT_ ?_; refine pv_ 2 41 HT_ ?_; refine pv_ 3 42 HT_ ?_; refine pv_ 5 44 HT_ ?_; refine tv_ 0 39 rfl HT_ HW_ hHeld (by rintro w' ⟨s0, s1, s2, s3⟩; go_simp; with_reducible rfl) ?_
           refine tv_ 4 43 rfl HT_ HW_ hHeld (by rintro w' ⟨s0, s1, s2, s3⟩; go_simp; with_reducible rfl) ?_
           refine on_ 6 (some 45) rfl rfl HT_ (by kernel_rfl) (by decide) (fun K hK => ?_)
           refine gs_ Try.func68 #[.agg #[.int .i64 a0_0, .int .i64 a0_1, .int .i64 a0_2], .int .i64 (rd x7_3 x8_2), .int .i64 x9_3] ?_
           with_reducible refine (spec_Step.calls k3 a0_0 a0_1 a0_2 (rd x7_3 x8_2) x9_3 t112 _ A30.out).mono ?_
           rintro e w50 ⟨rfl, hb⟩
           have HS3_ := (hb.cell (World.block_lt_of_cell? _ _ (hHeld.2.2.2))).trans (hHeld.2.2.2)
           refine ⟨_, rfl, ?_⟩
           have n0_ := A_ (Kd.R_below HO_5.out hb)
           have n1_ := A_ (Kd.R_below HO_7.out hb)
           have n2_ := A_ (blk_below BK101.out hb)
           have n3_ := A_ (bs_ HB.1 hb)
           clear HO_5 HO_7 BK101 HB; have HO_5 := n0_; have HO_7 := n1_; have BK101 := n2_; have HB := n3_; clear n0_ n1_ n2_ n3_; (try clear hb); (try clear hk)
           refine hK.out _ _ ⟨(blk_cell BK101.out 0).trans rfl, (blk_cell BK101.out 1).trans rfl, (blk_cell BK101.out 2).trans rfl, HS3_⟩ (fun hHeld => ?_)
           clear hK K
           refine norm_ (a' := ?_) ?_ ?_; rotate_left; (show Act.put _ (some 45) _ = _; simp only [P6_]; rfl)
           refine pv_ 7 10 HT_ ?_
           refine done_ (done_of HT_.out (by kernel_rfl)) ?_
           try go_wp2
           (try simp only [← hl5_3])
           go_roundg k3
           case measure => have := HK1.out; have := HK2.out; have := HK3.out; omega
           case rel => exact ⟨(x5_3), (x7_3), (wrap64 (x9_3 + 1)), (by rfl), H', ⟨by have := HK1.out; have := HK2.out; have := HK3.out; omega⟩, ⟨by (try simp only [hl5_2]); (try simp only [hl5_3]); exact HO_5.out⟩, ⟨by (try simp only [hl5_2]); (try simp only [hl5_3]); exact HO_7.out⟩, ⟨by (try simp only [hl5_2]); (try simp only [hl5_3]); exact BK101.out⟩, ⟨by repeat ((with_reducible exact HB.out))⟩⟩
         ·rw [if_neg c27] at H
          have c27b0 : decide (x9_3 ≤ 3) = false := decide_eq_false c27
          clear c27
          have H' := A_ H
          clear H
          go_wp2
          (try simp only [← hl5_2, ← hl5_3])
          go_roundg k3
          case measure => have := HK1.out; have := HK2.out; have := HK3.out; omega
          case rel => exact ⟨(x5_3), (x7_3), (wrap64 (x8_2 + 1)), (by rfl), H', ⟨by have := HK1.out; have := HK2.out; have := HK3.out; omega⟩, ⟨by (try simp only [hl5_2]); (try simp only [hl5_3]); exact HO_5.out⟩, ⟨by (try simp only [hl5_2]); (try simp only [hl5_3]); exact HO_7.out⟩, ⟨by (try simp only [hl5_2]); (try simp only [hl5_3]); exact BK101.out⟩, ⟨by repeat ((with_reducible exact HB.out))⟩⟩
      ·rw [if_neg c25] at H
       have c25b0 : decide (x8_2 < (x7_2.length : Int)) = false := decide_eq_false c25
       clear c25
       obtain rfl := Option.some.inj H
       obtain ⟨Ao51, co51, eo51⟩ := Kd.R_slice HO_7.out
       subst eo51
       go_wp2
       go_ret
       exact ⟨_, by rfl, by exact Kd.R_mono HO_5.out (fun _ hk => trivial), by repeat ((with_reducible exact HB.out))⟩

end Go.Proofs.Ytoohcdfokejkdaa.P
namespace Go.Proofs.Ytoohcdfokejkdaa.P
open Go.RowKit Go.Proofs.YtoohcdfokejkdaaW.PrintWords Go.Proofs.YtoohcdfokejkdaaW.PrintLast Go.Proofs.YtoohcdfokejkdaaW.PrintMore
attribute [local go_sem] max2_int min2_int max_two min_two max_three min_three max_four min_four   -- for this text's walks alone
set_option linter.unusedVariables false
set_option linter.unusedSimpArgs false

def spec_Reached.l0 : Nat → List Int → List Int → Int → Option (List Int)
 | 0, _, _, _ => none
 | k + 1, x5, x6, x7 => if x7 < (x6.length : Int) then (if 0 ≤ x7 then (if (rd x6 x7) ≥ 0 then (if x5.length < 17592186044416 then (spec_Reached.l0 k (x5 ++ [x7]) x6 (wrap64 (x7 + 1))) else (none)) else (spec_Reached.l0 k x5 x6 (wrap64 (x7 + 1)))) else (none)) else (some x5)
def spec_Reached.f (k : Nat) (a0_0 : Int) (a0_1 : Int) (a0_2 : Int) (a1 : Int) : Option (List Int) := (some (([] : List Int) : List Int)).bind fun y102 => ((spec_l04Has.f a0_0 a0_1 a0_2 a1).bind fun t105 => (if t105 = true then ((spec_l04Distances.f k a0_0 a0_1 a0_2 a1).bind fun t106 => (spec_Reached.l0 k y102 t106 0)) else (some y102)))
set_option maxHeartbeats 8000000 in
set_option maxRecDepth 100000 in
theorem spec_Reached.calls (k : Nat) (a0_0 : Int) (a0_1 : Int) (a0_2 : Int) (a1 : Int) (r : List Int) (w : World) (h : spec_Reached.f k a0_0 a0_1 a0_2 a1 = some r) :
  Calls Try.prog 128 #[.agg #[.int .i64 a0_0, .int .i64 a0_1, .int .i64 a0_2], .int .i64 a1] w fun e w' => ∃ v0_ : Value, e = .returned (v0_) ∧ Kd.R (Kd.int .i64) 3 w' w.heap.size (fun _ => True) v0_ r ∧ Below w.heap.size w w' := by
 have hu42 := Try.underlying42
 have HB := A_ (Below.refl w.heap.size w)
 have H : ((some (([] : List Int) : List Int)).bind fun y102 => ((spec_l04Has.f a0_0 a0_1 a0_2 a1).bind fun t105 => (if t105 = true then ((spec_l04Distances.f k a0_0 a0_1 a0_2 a1).bind fun t106 => (spec_Reached.l0 k y102 t106 0)) else (some y102)))) = some r := h
 clear h
 obtain ⟨y102, hy102⟩ : ∃ y_ : List Int, y_ = (([] : List Int)) := ⟨_, rfl⟩
 replace H : ((spec_l04Has.f a0_0 a0_1 a0_2 a1).bind fun t105 => (if t105 = true then ((spec_l04Distances.f k a0_0 a0_1 a0_2 a1).bind fun t106 => (spec_Reached.l0 k y102 t106 0)) else (some y102))) = some r := by (have H2_ := (Option.bind_some _ _).symm.trans H; rw [hy102]; with_reducible exact H2_)
 have Ny102 := A_ hy102
 clear hy102
 obtain ⟨t105, A30, H⟩ := oB_ H
 (try dsimp only at H); have A3 := A_ A30; clear A30
 by_cases c4 : t105 = true
 ·subst c4
  rw [if_pos rfl] at H
  obtain ⟨t106, A50, H⟩ := oB_ H
  (try dsimp only at H); have A5 := A_ A50; clear A50
  have H' := A_ H
  clear H
  go_enter Try.func128, Try.ntmps128
  go_wp2_with (first | ((with_reducible refine gate_dst (N := 2) rfl ?_); refine be_ 2 #[.int .i64 a0_0, .int .i64 a0_1, .int .i64 a0_2] 42 ?_; intro gb101 hg w6 hbox hb; have n0_ := A_ (bs_ HB.1 hb); have n1_ := A_ (hbox); have n2_ := A_ (bS_ HB.out hg); have n3_ := A_ (bS_ HB.out hg); clear HB; have HB := n0_; have BK101 := n1_; have GW101 := n2_; have GE101 := n3_; clear n0_ n1_ n2_ n3_ hb hbox hg) | ((with_reducible refine gate_dst (N := 8) rfl ?_); refine Kd.R_lit (Kd.int .i64) _ 3 ?hg (N := 8) ?hd (xs := ([] : List Int)) (inner := []) (ok := fun _ => True) (okp := fun _ => True) ?hr ?hp (fun _ hk => hk) trivial (Below.refl _ _) (Nat.le_refl _) (by simp) ?_; (case hd => rfl); (case hg => rfl); (case hr => (go_simp; done)); (case hp => exact (Reps.none _ _)); intro v103 w7 ho8 hb hg_ hnew_; clear hg_ hnew_; (rw [← Ny102.out] at ho8); have n0_ := A_ (Kd.R_lower ho8 (below_size HB.out)); have n1_ := A_ (blk_below BK101.out hb); have n2_ := A_ (bs_ HB.1 hb); clear BK101 HB; have HO104 := n0_; have BK101 := n1_; have HB := n2_; clear n0_ n1_ n2_ hb ho8; obtain ⟨hcz9_0, hcz9_1, hcz9_2⟩ := kk3_ BK101.1; have hfz9_0 := bf_ BK101.out 0; have hfz9_1 := bf_ BK101.out 1; have hfz9_2 := bf_ BK101.out 2) | ((with_reducible refine gate_callee (f := 131) rfl ?_); refine gl_ 11 Try.func131 #[.agg #[.int .i64 a0_0, .int .i64 a0_1, .int .i64 a0_2], .int .i64 a1] ?_; (with_reducible refine (spec_l04Has.calls a0_0 a0_1 a0_2 a1 true _ A3.out).mono ?_); rintro e w10 ⟨rfl, hb⟩; refine ⟨_, rfl, ?_⟩; have n0_ := A_ (Kd.R_below HO104.out hb); have n1_ := A_ (blk_below BK101.out hb); have n2_ := A_ (bs_ HB.1 hb); clear HO104 BK101 HB; have HO104 := n0_; have BK101 := n1_; have HB := n2_; clear n0_ n1_ n2_; (try clear hb); (try clear hk); obtain ⟨hcz11_0, hcz11_1, hcz11_2⟩ := kk3_ BK101.1; have hfz11_0 := bf_ BK101.out 0; have hfz11_1 := bf_ BK101.out 1; have hfz11_2 := bf_ BK101.out 2) | ((with_reducible refine gate_callee (f := 132) rfl ?_); refine gl_ 16 Try.func132 #[.agg #[.int .i64 a0_0, .int .i64 a0_1, .int .i64 a0_2], .int .i64 a1] ?_; (with_reducible refine (spec_l04Distances.calls k a0_0 a0_1 a0_2 a1 t106 _ A5.out).mono ?_); rintro e w12 ⟨v107, rfl, ho0, hb⟩; refine ⟨_, rfl, ?_⟩; have n0_ := A_ (Kd.R_elder' HO104.out (Kd.R_base ho0) hb); have n1_ := A_ (Kd.R_lower (Kd.R_new' ho0 (Kd.R_lt HO104.out)) (below_size HB.out)); have n2_ := A_ (blk_below BK101.out hb); have n3_ := A_ (bs_ HB.1 hb); clear HO104 BK101 HB; have HO104 := n0_; have HO108 := n1_; have BK101 := n2_; have HB := n3_; clear n0_ n1_ n2_ n3_; (try clear hb); (try clear hk); (try clear ho0)))
  go_loopg [5, 7] k (fun kq v5 v7 w' => ∃ (x5_1 : List Int) (x7_1 : Int), v7 = .int .i64 x7_1 ∧ Aside0 (spec_Reached.l0 kq x5_1 t106 x7_1 = some r) ∧ Aside0 (kq ≤ k) ∧ Aside0 (Kd.R (Kd.int .i64) 3 w' w.heap.size (fun k_ => some k_ ≠ (v107 : Value).ownBlock) v5 x5_1) ∧ Aside0 (Kd.R (Kd.int .i64) 3 w' w.heap.size (fun k_ => some k_ ≠ (v5 : Value).ownBlock) v107 t106) ∧ Aside0 (w'.heap[gb101]? = some (.cells #[.int .i64 a0_0, .int .i64 a0_1, .int .i64 a0_2] 42 (0, 0))) ∧ Aside0 (Below w.heap.size w w'))
  case atStart => exact ⟨(y102), (0), (by rfl), H', ⟨Nat.le_refl _⟩, ⟨by exact Kd.R_mono HO104.out (fun _ hk => hk.2)⟩, ⟨by exact Kd.R_mono HO108.out (fun _ hk => hk.2)⟩, ⟨by exact BK101.out⟩, ⟨by repeat ((with_reducible exact HB.out))⟩⟩
  case round =>
   clear H'; try clear c1; try clear p2; try clear c4; try clear c12; try clear hcz11_0; try clear hcz11_1; try clear hcz11_2; try clear hcz9_0; try clear hcz9_1; try clear hcz9_2; try clear hfz11_0; try clear hfz11_1; try clear hfz11_2; try clear hfz9_0; try clear hfz9_1; try clear hfz9_2
   obtain ⟨x5_1, x7_1, rfl, HA, HK1, HO_5, HO_6, BK101, HB⟩ := hrel
   cases gk with
   | zero => exact absurd HA.out (by simp [spec_Reached.l0])
   | succ k1 =>
    have H := HA.out
    clear HA
    simp only [spec_Reached.l0] at H
    by_cases c13 : x7_1 < (t106.length : Int)
    ·rw [if_pos c13] at H
     have c13b0 : decide (x7_1 < (t106.length : Int)) = true := decide_eq_true c13
     clear c13
     replace H := iN_ H; obtain ⟨c14, H⟩ := H
     have c14b0 : decide (0 ≤ x7_1) = true := decide_eq_true c14
     clear c14
     by_cases c15 : (rd t106 x7_1) ≥ 0
     ·rw [if_pos c15] at H
      have c15b0 : decide (0 ≤ (rd t106 x7_1)) = true := decide_eq_true c15
      clear c15
      replace H := iN_ H; obtain ⟨c16, H⟩ := H
      have LMc16 := A_ c16
      clear c16
      obtain ⟨y110, hy110⟩ : ∃ y_ : List Int, y_ = (x5_1 ++ [x7_1]) := ⟨_, rfl⟩
      replace H : (spec_Reached.l0 k1 y110 t106 (wrap64 (x7_1 + 1))) = some r := by (rw [hy110]; with_reducible exact H)
      have Ny110 := A_ hy110
      clear hy110
      have H' := A_ H
      clear H
      obtain ⟨Ao17, co17, eo17⟩ := Kd.R_slice HO_6.out
      subst eo17
      have p109 : 0 ≤ (x7_1 : Int) := oD_
      have q109 : x7_1 < (t106.length : Int) := oD_
      obtain ⟨ad109, e109, hx109_0⟩ := Kd.at_int (Kd.R_reads' HO_6.out).2.2 x7_1 p109 q109
      cases e109
      replace p109 := eq_true p109; replace q109 := eq_true q109
      go_wp2_with (((with_reducible refine gate_builtin (b := .append) (xs := #[.tmp 28, .tmp 30]) rfl ?_); at_builtin; refine Kd.R_append (Kd.int .i64) (w0 := w) w.heap.size rfl (.tmp 28) (.tmp 30) 29 3 (.int .i64 0) 8 rfl Try.underlying29 info3 rfl (by decide) (by omega) u5 x5_1 x7_1 [.int .i64 x7_1] (fun k_ => some k_ ≠ (.slice (some ad109) t106.length co17 : Value).ownBlock) (fun _ => False) rfl rfl ?aP (fun _ hk => hk.elim) ?aF ?aO ?aB ?aS ?aL ?_; (case aP => exact rfl); (case aB => exact HB.out); (case aF => exact (fun k_ hk => Kd.fresh' (Kd.R_lt HO_6.out) k_ hk)); (case aO => exact HO_5.out); (case aS => exact (below_size HB.out)); (case aL => have := LMc16.out; omega); intro v111 w18 ho hb hg hat; rw [← Ny110.out] at ho; have n0_ := A_ (Kd.R_after (ok := (fun _ => True)) (by exact Kd.R_mono HO_6.out (fun _ hk => ⟨trivial, hk⟩)) hg hat); have n1_ := A_ (blk_grown (g := gb101) (o := .cells #[.int .i64 a0_0, .int .i64 a0_1, .int .i64 a0_2] 42 (0, 0)) BK101.out hg (Kd.R_ne HO_5.out BK101.out (by decide))); have n2_ := A_ (hb); have n3_ := A_ (ho); clear HO_6 BK101 HB HO_5; have HO_6 := n0_; have BK101 := n1_; have HB := n2_; have HO112 := n3_; clear n0_ n1_ n2_ n3_ ho hb hg hat))
      go_roundg k1
      case measure => have := HK1.out; omega
      case rel => exact ⟨(y110), (wrap64 (x7_1 + 1)), (by rfl), H', ⟨by have := HK1.out; omega⟩, ⟨by exact HO112.out⟩, ⟨by exact Kd.R_mono HO_6.out (fun _ hk => hk.2)⟩, ⟨by exact BK101.out⟩, ⟨by repeat ((with_reducible exact HB.out))⟩⟩
     ·rw [if_neg c15] at H
      have c15b0 : decide (0 ≤ (rd t106 x7_1)) = false := decide_eq_false c15
      clear c15
      have H' := A_ H
      clear H
      obtain ⟨Ao19, co19, eo19⟩ := Kd.R_slice HO_6.out
      subst eo19
      have p109 : 0 ≤ (x7_1 : Int) := oD_
      have q109 : x7_1 < (t106.length : Int) := oD_
      obtain ⟨ad109, e109, hx109_0⟩ := Kd.at_int (Kd.R_reads' HO_6.out).2.2 x7_1 p109 q109
      cases e109
      replace p109 := eq_true p109; replace q109 := eq_true q109
      go_wp2
      go_roundg k1
      case measure => have := HK1.out; omega
      case rel => exact ⟨(x5_1), (wrap64 (x7_1 + 1)), (by rfl), H', ⟨by have := HK1.out; omega⟩, ⟨by exact HO_5.out⟩, ⟨by exact HO_6.out⟩, ⟨by exact BK101.out⟩, ⟨by repeat ((with_reducible exact HB.out))⟩⟩
    ·rw [if_neg c13] at H
     have c13b0 : decide (x7_1 < (t106.length : Int)) = false := decide_eq_false c13
     clear c13
     obtain rfl := Option.some.inj H
     obtain ⟨Ao20, co20, eo20⟩ := Kd.R_slice HO_6.out
     subst eo20
     go_wp2
     go_ret
     exact ⟨_, by rfl, by exact Kd.R_mono HO_5.out (fun _ hk => trivial), by repeat ((with_reducible exact HB.out))⟩
 ·replace c4 := Bool.eq_false_iff.mpr c4
  subst c4
  have H1 : (some y102) = some r := by rw [if_neg (show ¬ (false = true) by decide)] at H; exact H
  clear H
  have H := H1
  clear H1
  obtain rfl := Option.some.inj H
  go_enter Try.func128, Try.ntmps128
  go_wp2_with (first | ((with_reducible refine gate_dst (N := 2) rfl ?_); refine be_ 2 #[.int .i64 a0_0, .int .i64 a0_1, .int .i64 a0_2] 42 ?_; intro gb101 hg w21 hbox hb; have n0_ := A_ (bs_ HB.1 hb); have n1_ := A_ (hbox); have n2_ := A_ (bS_ HB.out hg); have n3_ := A_ (bS_ HB.out hg); clear HB; have HB := n0_; have BK101 := n1_; have GW101 := n2_; have GE101 := n3_; clear n0_ n1_ n2_ n3_ hb hbox hg) | ((with_reducible refine gate_dst (N := 8) rfl ?_); refine Kd.R_lit (Kd.int .i64) _ 3 ?hg (N := 8) ?hd (xs := ([] : List Int)) (inner := []) (ok := fun _ => True) (okp := fun _ => True) ?hr ?hp (fun _ hk => hk) trivial (Below.refl _ _) (Nat.le_refl _) (by simp) ?_; (case hd => rfl); (case hg => rfl); (case hr => (go_simp; done)); (case hp => exact (Reps.none _ _)); intro v103 w22 ho23 hb hg_ hnew_; clear hg_ hnew_; (rw [← Ny102.out] at ho23); have n0_ := A_ (Kd.R_lower ho23 (below_size HB.out)); have n1_ := A_ (blk_below BK101.out hb); have n2_ := A_ (bs_ HB.1 hb); clear BK101 HB; have HO104 := n0_; have BK101 := n1_; have HB := n2_; clear n0_ n1_ n2_ hb ho23; obtain ⟨hcz24_0, hcz24_1, hcz24_2⟩ := kk3_ BK101.1; have hfz24_0 := bf_ BK101.out 0; have hfz24_1 := bf_ BK101.out 1; have hfz24_2 := bf_ BK101.out 2) | ((with_reducible refine gate_callee (f := 131) rfl ?_); refine gl_ 11 Try.func131 #[.agg #[.int .i64 a0_0, .int .i64 a0_1, .int .i64 a0_2], .int .i64 a1] ?_; (with_reducible refine (spec_l04Has.calls a0_0 a0_1 a0_2 a1 false _ A3.out).mono ?_); rintro e w25 ⟨rfl, hb⟩; refine ⟨_, rfl, ?_⟩; have n0_ := A_ (Kd.R_below HO104.out hb); have n1_ := A_ (blk_below BK101.out hb); have n2_ := A_ (bs_ HB.1 hb); clear HO104 BK101 HB; have HO104 := n0_; have BK101 := n1_; have HB := n2_; clear n0_ n1_ n2_; (try clear hb); (try clear hk)))
  go_ret
  exact ⟨_, by rfl, by exact HO104.out, by repeat ((with_reducible exact HB.out))⟩

end Go.Proofs.Ytoohcdfokejkdaa.P
namespace Go.Proofs.Ytoohcdfokejkdaa.P
open Go.RowKit Go.Proofs.YtoohcdfokejkdaaW.PrintWords Go.Proofs.YtoohcdfokejkdaaW.PrintLast Go.Proofs.YtoohcdfokejkdaaW.PrintMore
attribute [local go_sem] max2_int min2_int max_two min_two max_three min_three max_four min_four   -- for this text's walks alone
set_option linter.unusedVariables false
set_option linter.unusedSimpArgs false

mutual
def spec_CountParts.l0 : Nat → Int → Int → Int → Int → Int → Option (Int)
 | 0, _, _, _, _, _ => none
 | k + 1, x3, x4, x102000, x102001, x102002 => (spec_CountCells.f x102000 x102001).bind fun t102 => (if x4 < t102 then ((spec_MazeOk.f x102000 x102001 x102002).bind fun t103 => (spec_CountParts.j1 k x3 x4 t103 x102000 x102001 x102002)) else (spec_CountParts.j1 k x3 x4 false x102000 x102001 x102002))
def spec_CountParts.j1 : Nat → Int → Int → Bool → Int → Int → Int → Option (Int)
 | 0, _, _, _, _, _, _ => none
 | k + 1, x3, x4, x13, x102000, x102001, x102002 => if x13 = true then ((spec_Reached.f k x102000 x102001 x102002 x4).bind fun t104 => (if 0 < (t104.length : Int) then (if (rd t104 0) = x4 then (spec_CountParts.l0 k (wrap64 (x3 + 1)) (wrap64 (x4 + 1)) x102000 x102001 x102002) else (spec_CountParts.l0 k x3 (wrap64 (x4 + 1)) x102000 x102001 x102002)) else (none))) else (some x3)
end
def spec_CountParts.f (k : Nat) (a0_0 : Int) (a0_1 : Int) (a0_2 : Int) : Option (Int) := spec_CountParts.l0 k 0 0 a0_0 a0_1 a0_2
set_option maxHeartbeats 8000000 in
set_option maxRecDepth 100000 in
theorem spec_CountParts.calls (k : Nat) (a0_0 : Int) (a0_1 : Int) (a0_2 : Int) (r : Int) (w : World) (h : spec_CountParts.f k a0_0 a0_1 a0_2 = some r) :
  Calls Try.prog 126 #[.agg #[.int .i64 a0_0, .int .i64 a0_1, .int .i64 a0_2]] w fun e w' => e = .returned (.int .i64 r) ∧ Below w.heap.size w w' := by
 have hu42 := Try.underlying42
 have hu40 := Try.underlying40
 have HB := A_ (Below.refl w.heap.size w)
 have H : (spec_CountParts.l0 k 0 0 a0_0 a0_1 a0_2) = some r := h
 clear h
 have H' := A_ H
 clear H
 go_enter Try.func126, Try.ntmps126
 go_wp2_with (((with_reducible refine gate_dst (N := 1) rfl ?_); refine be_ 1 #[.int .i64 a0_0, .int .i64 a0_1, .int .i64 a0_2] 42 ?_; intro gb101 hg w2 hbox hb; have n0_ := A_ (bs_ HB.1 hb); have n1_ := A_ (hbox); have n2_ := A_ (bS_ HB.out hg); have n3_ := A_ (bS_ HB.out hg); clear HB; have HB := n0_; have BK101 := n1_; have GW101 := n2_; have GE101 := n3_; clear n0_ n1_ n2_ n3_ hb hbox hg))
 go_loopg [3, 4] k (fun kq v3 v4 w' => ∃ (x3_1 : Int) (x4_1 : Int), v3 = .int .i64 x3_1 ∧ v4 = .int .i64 x4_1 ∧ Aside0 (spec_CountParts.l0 kq x3_1 x4_1 a0_0 a0_1 a0_2 = some r) ∧ Aside0 (kq ≤ k) ∧ Aside0 (w'.heap[gb101]? = some (.cells #[.int .i64 a0_0, .int .i64 a0_1, .int .i64 a0_2] 42 (0, 0))) ∧ Aside0 (Below w.heap.size w w'))
 case atStart => exact ⟨(0), (0), (by rfl), (by rfl), H', ⟨Nat.le_refl _⟩, ⟨by exact BK101.out⟩, ⟨by repeat ((with_reducible exact HB.out))⟩⟩
 case round =>
  clear H'; try clear c1; try clear p2
  obtain ⟨x3_1, x4_1, rfl, rfl, HA, HK1, BK101, HB⟩ := hrel
  cases gk with
  | zero => exact absurd HA.out (by simp [spec_CountParts.l0])
  | succ k1 =>
   have H := HA.out
   clear HA
   simp only [spec_CountParts.l0] at H
   have HC3 := A_ H
   clear H
   go_upto_region 3 with (fail)
   go_cut [13] (fun v13 wc => ∃ (kq : Nat) (x13_2 : Bool), v13 = .bool x13_2 ∧ Aside0 (spec_CountParts.j1 kq x3_1 x4_1 x13_2 a0_0 a0_1 a0_2 = some r) ∧ Aside0 (kq ≤ k1) ∧ Aside0 (wc.heap[gb101]? = some (.cells #[.int .i64 a0_0, .int .i64 a0_1, .int .i64 a0_2] 42 (0, 0))) ∧ Aside0 (Below w.heap.size w wc))
   case first =>
    have H := HC3.out
    clear HC3
    obtain ⟨t102, A40, H⟩ := oB_ H
    (try dsimp only at H); have A4 := A_ A40; clear A40
    by_cases c5 : x4_1 < t102
    ·rw [if_pos c5] at H
     have c5b0 : decide (x4_1 < t102) = true := decide_eq_true c5
     clear c5
     (skip)
     obtain ⟨t103, A60, H⟩ := oB_ H
     (try dsimp only at H); have A6 := A_ A60; clear A60
     have H' := A_ H
     clear H
     obtain ⟨hcz7_0, hcz7_1, hcz7_2⟩ := kk3_ BK101.1
     have hfz7_0 := bf_ BK101.out 0
     have hfz7_1 := bf_ BK101.out 1
     have hfz7_2 := bf_ BK101.out 2
     go_wp2_with (first | ((with_reducible refine gate_callee (f := 36) rfl ?_); refine gl_ 8 Try.func36 #[.agg #[.int .i64 a0_0, .int .i64 a0_1]] ?_; (with_reducible refine (spec_CountCells.calls a0_0 a0_1 t102 _ A4.out).mono ?_); rintro e w8 ⟨rfl, hb⟩; refine ⟨_, rfl, ?_⟩; have n0_ := A_ (blk_below BK101.out hb); have n1_ := A_ (bs_ HB.1 hb); clear BK101 HB; have BK101 := n0_; have HB := n1_; clear n0_ n1_; (try clear hb); (try clear hk); obtain ⟨hcz9_0, hcz9_1, hcz9_2⟩ := kk3_ BK101.1; have hfz9_0 := bf_ BK101.out 0; have hfz9_1 := bf_ BK101.out 1; have hfz9_2 := bf_ BK101.out 2) | (go_at_call 66; (with_reducible refine (spec_MazeOk.calls a0_0 a0_1 a0_2 t103 _ A6.out).mono ?_); rintro e w10 ⟨rfl, hb⟩; have n0_ := A_ (blk_below BK101.out hb); have n1_ := A_ (bs_ HB.1 hb); clear BK101 HB; have BK101 := n0_; have HB := n1_; clear n0_ n1_; (try clear hb); (try clear hk)))
     go_meet
     case rel => exact ⟨_, (t103), (by rfl), H', ⟨by have := HK1.out; omega⟩, ⟨by exact BK101.out⟩, ⟨by repeat ((with_reducible exact HB.out))⟩⟩
    ·rw [if_neg c5] at H
     have c5b0 : decide (x4_1 < t102) = false := decide_eq_false c5
     clear c5
     (skip)
     have H' := A_ H
     clear H
     obtain ⟨hcz11_0, hcz11_1, hcz11_2⟩ := kk3_ BK101.1
     have hfz11_0 := bf_ BK101.out 0
     have hfz11_1 := bf_ BK101.out 1
     have hfz11_2 := bf_ BK101.out 2
     go_wp2_with (((with_reducible refine gate_callee (f := 36) rfl ?_); refine gl_ 8 Try.func36 #[.agg #[.int .i64 a0_0, .int .i64 a0_1]] ?_; (with_reducible refine (spec_CountCells.calls a0_0 a0_1 t102 _ A4.out).mono ?_); rintro e w12 ⟨rfl, hb⟩; refine ⟨_, rfl, ?_⟩; have n0_ := A_ (blk_below BK101.out hb); have n1_ := A_ (bs_ HB.1 hb); clear BK101 HB; have BK101 := n0_; have HB := n1_; clear n0_ n1_; (try clear hb); (try clear hk)))
     go_meet
     case rel => exact ⟨_, (false), (by rfl), H', ⟨by have := HK1.out; omega⟩, ⟨by exact BK101.out⟩, ⟨by repeat ((with_reducible exact HB.out))⟩⟩
   case rest =>
    clear HC3; try clear c1; try clear p2; try clear c3; try clear c5; try clear c5b0; try clear c12; try clear hcz11_0; try clear hcz11_1; try clear hcz11_2; try clear hcz7_0; try clear hcz7_1; try clear hcz7_2; try clear hcz9_0; try clear hcz9_1; try clear hcz9_2; try clear hfz11_0; try clear hfz11_1; try clear hfz11_2; try clear hfz7_0; try clear hfz7_1; try clear hfz7_2; try clear hfz9_0; try clear hfz9_1; try clear hfz9_2; try clear p2
    obtain ⟨kq, x13_2, rfl, HA, HJ2, BK101, HB⟩ := hcut
    cases kq with
    | zero => exact absurd HA.out (by simp [spec_CountParts.j1])
    | succ kj2 =>
     have H := HA.out
     clear HA
     simp only [spec_CountParts.j1] at H
     by_cases c13 : x13_2 = true
     ·subst c13
      rw [if_pos rfl] at H
      obtain ⟨t104, A140, H⟩ := oB_ H
      (try dsimp only at H); have A14 := A_ A140; clear A140
      replace H := iN_ H; obtain ⟨c15, H⟩ := H
      have c15b0 : decide (0 < (t104.length : Int)) = true := decide_eq_true c15
      have c15b1 : decide (0 < t104.length) = true := decide_eq_true (by omega)
      clear c15
      by_cases c16 : (rd t104 0) = x4_1
      ·rw [if_pos c16] at H
       have c16b0 : ((rd t104 0) == x4_1) = true := beq_iff_eq.mpr c16
       have c16b1 : ((rd t104 0) != x4_1) = false := bne_eq_false_iff_eq.mpr c16
       clear c16
       have H' := A_ H
       clear H
       obtain ⟨hcz17_0, hcz17_1, hcz17_2⟩ := kk3_ BK101.1
       have hfz17_0 := bf_ BK101.out 0
       have hfz17_1 := bf_ BK101.out 1
       have hfz17_2 := bf_ BK101.out 2
       go_wp2_with (((with_reducible refine gate_callee (f := 128) rfl ?_); refine gl_ 18 Try.func128 #[.agg #[.int .i64 a0_0, .int .i64 a0_1, .int .i64 a0_2], .int .i64 x4_1] ?_; (with_reducible refine (spec_Reached.calls kj2 a0_0 a0_1 a0_2 x4_1 t104 _ A14.out).mono ?_); rintro e w18 ⟨v105, rfl, ho0, hb⟩; refine ⟨_, rfl, ?_⟩; have n0_ := A_ (Kd.R_lower ho0 (below_size HB.out)); have n1_ := A_ (blk_below BK101.out hb); have n2_ := A_ (bs_ HB.1 hb); clear BK101 HB; have HO106 := n0_; have BK101 := n1_; have HB := n2_; clear n0_ n1_ n2_; (try clear hb); (try clear hk); (try clear ho0); obtain ⟨Ao19, co19, eo19⟩ := Kd.R_slice HO106.out; subst eo19; have p107 : 0 ≤ (0 : Int) := (by omega); have q107 : 0 < (t104.length : Int) := oD_; obtain ⟨ad107, e107, hx107_0⟩ := Kd.at_int (Kd.R_reads' HO106.out).2.2 0 p107 q107; cases e107; have qi107 : (0 < t104.length) = True := eq_true (by omega); (try rw [show ((0 : Int)).toNat = 0 from rfl] at hx107_0); (try rw [Addr.add_zero'] at hx107_0); replace p107 := eq_true p107; replace q107 := eq_true q107))
       go_roundg kj2
       case measure => have := HK1.out; have := HJ2.out; omega
       case rel => exact ⟨(wrap64 (x3_1 + 1)), (wrap64 (x4_1 + 1)), (by rfl), (by rfl), H', ⟨by have := HK1.out; have := HJ2.out; omega⟩, ⟨by exact BK101.out⟩, ⟨by repeat ((with_reducible exact HB.out))⟩⟩
      ·rw [if_neg c16] at H
       have c16b0 : ((rd t104 0) == x4_1) = false := beq_eq_false_iff_ne.mpr c16
       have c16b1 : ((rd t104 0) != x4_1) = true := bne_iff_ne.mpr c16
       have H' := A_ H
       clear H
       obtain ⟨hcz20_0, hcz20_1, hcz20_2⟩ := kk3_ BK101.1
       have hfz20_0 := bf_ BK101.out 0
       have hfz20_1 := bf_ BK101.out 1
       have hfz20_2 := bf_ BK101.out 2
       go_wp2_with (((with_reducible refine gate_callee (f := 128) rfl ?_); refine gl_ 18 Try.func128 #[.agg #[.int .i64 a0_0, .int .i64 a0_1, .int .i64 a0_2], .int .i64 x4_1] ?_; (with_reducible refine (spec_Reached.calls kj2 a0_0 a0_1 a0_2 x4_1 t104 _ A14.out).mono ?_); rintro e w21 ⟨v105, rfl, ho0, hb⟩; refine ⟨_, rfl, ?_⟩; have n0_ := A_ (Kd.R_lower ho0 (below_size HB.out)); have n1_ := A_ (blk_below BK101.out hb); have n2_ := A_ (bs_ HB.1 hb); clear BK101 HB; have HO106 := n0_; have BK101 := n1_; have HB := n2_; clear n0_ n1_ n2_; (try clear hb); (try clear hk); (try clear ho0); obtain ⟨Ao22, co22, eo22⟩ := Kd.R_slice HO106.out; subst eo22; have p107 : 0 ≤ (0 : Int) := (by omega); have q107 : 0 < (t104.length : Int) := oD_; obtain ⟨ad107, e107, hx107_0⟩ := Kd.at_int (Kd.R_reads' HO106.out).2.2 0 p107 q107; cases e107; have qi107 : (0 < t104.length) = True := eq_true (by omega); (try rw [show ((0 : Int)).toNat = 0 from rfl] at hx107_0); (try rw [Addr.add_zero'] at hx107_0); replace p107 := eq_true p107; replace q107 := eq_true q107))
       go_roundg kj2
       case measure => have := HK1.out; have := HJ2.out; omega
       case rel => exact ⟨(x3_1), (wrap64 (x4_1 + 1)), (by rfl), (by rfl), H', ⟨by have := HK1.out; have := HJ2.out; omega⟩, ⟨by exact BK101.out⟩, ⟨by repeat ((with_reducible exact HB.out))⟩⟩
     ·replace c13 := Bool.eq_false_iff.mpr c13
      subst c13
      have H1 : (some x3_1) = some r := by rw [if_neg (show ¬ (false = true) by decide)] at H; exact H
      clear H
      have H := H1
      clear H1
      obtain rfl := Option.some.inj H
      go_wp2
      go_ret
      exact ⟨by rfl, by repeat ((with_reducible exact HB.out))⟩

end Go.Proofs.Ytoohcdfokejkdaa.P
namespace Go.Proofs.Ytoohcdfokejkdaa.P
open Go.RowKit Go.Proofs.YtoohcdfokejkdaaW.PrintWords Go.Proofs.YtoohcdfokejkdaaW.PrintLast Go.Proofs.YtoohcdfokejkdaaW.PrintMore
attribute [local go_sem] max2_int min2_int max_two min_two max_three min_three max_four min_four   -- for this text's walks alone
set_option linter.unusedVariables false
set_option linter.unusedSimpArgs false

def spec_IsConnected.f (k : Nat) (a0_0 : Int) (a0_1 : Int) (a0_2 : Int) : Option (Bool) := (spec_CountParts.f k a0_0 a0_1 a0_2).bind fun t102 => (some (t102 == 1))
set_option maxHeartbeats 8000000 in
set_option maxRecDepth 100000 in
theorem spec_IsConnected.calls (k : Nat) (a0_0 : Int) (a0_1 : Int) (a0_2 : Int) (r : Bool) (w : World) (h : spec_IsConnected.f k a0_0 a0_1 a0_2 = some r) :
  Calls Try.prog 117 #[.agg #[.int .i64 a0_0, .int .i64 a0_1, .int .i64 a0_2]] w fun e w' => e = .returned (.bool r) ∧ Below w.heap.size w w' := by
 have hu42 := Try.underlying42
 have HB := A_ (Below.refl w.heap.size w)
 have H : ((spec_CountParts.f k a0_0 a0_1 a0_2).bind fun t102 => (some (t102 == 1))) = some r := h
 clear h
 obtain ⟨t102, A20, H⟩ := oB_ H
 (try dsimp only at H); have A2 := A_ A20; clear A20
 obtain rfl := Option.some.inj H
 go_enter Try.func117, Try.ntmps117
 go_wp2_with (first | ((with_reducible refine gate_dst (N := 1) rfl ?_); refine be_ 1 #[.int .i64 a0_0, .int .i64 a0_1, .int .i64 a0_2] 42 ?_; intro gb101 hg w3 hbox hb; have n0_ := A_ (bs_ HB.1 hb); have n1_ := A_ (hbox); have n2_ := A_ (bS_ HB.out hg); have n3_ := A_ (bS_ HB.out hg); clear HB; have HB := n0_; have BK101 := n1_; have GW101 := n2_; have GE101 := n3_; clear n0_ n1_ n2_ n3_ hb hbox hg; obtain ⟨hcz4_0, hcz4_1, hcz4_2⟩ := kk3_ BK101.1; have hfz4_0 := bf_ BK101.out 0; have hfz4_1 := bf_ BK101.out 1; have hfz4_2 := bf_ BK101.out 2) | ((with_reducible refine gate_callee (f := 126) rfl ?_); refine gl_ 4 Try.func126 #[.agg #[.int .i64 a0_0, .int .i64 a0_1, .int .i64 a0_2]] ?_; (with_reducible refine (spec_CountParts.calls k a0_0 a0_1 a0_2 t102 _ A2.out).mono ?_); rintro e w5 ⟨rfl, hb⟩; refine ⟨_, rfl, ?_⟩; have n0_ := A_ (blk_below BK101.out hb); have n1_ := A_ (bs_ HB.1 hb); clear BK101 HB; have BK101 := n0_; have HB := n1_; clear n0_ n1_; (try clear hb); (try clear hk)))
 go_ret
 exact ⟨by rfl, by repeat ((with_reducible exact HB.out))⟩

def spec_IsPerfect.f (k : Nat) (a0_0 : Int) (a0_1 : Int) (a0_2 : Int) : Option (Bool) := (spec_IsConnected.f k a0_0 a0_1 a0_2).bind fun t102 => (if t102 = true then ((spec_CountPassages.f k a0_0 a0_1 a0_2).bind fun t103 => ((spec_CountCells.f a0_0 a0_1).bind fun t104 => (some (t103 == (wrap64 (t104 - 1)))))) else (some false))
def spec_IsPerfect.T1 : Bool × List (List Nat × List Nat) := (true, [([], []), ([0], [0]), ([1, 1], [1]), ([2], [2]), ([3, 2, 2], [2, 3]), ([2], [2]), ([5, 2], [2, 5]), ([6, 4, 2], [2, 6]), ([7, 2], [2, 7]), ([4, 8, 2], [2, 4, 8]), ([2, 9], [2, 9]), ([10, 7, 0, 1, 2, 3, 4, 5, 6, 7, 8, 9, 10], [10])])
def spec_IsPerfect.B1 : List Nat := [0, 1, 3, 7, 15, 7, 39, 127, 255, 511, 1023, 2047]
theorem spec_IsPerfect.tab1 : rtab .any (opsOf Try.f96 1) = spec_IsPerfect.T1 := by kernel_rfl
theorem spec_IsPerfect.bits1 : waitsOk spec_IsPerfect.T1.2 spec_IsPerfect.B1 = true := by kernel_rfl
set_option maxHeartbeats 8000000 in
set_option maxRecDepth 100000 in
theorem spec_IsPerfect.calls (k : Nat) (a0_0 : Int) (a0_1 : Int) (a0_2 : Int) (r : Bool) (w : World) (h : spec_IsPerfect.f k a0_0 a0_1 a0_2 = some r) :
  Calls Try.prog 96 #[.agg #[.int .i64 a0_0, .int .i64 a0_1, .int .i64 a0_2]] w fun e w' => e = .returned (.bool r) ∧ Below w.heap.size w w' := by
 have hu42 := Try.underlying42
 have hu40 := Try.underlying40
 have HB := A_ (Below.refl w.heap.size w)
 have H : ((spec_IsConnected.f k a0_0 a0_1 a0_2).bind fun t102 => (if t102 = true then ((spec_CountPassages.f k a0_0 a0_1 a0_2).bind fun t103 => ((spec_CountCells.f a0_0 a0_1).bind fun t104 => (some (t103 == (wrap64 (t104 - 1)))))) else (some false))) = some r := h
 clear h
 obtain ⟨t102, A20, H⟩ := oB_ H
 (try dsimp only at H); have A2 := A_ A20; clear A20
 by_cases c3 : t102 = true
 ·subst c3
  rw [if_pos rfl] at H
  obtain ⟨t103, A40, H⟩ := oB_ H
  (try dsimp only at H); have A4 := A_ A40; clear A40
  obtain ⟨t104, A50, H⟩ := oB_ H
  (try dsimp only at H); have A5 := A_ A50; clear A50
  obtain rfl := Option.some.inj H
  go_enter Try.func96, Try.ntmps96
  try go_wp2_with (((with_reducible refine gate_dst (N := 1) rfl ?_); refine be_ 1 #[.int .i64 a0_0, .int .i64 a0_1, .int .i64 a0_2] 42 ?_; intro gb101 hg w6 hbox hb; have n0_ := A_ (bs_ HB.1 hb); have n1_ := A_ (hbox); have n2_ := A_ (bS_ HB.out hg); have n3_ := A_ (bS_ HB.out hg); clear HB; have HB := n0_; have BK101 := n1_; have GW101 := n2_; have GE101 := n3_; clear n0_ n1_ n2_ n3_ hb hbox hg)); have n0_ := A_ (blk_drew BK101.out); have n1_ := A_ (below_drew1 HB.out); clear BK101 HB; have BK101 := n0_; have HB := n1_; clear n0_ n1_
  refine start_ (n := 12) (S := fun w' => w'.cell? ⟨gb101, 0, none⟩ = some (.int .i64 a0_0) ∧ w'.cell? ⟨gb101, 1, none⟩ = some (.int .i64 a0_1) ∧ w'.cell? ⟨gb101, 2, none⟩ = some (.int .i64 a0_2)) (ds := []) #[false, false, false, false, false, false, false, false, false, false, false, false] (by kernel_rfl) rfl rfl ⟨(blk_cell BK101.out 0).trans rfl, (blk_cell BK101.out 1).trans rfl, (blk_cell BK101.out 2).trans rfl⟩ (fun hHeld => ?_); refine with_tabW spec_IsPerfect.tab1 spec_IsPerfect.bits1 (fun HT_ HW_ => ?_)
  generalize w6.drew = w7 at BK101 HB hHeld ⊢; refine tv_ 0 3 rfl HT_ HW_ hHeld (by rintro w' ⟨s0, s1, s2⟩; go_simp; with_reducible rfl) ?_
  refine on_ 1 (some 4) rfl rfl HT_ (by kernel_rfl) (by decide) (fun K hK => ?_)
  refine gs_ Try.func117 #[.agg #[.int .i64 a0_0, .int .i64 a0_1, .int .i64 a0_2]] ?_
  with_reducible refine (spec_IsConnected.calls k a0_0 a0_1 a0_2 true _ A2.out).mono ?_
  rintro e w8 ⟨rfl, hb⟩
  refine ⟨_, rfl, ?_⟩
  have n0_ := A_ (blk_below BK101.out hb)
  have n1_ := A_ (bs_ HB.1 hb)
  clear BK101 HB; have BK101 := n0_; have HB := n1_; clear n0_ n1_; (try clear hb); (try clear hk)
  refine hK.out _ _ ⟨(blk_cell BK101.out 0).trans rfl, (blk_cell BK101.out 1).trans rfl, (blk_cell BK101.out 2).trans rfl⟩ (fun hHeld => ?_)
  clear hK K
  refine norm_ (a' := ?_) ?_ ?_; rotate_left; (show Act.put _ (some 4) _ = _; simp only [P6_]; rfl)
  refine pv_ 2 5 HT_ ?_; refine pv_ 5 8 HT_ ?_; refine tv_ 3 6 rfl HT_ HW_ hHeld (by rintro w' ⟨s0, s1, s2⟩; go_simp; with_reducible rfl) ?_
  refine tv_ 6 9 rfl HT_ HW_ hHeld (by rintro w' ⟨s0, s1, s2⟩; go_simp; with_reducible rfl) ?_
  refine on_ 4 (some 7) rfl rfl HT_ (by kernel_rfl) (by decide) (fun K hK => ?_)
  refine gs_ Try.func114 #[.agg #[.int .i64 a0_0, .int .i64 a0_1, .int .i64 a0_2]] ?_
  with_reducible refine (spec_CountPassages.calls k a0_0 a0_1 a0_2 t103 _ A4.out).mono ?_
  rintro e w9 ⟨rfl, hb⟩
  refine ⟨_, rfl, ?_⟩
  have n0_ := A_ (blk_below BK101.out hb)
  have n1_ := A_ (bs_ HB.1 hb)
  clear BK101 HB; have BK101 := n0_; have HB := n1_; clear n0_ n1_; (try clear hb); (try clear hk)
  refine hK.out _ _ ⟨(blk_cell BK101.out 0).trans rfl, (blk_cell BK101.out 1).trans rfl, (blk_cell BK101.out 2).trans rfl⟩ (fun hHeld => ?_)
  clear hK K
  refine norm_ (a' := ?_) ?_ ?_; rotate_left; (show Act.put _ (some 7) _ = _; simp only [P6_]; rfl)
  refine on_ 7 (some 10) rfl rfl HT_ (by kernel_rfl) (by decide) (fun K hK => ?_)
  refine gs_ Try.func36 #[.agg #[.int .i64 a0_0, .int .i64 a0_1]] ?_
  with_reducible refine (spec_CountCells.calls a0_0 a0_1 t104 _ A5.out).mono ?_
  rintro e w10 ⟨rfl, hb⟩
  refine ⟨_, rfl, ?_⟩
  have n0_ := A_ (blk_below BK101.out hb)
  have n1_ := A_ (bs_ HB.1 hb)
  clear BK101 HB; have BK101 := n0_; have HB := n1_; clear n0_ n1_; (try clear hb); (try clear hk)
  refine hK.out _ _ ⟨(blk_cell BK101.out 0).trans rfl, (blk_cell BK101.out 1).trans rfl, (blk_cell BK101.out 2).trans rfl⟩ (fun hHeld => ?_)
  clear hK K
  refine norm_ (a' := ?_) ?_ ?_; rotate_left; (show Act.put _ (some 10) _ = _; simp only [P6_]; rfl)
  refine pv_ 8 11 HT_ ?_; refine pv_ 9 12 HT_ ?_; refine pv_ 10 13 HT_ ?_; refine pv_ 11 2 HT_ ?_
  refine done_ (done_of HT_.out (by kernel_rfl)) ?_
  try go_wp2
  go_ret
  exact ⟨by rfl, by repeat ((with_reducible exact HB.out))⟩
 ·replace c3 := Bool.eq_false_iff.mpr c3
  subst c3
  have H1 : (some false) = some r := by rw [if_neg (show ¬ (false = true) by decide)] at H; exact H
  clear H
  have H := H1
  clear H1
  obtain rfl := Option.some.inj H
  go_enter Try.func96, Try.ntmps96
  try go_wp2_with (((with_reducible refine gate_dst (N := 1) rfl ?_); refine be_ 1 #[.int .i64 a0_0, .int .i64 a0_1, .int .i64 a0_2] 42 ?_; intro gb101 hg w11 hbox hb; have n0_ := A_ (bs_ HB.1 hb); have n1_ := A_ (hbox); have n2_ := A_ (bS_ HB.out hg); have n3_ := A_ (bS_ HB.out hg); clear HB; have HB := n0_; have BK101 := n1_; have GW101 := n2_; have GE101 := n3_; clear n0_ n1_ n2_ n3_ hb hbox hg)); have n0_ := A_ (blk_drew BK101.out); have n1_ := A_ (below_drew1 HB.out); clear BK101 HB; have BK101 := n0_; have HB := n1_; clear n0_ n1_
  refine start_ (n := 12) (S := fun w' => w'.cell? ⟨gb101, 0, none⟩ = some (.int .i64 a0_0) ∧ w'.cell? ⟨gb101, 1, none⟩ = some (.int .i64 a0_1) ∧ w'.cell? ⟨gb101, 2, none⟩ = some (.int .i64 a0_2)) (ds := []) #[false, false, false, false, false, false, false, false, false, false, false, false] (by kernel_rfl) rfl rfl ⟨(blk_cell BK101.out 0).trans rfl, (blk_cell BK101.out 1).trans rfl, (blk_cell BK101.out 2).trans rfl⟩ (fun hHeld => ?_); refine with_tabW spec_IsPerfect.tab1 spec_IsPerfect.bits1 (fun HT_ HW_ => ?_)
  generalize w11.drew = w12 at BK101 HB hHeld ⊢; refine tv_ 0 3 rfl HT_ HW_ hHeld (by rintro w' ⟨s0, s1, s2⟩; go_simp; with_reducible rfl) ?_
  refine on_ 1 (some 4) rfl rfl HT_ (by kernel_rfl) (by decide) (fun K hK => ?_)
  refine gs_ Try.func117 #[.agg #[.int .i64 a0_0, .int .i64 a0_1, .int .i64 a0_2]] ?_
  with_reducible refine (spec_IsConnected.calls k a0_0 a0_1 a0_2 false _ A2.out).mono ?_
  rintro e w13 ⟨rfl, hb⟩
  refine ⟨_, rfl, ?_⟩
  have n0_ := A_ (blk_below BK101.out hb)
  have n1_ := A_ (bs_ HB.1 hb)
  clear BK101 HB; have BK101 := n0_; have HB := n1_; clear n0_ n1_; (try clear hb); (try clear hk)
  refine hK.out _ _ ⟨(blk_cell BK101.out 0).trans rfl, (blk_cell BK101.out 1).trans rfl, (blk_cell BK101.out 2).trans rfl⟩ (fun hHeld => ?_)
  clear hK K
  refine norm_ (a' := ?_) ?_ ?_; rotate_left; (show Act.put _ (some 4) _ = _; simp only [P6_]; rfl)
  refine pv_ 2 5 HT_ ?_; refine pw_ 3 6 HT_ ?_; refine pw_ 4 7 HT_ ?_; refine pw_ 5 8 HT_ ?_; refine pw_ 6 9 HT_ ?_; refine pw_ 7 10 HT_ ?_; refine pw_ 8 11 HT_ ?_; refine pw_ 9 12 HT_ ?_; refine pv_ 10 13 HT_ ?_; refine pv_ 11 2 HT_ ?_
  refine done_ (done_of HT_.out (by kernel_rfl)) ?_
  try go_wp2
  go_ret
  exact ⟨by rfl, by repeat ((with_reducible exact HB.out))⟩

def spec_NumberOf.l0 : Nat → Int → Int → Int → Int → Int → Int → Int → Option (Int)
 | 0, _, _, _, _, _, _, _ => none
 | k + 1, x3, x4, x5, x6, x102000, x102001, x102002 => (spec_CountGaps.f x102000 x102001).bind fun t103 => (if x6 < t103 then ((spec_l03Bit.f x102002 x6).bind fun t104 => (if t104 = true then (if 0 ≤ x6 then ((spec_CountFixed.f k x102000 x102001 x4 (Go.bits .or .i64 x5 (shl .i64 1 x6))).bind fun t105 => (spec_NumberOf.l0 k (wrap64 (x3 + t105)) (Go.bits .or .i64 x4 (shl .i64 1 x6)) x5 (wrap64 (x6 + 1)) x102000 x102001 x102002)) else (none)) else (if 0 ≤ x6 then (spec_NumberOf.l0 k x3 x4 (Go.bits .or .i64 x5 (shl .i64 1 x6)) (wrap64 (x6 + 1)) x102000 x102001 x102002) else (none)))) else (some x3))
def spec_NumberOf.f (k : Nat) (a0_0 : Int) (a0_1 : Int) (a0_2 : Int) : Option (Int) := (spec_IsPerfect.f k a0_0 a0_1 a0_2).bind fun t102 => (if t102 = true then (spec_NumberOf.l0 k 0 0 0 0 a0_0 a0_1 a0_2) else (some (-1)))
def spec_NumberOf.T10 : Bool × List (List Nat × List Nat) := (true, [([], []), ([], []), ([1], [1]), ([], []), ([], []), ([], []), ([5], [5]), ([4, 6], [4, 6]), ([2, 3, 7], [2, 3, 7]), ([0, 8], [0, 8]), ([9, 8, 0, 1, 2, 3, 4, 5, 6, 7, 8, 9], [0, 9])])
def spec_NumberOf.B10 : List Nat := [0, 0, 2, 0, 0, 0, 32, 112, 254, 511, 1023]
theorem spec_NumberOf.tab10 : rtab .any (opsOf Try.f53 10) = spec_NumberOf.T10 := by kernel_rfl
theorem spec_NumberOf.bits10 : waitsOk spec_NumberOf.T10.2 spec_NumberOf.B10 = true := by kernel_rfl
set_option maxHeartbeats 8000000 in
set_option maxRecDepth 100000 in
theorem spec_NumberOf.calls (k : Nat) (a0_0 : Int) (a0_1 : Int) (a0_2 : Int) (r : Int) (w : World) (h : spec_NumberOf.f k a0_0 a0_1 a0_2 = some r) :
  Calls Try.prog 53 #[.agg #[.int .i64 a0_0, .int .i64 a0_1, .int .i64 a0_2]] w fun e w' => e = .returned (.int .i64 r) ∧ Below w.heap.size w w' := by
 have hu42 := Try.underlying42
 have hu40 := Try.underlying40
 have HB := A_ (Below.refl w.heap.size w)
 have H : ((spec_IsPerfect.f k a0_0 a0_1 a0_2).bind fun t102 => (if t102 = true then (spec_NumberOf.l0 k 0 0 0 0 a0_0 a0_1 a0_2) else (some (-1)))) = some r := h
 clear h
 obtain ⟨t102, A20, H⟩ := oB_ H
 (try dsimp only at H); have A2 := A_ A20; clear A20
 by_cases c3 : t102 = true
 ·subst c3
  rw [if_pos rfl] at H
  have H' := A_ H
  clear H
  go_enter Try.func53, Try.ntmps53
  go_wp2_with (first | ((with_reducible refine gate_dst (N := 1) rfl ?_); refine be_ 1 #[.int .i64 a0_0, .int .i64 a0_1, .int .i64 a0_2] 42 ?_; intro gb101 hg w4 hbox hb; have n0_ := A_ (bs_ HB.1 hb); have n1_ := A_ (hbox); have n2_ := A_ (bS_ HB.out hg); have n3_ := A_ (bS_ HB.out hg); clear HB; have HB := n0_; have BK101 := n1_; have GW101 := n2_; have GE101 := n3_; clear n0_ n1_ n2_ n3_ hb hbox hg; obtain ⟨hcz5_0, hcz5_1, hcz5_2⟩ := kk3_ BK101.1; have hfz5_0 := bf_ BK101.out 0; have hfz5_1 := bf_ BK101.out 1; have hfz5_2 := bf_ BK101.out 2) | ((with_reducible refine gate_callee (f := 96) rfl ?_); refine gl_ 8 Try.func96 #[.agg #[.int .i64 a0_0, .int .i64 a0_1, .int .i64 a0_2]] ?_; (with_reducible refine (spec_IsPerfect.calls k a0_0 a0_1 a0_2 true _ A2.out).mono ?_); rintro e w6 ⟨rfl, hb⟩; refine ⟨_, rfl, ?_⟩; have n0_ := A_ (blk_below BK101.out hb); have n1_ := A_ (bs_ HB.1 hb); clear BK101 HB; have BK101 := n0_; have HB := n1_; clear n0_ n1_; (try clear hb); (try clear hk)))
  go_loopg [3, 4, 5, 6] k (fun kq v3 v4 v5 v6 w' => ∃ (x3_1 : Int) (x4_1 : Int) (x5_1 : Int) (x6_1 : Int), v3 = .int .i64 x3_1 ∧ v4 = .int .i64 x4_1 ∧ v5 = .int .i64 x5_1 ∧ v6 = .int .i64 x6_1 ∧ Aside0 (spec_NumberOf.l0 kq x3_1 x4_1 x5_1 x6_1 a0_0 a0_1 a0_2 = some r) ∧ Aside0 (kq ≤ k) ∧ Aside0 (w'.heap[gb101]? = some (.cells #[.int .i64 a0_0, .int .i64 a0_1, .int .i64 a0_2] 42 (0, 0))) ∧ Aside0 (Below w.heap.size w w'))
  case atStart => exact ⟨(0), (0), (0), (0), (by rfl), (by rfl), (by rfl), (by rfl), H', ⟨Nat.le_refl _⟩, ⟨by exact BK101.out⟩, ⟨by repeat ((with_reducible exact HB.out))⟩⟩
  case round =>
   clear H'; try clear p2; try clear c3; try clear c5; try clear hcz5_0; try clear hcz5_1; try clear hcz5_2; try clear hfz5_0; try clear hfz5_1; try clear hfz5_2
   obtain ⟨x3_1, x4_1, x5_1, x6_1, rfl, rfl, rfl, rfl, HA, HK1, BK101, HB⟩ := hrel
   cases gk with
   | zero => exact absurd HA.out (by simp [spec_NumberOf.l0])
   | succ k1 =>
    have H := HA.out
    clear HA
    simp only [spec_NumberOf.l0] at H
    obtain ⟨t103, A70, H⟩ := oB_ H
    (try dsimp only at H); have A7 := A_ A70; clear A70
    by_cases c8 : x6_1 < t103
    ·rw [if_pos c8] at H
     have c8b0 : decide (x6_1 < t103) = true := decide_eq_true c8
     clear c8
     obtain ⟨t104, A90, H⟩ := oB_ H
     (try dsimp only at H); have A9 := A_ A90; clear A90
     by_cases c10 : t104 = true
     ·subst c10
      rw [if_pos rfl] at H
      replace H := iN_ H; obtain ⟨c11, H⟩ := H
      have c11b0 := eq_true c11
      have c11b1 : decide (0 ≤ x6_1) = true := decide_eq_true c11
      clear c11
      obtain ⟨ji12, hji12⟩ : ∃ j_ : Int, (shl .i64 1 x6_1) = j_ := ⟨_, rfl⟩
      replace H : ((spec_CountFixed.f k1 a0_0 a0_1 x4_1 (Go.bits .or .i64 x5_1 (ji12))).bind fun t105 => (spec_NumberOf.l0 k1 (wrap64 (x3_1 + t105)) (Go.bits .or .i64 x4_1 (ji12)) x5_1 (wrap64 (x6_1 + 1)) a0_0 a0_1 a0_2)) = some r := by (rw [hji12] at H; exact H)
      (try rw [hji12] at A7)
      (try rw [hji12] at A9)
      have hji12_ : (IntKind.i64.wrap (1 * 2 ^ min x6_1.toNat 64)) = ji12 := hji12
      have hji12z : x6_1 ≤ 64 → (IntKind.i64.wrap (1 * 2 ^ x6_1.toNat)) = ji12 := shl_small hji12
      have hji12u : (IntKind.i64.wrap (2 ^ min x6_1.toNat 64)) = ji12 := by have h_ := hji12_; rw [Int.one_mul] at h_; exact h_
      have hji12v : x6_1 ≤ 64 → (IntKind.i64.wrap (2 ^ x6_1.toNat)) = ji12 := fun hle_ => by have h_ := hji12z hle_; rw [Int.one_mul] at h_; exact h_
      have hji12y : (wrap64 (1 * 2 ^ min x6_1.toNat 64)) = ji12 := (i64_w _).symm.trans hji12_
      have hji12x : x6_1 ≤ 64 → (wrap64 (1 * 2 ^ x6_1.toNat)) = ji12 := fun h_ => (i64_w _).symm.trans (hji12z h_)
      obtain ⟨t105, A130, H⟩ := oB_ H
      (try dsimp only at H); have A13 := A_ A130; clear A130
      have c14b0 := eq_true (oD_ : 0 ≤ x6_1)
      have H' := A_ H
      clear H
      obtain ⟨hcz15_0, hcz15_1, hcz15_2⟩ := kk3_ BK101.1
      have hfz15_0 := bf_ BK101.out 0
      have hfz15_1 := bf_ BK101.out 1
      have hfz15_2 := bf_ BK101.out 2
      try go_wp2_with (first | ((with_reducible refine gate_callee (f := 32) rfl ?_); refine gl_ 13 Try.func32 #[.agg #[.int .i64 a0_0, .int .i64 a0_1]] ?_; (with_reducible refine (spec_CountGaps.calls a0_0 a0_1 t103 _ A7.out).mono ?_); rintro e w16 ⟨rfl, hb⟩; refine ⟨_, rfl, ?_⟩; have n0_ := A_ (blk_below BK101.out hb); have n1_ := A_ (bs_ HB.1 hb); clear BK101 HB; have BK101 := n0_; have HB := n1_; clear n0_ n1_; (try clear hb); (try clear hk); obtain ⟨hcz17_0, hcz17_1, hcz17_2⟩ := kk3_ BK101.1; have hfz17_0 := bf_ BK101.out 0; have hfz17_1 := bf_ BK101.out 1; have hfz17_2 := bf_ BK101.out 2) | ((with_reducible refine gate_callee (f := 83) rfl ?_); refine gl_ 20 Try.func83 #[.int .i64 a0_2, .int .i64 x6_1] ?_; (with_reducible refine (spec_l03Bit.calls a0_2 x6_1 true _ A9.out).mono ?_); rintro e w' ⟨rfl, ⟨nd, rfl⟩⟩; refine ⟨_, rfl, ?_⟩))
      (try (rw [drewN_self w16]; generalize hq_ : World.drewN w16 _ = w16; have n0_ : Aside0 (w16.heap[gb101]? = some (.cells #[.int .i64 a0_0, .int .i64 a0_1, .int .i64 a0_2] 42 (0, 0))) := ⟨by rw [← hq_]; exact (by (with_reducible repeat (refine blk_drewN ?_ _)); exact BK101.out)⟩; have n1_ : Aside0 (Below w.heap.size w w16) := ⟨by rw [← hq_]; exact (by repeat ((with_reducible first | exact HB.out | apply pw_below_drewN)))⟩; clear BK101 HB hq_; have BK101 := n0_; have HB := n1_; clear n0_ n1_))
      (try have hcz17_0 : w16.cell? ⟨gb101, 0, none⟩ = some (.int .i64 a0_0) := (blk_cell BK101.out 0).trans rfl)
      (try have hcz17_1 : w16.cell? ⟨gb101, 1, none⟩ = some (.int .i64 a0_1) := (blk_cell BK101.out 1).trans rfl)
      (try have hcz17_2 : w16.cell? ⟨gb101, 2, none⟩ = some (.int .i64 a0_2) := (blk_cell BK101.out 2).trans rfl)
      (try have hfz17_0 := bf_ BK101.out 0)
      (try have hfz17_1 := bf_ BK101.out 1)
      (try have hfz17_2 := bf_ BK101.out 2)
      have n0_ := A_ (blk_drew BK101.out); have n1_ := A_ (below_drew1 HB.out); clear BK101 HB; have BK101 := n0_; have HB := n1_; clear n0_ n1_
      refine start_ (n := 11) (S := fun w' => w'.cell? ⟨gb101, 0, none⟩ = some (.int .i64 a0_0) ∧ w'.cell? ⟨gb101, 1, none⟩ = some (.int .i64 a0_1) ∧ w'.cell? ⟨gb101, 2, none⟩ = some (.int .i64 a0_2)) (ds := []) #[false, false, false, false, false, false, false, false, false, false, false] (by kernel_rfl) rfl rfl ⟨(blk_cell BK101.out 0).trans rfl, (blk_cell BK101.out 1).trans rfl, (blk_cell BK101.out 2).trans rfl⟩ (fun hHeld => ?_); refine with_tabW spec_NumberOf.tab10 spec_NumberOf.bits10 (fun HT_ HW_ => ?_)
      generalize w16.drew = w18 at BK101 HB hHeld ⊢; refine pv_ 0 21 HT_ ?_; refine pv_ 1 22 HT_ ?_; refine pv_ 3 24 HT_ ?_; refine pv_ 4 25 HT_ ?_; refine pv_ 5 26 HT_ ?_; refine pv_ 6 27 HT_ ?_; refine pv_ 7 28 HT_ ?_; refine tv_ 2 23 rfl HT_ HW_ hHeld (by rintro w' ⟨s0, s1, s2⟩; go_simp; with_reducible rfl) ?_
      refine on_ 8 (some 29) rfl rfl HT_ (by kernel_rfl) (by decide) (fun K hK => ?_)
      refine gs_ Try.func37 #[.agg #[.int .i64 a0_0, .int .i64 a0_1], .int .i64 x4_1, .int .i64 (Go.bits .or .i64 x5_1 (ji12))] ?_
      with_reducible refine (spec_CountFixed.calls k1 a0_0 a0_1 x4_1 (Go.bits .or .i64 x5_1 (ji12)) t105 _ A13.out).mono ?_
      rintro e w19 ⟨rfl, hb⟩
      refine ⟨_, rfl, ?_⟩
      have n0_ := A_ (blk_below BK101.out hb)
      have n1_ := A_ (bs_ HB.1 hb)
      clear BK101 HB; have BK101 := n0_; have HB := n1_; clear n0_ n1_; (try clear hb); (try clear hk)
      refine hK.out _ _ ⟨(blk_cell BK101.out 0).trans rfl, (blk_cell BK101.out 1).trans rfl, (blk_cell BK101.out 2).trans rfl⟩ (fun hHeld => ?_)
      clear hK K
      refine norm_ (a' := ?_) ?_ ?_; rotate_left; (show Act.put _ (some 29) _ = _; simp only [P6_]; rfl)
      refine pv_ 9 30 HT_ ?_; refine pv_ 10 3 HT_ ?_
      refine done_ (done_of HT_.out (by kernel_rfl)) ?_
      try go_wp2
      go_roundg k1
      case measure => have := HK1.out; omega
      case rel => exact ⟨(wrap64 (x3_1 + t105)), (Go.bits .or .i64 x4_1 (ji12)), (x5_1), (wrap64 (x6_1 + 1)), (by rfl), (by rfl), (by rfl), (by rfl), H', ⟨by have := HK1.out; omega⟩, ⟨by exact BK101.out⟩, ⟨by repeat ((with_reducible exact HB.out))⟩⟩
     ·replace c10 := Bool.eq_false_iff.mpr c10
      subst c10
      have H1 : (if 0 ≤ x6_1 then (spec_NumberOf.l0 k1 x3_1 x4_1 (Go.bits .or .i64 x5_1 (shl .i64 1 x6_1)) (wrap64 (x6_1 + 1)) a0_0 a0_1 a0_2) else (none)) = some r := by rw [if_neg (show ¬ (false = true) by decide)] at H; exact H
      clear H
      have H := H1
      clear H1
      replace H := iN_ H; obtain ⟨c20, H⟩ := H
      have c20b0 := eq_true c20
      have c20b1 : decide (0 ≤ x6_1) = true := decide_eq_true c20
      clear c20
      obtain ⟨ji21, hji21⟩ : ∃ j_ : Int, (shl .i64 1 x6_1) = j_ := ⟨_, rfl⟩
      replace H : (spec_NumberOf.l0 k1 x3_1 x4_1 (Go.bits .or .i64 x5_1 (ji21)) (wrap64 (x6_1 + 1)) a0_0 a0_1 a0_2) = some r := by (rw [hji21] at H; exact H)
      (try rw [hji21] at A7)
      (try rw [hji21] at A9)
      have hji21_ : (IntKind.i64.wrap (1 * 2 ^ min x6_1.toNat 64)) = ji21 := hji21
      have hji21z : x6_1 ≤ 64 → (IntKind.i64.wrap (1 * 2 ^ x6_1.toNat)) = ji21 := shl_small hji21
      have hji21u : (IntKind.i64.wrap (2 ^ min x6_1.toNat 64)) = ji21 := by have h_ := hji21_; rw [Int.one_mul] at h_; exact h_
      have hji21v : x6_1 ≤ 64 → (IntKind.i64.wrap (2 ^ x6_1.toNat)) = ji21 := fun hle_ => by have h_ := hji21z hle_; rw [Int.one_mul] at h_; exact h_
      have hji21y : (wrap64 (1 * 2 ^ min x6_1.toNat 64)) = ji21 := (i64_w _).symm.trans hji21_
      have hji21x : x6_1 ≤ 64 → (wrap64 (1 * 2 ^ x6_1.toNat)) = ji21 := fun h_ => (i64_w _).symm.trans (hji21z h_)
      have H' := A_ H
      clear H
      obtain ⟨hcz22_0, hcz22_1, hcz22_2⟩ := kk3_ BK101.1
      have hfz22_0 := bf_ BK101.out 0
      have hfz22_1 := bf_ BK101.out 1
      have hfz22_2 := bf_ BK101.out 2
      go_wp2_with (first | ((with_reducible refine gate_callee (f := 32) rfl ?_); refine gl_ 13 Try.func32 #[.agg #[.int .i64 a0_0, .int .i64 a0_1]] ?_; (with_reducible refine (spec_CountGaps.calls a0_0 a0_1 t103 _ A7.out).mono ?_); rintro e w23 ⟨rfl, hb⟩; refine ⟨_, rfl, ?_⟩; have n0_ := A_ (blk_below BK101.out hb); have n1_ := A_ (bs_ HB.1 hb); clear BK101 HB; have BK101 := n0_; have HB := n1_; clear n0_ n1_; (try clear hb); (try clear hk); obtain ⟨hcz24_0, hcz24_1, hcz24_2⟩ := kk3_ BK101.1; have hfz24_0 := bf_ BK101.out 0; have hfz24_1 := bf_ BK101.out 1; have hfz24_2 := bf_ BK101.out 2) | ((with_reducible refine gate_callee (f := 83) rfl ?_); refine gl_ 20 Try.func83 #[.int .i64 a0_2, .int .i64 x6_1] ?_; (with_reducible refine (spec_l03Bit.calls a0_2 x6_1 false _ A9.out).mono ?_); rintro e w' ⟨rfl, ⟨nd, rfl⟩⟩; refine ⟨_, rfl, ?_⟩))
      go_roundg k1
      case measure => have := HK1.out; omega
      case rel => exact ⟨(x3_1), (x4_1), (Go.bits .or .i64 x5_1 (ji21)), (wrap64 (x6_1 + 1)), (by rfl), (by rfl), (by rfl), (by rfl), H', ⟨by have := HK1.out; omega⟩, ⟨by (with_reducible repeat (refine blk_drewN ?_ _)); exact BK101.out⟩, ⟨by repeat ((with_reducible first | exact HB.out | apply pw_below_drewN))⟩⟩
    ·rw [if_neg c8] at H
     have c8b0 : decide (x6_1 < t103) = false := decide_eq_false c8
     clear c8
     obtain rfl := Option.some.inj H
     obtain ⟨hcz25_0, hcz25_1, hcz25_2⟩ := kk3_ BK101.1
     have hfz25_0 := bf_ BK101.out 0
     have hfz25_1 := bf_ BK101.out 1
     have hfz25_2 := bf_ BK101.out 2
     go_wp2_with (((with_reducible refine gate_callee (f := 32) rfl ?_); refine gl_ 13 Try.func32 #[.agg #[.int .i64 a0_0, .int .i64 a0_1]] ?_; (with_reducible refine (spec_CountGaps.calls a0_0 a0_1 t103 _ A7.out).mono ?_); rintro e w26 ⟨rfl, hb⟩; refine ⟨_, rfl, ?_⟩; have n0_ := A_ (blk_below BK101.out hb); have n1_ := A_ (bs_ HB.1 hb); clear BK101 HB; have BK101 := n0_; have HB := n1_; clear n0_ n1_; (try clear hb); (try clear hk)))
     go_ret
     exact ⟨by rfl, by repeat ((with_reducible exact HB.out))⟩
 ·replace c3 := Bool.eq_false_iff.mpr c3
  subst c3
  have H1 : (some (-1)) = some r := by rw [if_neg (show ¬ (false = true) by decide)] at H; exact H
  clear H
  have H := H1
  clear H1
  obtain rfl := Option.some.inj H
  go_enter Try.func53, Try.ntmps53
  go_wp2_with (first | ((with_reducible refine gate_dst (N := 1) rfl ?_); refine be_ 1 #[.int .i64 a0_0, .int .i64 a0_1, .int .i64 a0_2] 42 ?_; intro gb101 hg w27 hbox hb; have n0_ := A_ (bs_ HB.1 hb); have n1_ := A_ (hbox); have n2_ := A_ (bS_ HB.out hg); have n3_ := A_ (bS_ HB.out hg); clear HB; have HB := n0_; have BK101 := n1_; have GW101 := n2_; have GE101 := n3_; clear n0_ n1_ n2_ n3_ hb hbox hg; obtain ⟨hcz28_0, hcz28_1, hcz28_2⟩ := kk3_ BK101.1; have hfz28_0 := bf_ BK101.out 0; have hfz28_1 := bf_ BK101.out 1; have hfz28_2 := bf_ BK101.out 2) | ((with_reducible refine gate_callee (f := 96) rfl ?_); refine gl_ 8 Try.func96 #[.agg #[.int .i64 a0_0, .int .i64 a0_1, .int .i64 a0_2]] ?_; (with_reducible refine (spec_IsPerfect.calls k a0_0 a0_1 a0_2 false _ A2.out).mono ?_); rintro e w29 ⟨rfl, hb⟩; refine ⟨_, rfl, ?_⟩; have n0_ := A_ (blk_below BK101.out hb); have n1_ := A_ (bs_ HB.1 hb); clear BK101 HB; have BK101 := n0_; have HB := n1_; clear n0_ n1_; (try clear hb); (try clear hk)))
  go_ret
  exact ⟨by rfl, by repeat ((with_reducible exact HB.out))⟩

def spec_NextMaze.f (k : Nat) (a0_0 : Int) (a0_1 : Int) (a0_2 : Int) : Option (Int × Int × Int × Bool) := (spec_NumberOf.f k a0_0 a0_1 a0_2).bind fun t103 => (if t103 < 0 then (some (a0_0, a0_1, a0_2, false)) else ((spec_MazeAt.f k a0_0 a0_1 (wrap64 (t103 + 1))).bind fun bt104 => (if bt104.2.2.2 = true then (some (bt104.1, bt104.2.1, bt104.2.2.1, true)) else (some (a0_0, a0_1, a0_2, false)))))
set_option maxHeartbeats 8000000 in
set_option maxRecDepth 100000 in
theorem spec_NextMaze.calls (k : Nat) (a0_0 : Int) (a0_1 : Int) (a0_2 : Int) (r1 : Int) (r2 : Int) (r3 : Int) (r4 : Bool) (w : World) (h : spec_NextMaze.f k a0_0 a0_1 a0_2 = some (r1, r2, r3, r4)) :
  Calls Try.prog 54 #[.agg #[.int .i64 a0_0, .int .i64 a0_1, .int .i64 a0_2]] w fun e w' => e = .returned (.tuple #[.agg #[.int .i64 r1, .int .i64 r2, .int .i64 r3], .bool r4]) ∧ Below w.heap.size w w' := by
 have hu42 := Try.underlying42
 have hu40 := Try.underlying40
 have HB := A_ (Below.refl w.heap.size w)
 have H : ((spec_NumberOf.f k a0_0 a0_1 a0_2).bind fun t103 => (if t103 < 0 then (some (a0_0, a0_1, a0_2, false)) else ((spec_MazeAt.f k a0_0 a0_1 (wrap64 (t103 + 1))).bind fun bt104 => (if bt104.2.2.2 = true then (some (bt104.1, bt104.2.1, bt104.2.2.1, true)) else (some (a0_0, a0_1, a0_2, false)))))) = some (r1, r2, r3, r4) := h
 clear h
 obtain ⟨t103, A20, H⟩ := oB_ H
 (try dsimp only at H); have A2 := A_ A20; clear A20
 by_cases c3 : t103 < 0
 ·rw [if_pos c3] at H
  have c3b0 : decide (t103 < 0) = true := decide_eq_true c3
  clear c3
  simp only [Option.some.injEq, Prod.mk.injEq] at H
  obtain ⟨rfl, rfl, rfl, rfl⟩ := H
  go_enter Try.func54, Try.ntmps54
  go_wp2_with (first | ((with_reducible refine gate_dst (N := 1) rfl ?_); refine be_ 1 #[.int .i64 a0_0, .int .i64 a0_1, .int .i64 a0_2] 42 ?_; intro gb101 hg w4 hbox hb; have n0_ := A_ (bs_ HB.1 hb); have n1_ := A_ (hbox); have n2_ := A_ (bS_ HB.out hg); have n3_ := A_ (bS_ HB.out hg); clear HB; have HB := n0_; have BK101 := n1_; have GW101 := n2_; have GE101 := n3_; clear n0_ n1_ n2_ n3_ hb hbox hg) | ((with_reducible refine gate_dst (N := 2) rfl ?_); refine be_ 2 #[.int .i64 0, .int .i64 0, .int .i64 0] 42 ?_; intro gb102 hg w5 hbox hb; have n0_ := A_ (blk_below BK101.out hb); have n1_ := A_ (bs_ HB.1 hb); have n2_ := A_ (hbox); have n3_ := A_ (bS_ HB.out hg); have n4_ := A_ (bS_ HB.out hg); have n5_ := A_ ((by rw [hg]; exact Nat.ne_of_lt (blk_lt (g := gb101) (o := .cells #[.int .i64 a0_0, .int .i64 a0_1, .int .i64 a0_2] 42 (0, 0)) BK101.out) : gb101 ≠ gb102)); have n6_ := A_ ((by rw [hg]; exact Nat.ne_of_gt (blk_lt (g := gb101) (o := .cells #[.int .i64 a0_0, .int .i64 a0_1, .int .i64 a0_2] 42 (0, 0)) BK101.out) : gb102 ≠ gb101)); clear BK101 HB; have BK101 := n0_; have HB := n1_; have BK102 := n2_; have GW102 := n3_; have GE102 := n4_; have NB101_102 := n5_; have NB102_101 := n6_; clear n0_ n1_ n2_ n3_ n4_ n5_ n6_ hb hbox hg; have hnb6 := NB101_102.out; have hnc6 := NB102_101.out; obtain ⟨hcz7_0, hcz7_1, hcz7_2⟩ := kk3_ BK101.1; have hfz7_0 := bf_ BK101.out 0; have hfz7_1 := bf_ BK101.out 1; have hfz7_2 := bf_ BK101.out 2) | ((with_reducible refine gate_callee (f := 53) rfl ?_); refine gl_ 8 Try.func53 #[.agg #[.int .i64 a0_0, .int .i64 a0_1, .int .i64 a0_2]] ?_; (with_reducible refine (spec_NumberOf.calls k a0_0 a0_1 a0_2 t103 _ A2.out).mono ?_); rintro e w8 ⟨rfl, hb⟩; refine ⟨_, rfl, ?_⟩; have n0_ := A_ (blk_below BK101.out hb); have n1_ := A_ (blk_below BK102.out hb); have n2_ := A_ (bs_ HB.1 hb); clear BK101 BK102 HB; have BK101 := n0_; have BK102 := n1_; have HB := n2_; clear n0_ n1_ n2_; (try clear hb); (try clear hk); obtain ⟨hcz9_0, hcz9_1, hcz9_2⟩ := kk3_ BK101.1; have hfz9_0 := bf_ BK101.out 0; have hfz9_1 := bf_ BK101.out 1; have hfz9_2 := bf_ BK101.out 2; obtain ⟨hcz10_0, hcz10_1, hcz10_2⟩ := kk3_ BK102.1; have hfz10_0 := bf_ BK102.out 0; have hfz10_1 := bf_ BK102.out 1; have hfz10_2 := bf_ BK102.out 2))
  refine bodyPost_ret (results_ct rfl _ _ gb102 42 #[.int .i64 a0_0, .int .i64 a0_1, .int .i64 a0_2] (0, 0) _ rfl (by refine blk_put (cs := #[.int .i64 a0_0, .int .i64 a0_1, .int .i64 0]) ?_ 2 _ rfl; refine blk_put (cs := #[.int .i64 a0_0, .int .i64 0, .int .i64 0]) ?_ 1 _ rfl; refine blk_put (cs := #[.int .i64 0, .int .i64 0, .int .i64 0]) ?_ 0 _ rfl; exact BK102.out) Try.underlying42 rfl (by kernel_rfl)) rfl ?_
  exact ⟨by rfl, by repeat ((with_reducible first | exact HB.out | refine below_set ?_ GE102.out))⟩
 ·rw [if_neg c3] at H
  have c3b0 : decide (t103 < 0) = false := decide_eq_false c3
  clear c3
  obtain ⟨⟨t104, t105, t106, t107⟩, A110, H⟩ := oB_ H
  (try dsimp only at H); have A11 := A_ A110; clear A110
  by_cases c12 : t107 = true
  ·subst c12
   rw [if_pos rfl] at H
   simp only [Option.some.injEq, Prod.mk.injEq] at H
   obtain ⟨rfl, rfl, rfl, rfl⟩ := H
   go_enter Try.func54, Try.ntmps54
   go_wp2_with (first | ((with_reducible refine gate_dst (N := 1) rfl ?_); refine be_ 1 #[.int .i64 a0_0, .int .i64 a0_1, .int .i64 a0_2] 42 ?_; intro gb101 hg w13 hbox hb; have n0_ := A_ (bs_ HB.1 hb); have n1_ := A_ (hbox); have n2_ := A_ (bS_ HB.out hg); have n3_ := A_ (bS_ HB.out hg); clear HB; have HB := n0_; have BK101 := n1_; have GW101 := n2_; have GE101 := n3_; clear n0_ n1_ n2_ n3_ hb hbox hg) | ((with_reducible refine gate_dst (N := 2) rfl ?_); refine be_ 2 #[.int .i64 0, .int .i64 0, .int .i64 0] 42 ?_; intro gb102 hg w14 hbox hb; have n0_ := A_ (blk_below BK101.out hb); have n1_ := A_ (bs_ HB.1 hb); have n2_ := A_ (hbox); have n3_ := A_ (bS_ HB.out hg); have n4_ := A_ (bS_ HB.out hg); have n5_ := A_ ((by rw [hg]; exact Nat.ne_of_lt (blk_lt (g := gb101) (o := .cells #[.int .i64 a0_0, .int .i64 a0_1, .int .i64 a0_2] 42 (0, 0)) BK101.out) : gb101 ≠ gb102)); have n6_ := A_ ((by rw [hg]; exact Nat.ne_of_gt (blk_lt (g := gb101) (o := .cells #[.int .i64 a0_0, .int .i64 a0_1, .int .i64 a0_2] 42 (0, 0)) BK101.out) : gb102 ≠ gb101)); clear BK101 HB; have BK101 := n0_; have HB := n1_; have BK102 := n2_; have GW102 := n3_; have GE102 := n4_; have NB101_102 := n5_; have NB102_101 := n6_; clear n0_ n1_ n2_ n3_ n4_ n5_ n6_ hb hbox hg; have hnb15 := NB101_102.out; have hnc15 := NB102_101.out; obtain ⟨hcz16_0, hcz16_1, hcz16_2⟩ := kk3_ BK101.1; have hfz16_0 := bf_ BK101.out 0; have hfz16_1 := bf_ BK101.out 1; have hfz16_2 := bf_ BK101.out 2) | ((with_reducible refine gate_callee (f := 53) rfl ?_); refine gl_ 8 Try.func53 #[.agg #[.int .i64 a0_0, .int .i64 a0_1, .int .i64 a0_2]] ?_; (with_reducible refine (spec_NumberOf.calls k a0_0 a0_1 a0_2 t103 _ A2.out).mono ?_); rintro e w17 ⟨rfl, hb⟩; refine ⟨_, rfl, ?_⟩; have n0_ := A_ (blk_below BK101.out hb); have n1_ := A_ (blk_below BK102.out hb); have n2_ := A_ (bs_ HB.1 hb); clear BK101 BK102 HB; have BK101 := n0_; have BK102 := n1_; have HB := n2_; clear n0_ n1_ n2_; (try clear hb); (try clear hk); obtain ⟨hcz18_0, hcz18_1, hcz18_2⟩ := kk3_ BK101.1; have hfz18_0 := bf_ BK101.out 0; have hfz18_1 := bf_ BK101.out 1; have hfz18_2 := bf_ BK101.out 2) | ((with_reducible refine gate_callee (f := 47) rfl ?_); refine gl_ 17 Try.func47 #[.agg #[.int .i64 a0_0, .int .i64 a0_1], .int .i64 (wrap64 (t103 + 1))] ?_; (with_reducible refine (spec_MazeAt.calls k a0_0 a0_1 (wrap64 (t103 + 1)) t104 t105 t106 true _ A11.out).mono ?_); rintro e w19 ⟨rfl, hb⟩; refine ⟨_, rfl, ?_⟩; have n0_ := A_ (blk_below BK101.out hb); have n1_ := A_ (blk_below BK102.out hb); have n2_ := A_ (bs_ HB.1 hb); clear BK101 BK102 HB; have BK101 := n0_; have BK102 := n1_; have HB := n2_; clear n0_ n1_ n2_; (try clear hb); (try clear hk)) | ((with_reducible refine gate_dst (N := 5) rfl ?_); refine be_ 5 #[.int .i64 0, .int .i64 0, .int .i64 0] 42 ?_; intro gb108 hg w20 hbox hb; have n0_ := A_ (blk_below BK101.out hb); have n1_ := A_ (blk_below BK102.out hb); have n2_ := A_ (bs_ HB.1 hb); have n3_ := A_ (hbox); have n4_ := A_ (bS_ HB.out hg); have n5_ := A_ (bS_ HB.out hg); have n6_ := A_ ((by rw [hg]; exact Nat.ne_of_lt (blk_lt (g := gb101) (o := .cells #[.int .i64 a0_0, .int .i64 a0_1, .int .i64 a0_2] 42 (0, 0)) BK101.out) : gb101 ≠ gb108)); have n7_ := A_ ((by rw [hg]; exact Nat.ne_of_gt (blk_lt (g := gb101) (o := .cells #[.int .i64 a0_0, .int .i64 a0_1, .int .i64 a0_2] 42 (0, 0)) BK101.out) : gb108 ≠ gb101)); have n8_ := A_ ((by rw [hg]; exact Nat.ne_of_lt (blk_lt (g := gb102) (o := .cells #[.int .i64 0, .int .i64 0, .int .i64 0] 42 (0, 0)) BK102.out) : gb102 ≠ gb108)); have n9_ := A_ ((by rw [hg]; exact Nat.ne_of_gt (blk_lt (g := gb102) (o := .cells #[.int .i64 0, .int .i64 0, .int .i64 0] 42 (0, 0)) BK102.out) : gb108 ≠ gb102)); clear BK101 BK102 HB; have BK101 := n0_; have BK102 := n1_; have HB := n2_; have BK108 := n3_; have GW108 := n4_; have GE108 := n5_; have NB101_108 := n6_; have NB108_101 := n7_; have NB102_108 := n8_; have NB108_102 := n9_; clear n0_ n1_ n2_ n3_ n4_ n5_ n6_ n7_ n8_ n9_ hb hbox hg; have hnb21 := NB108_101.out; have hnc21 := NB101_108.out; have hnb22 := NB108_102.out; have hnc22 := NB102_108.out; obtain ⟨hcz23_0, hcz23_1, hcz23_2⟩ := kk3_ BK108.1; have hfz23_0 := bf_ BK108.out 0; have hfz23_1 := bf_ BK108.out 1; have hfz23_2 := bf_ BK108.out 2; obtain ⟨hcz24_0, hcz24_1, hcz24_2⟩ := kk3_ BK102.1; have hfz24_0 := bf_ BK102.out 0; have hfz24_1 := bf_ BK102.out 1; have hfz24_2 := bf_ BK102.out 2))
   refine bodyPost_ret (results_ct rfl _ _ gb102 42 #[.int .i64 t104, .int .i64 t105, .int .i64 t106] (0, 0) _ rfl (by refine blk_put (cs := #[.int .i64 t104, .int .i64 t105, .int .i64 0]) ?_ 2 _ rfl; refine blk_put (cs := #[.int .i64 t104, .int .i64 0, .int .i64 0]) ?_ 1 _ rfl; refine blk_put (cs := #[.int .i64 0, .int .i64 0, .int .i64 0]) ?_ 0 _ rfl; refine blk_far ?_ NB102_108.out _; refine blk_far ?_ NB102_108.out _; refine blk_far ?_ NB102_108.out _; exact BK102.out) Try.underlying42 rfl (by kernel_rfl)) rfl ?_
   exact ⟨by rfl, by repeat ((with_reducible first | exact HB.out | refine below_set ?_ GE102.out | refine below_set ?_ GE108.out))⟩
  ·replace c12 := Bool.eq_false_iff.mpr c12
   subst c12
   have H1 : (some (a0_0, a0_1, a0_2, false)) = some (r1, r2, r3, r4) := by rw [if_neg (show ¬ (false = true) by decide)] at H; exact H
   clear H
   have H := H1
   clear H1
   simp only [Option.some.injEq, Prod.mk.injEq] at H
   obtain ⟨rfl, rfl, rfl, rfl⟩ := H
   go_enter Try.func54, Try.ntmps54
   go_wp2_with (first | ((with_reducible refine gate_dst (N := 1) rfl ?_); refine be_ 1 #[.int .i64 a0_0, .int .i64 a0_1, .int .i64 a0_2] 42 ?_; intro gb101 hg w25 hbox hb; have n0_ := A_ (bs_ HB.1 hb); have n1_ := A_ (hbox); have n2_ := A_ (bS_ HB.out hg); have n3_ := A_ (bS_ HB.out hg); clear HB; have HB := n0_; have BK101 := n1_; have GW101 := n2_; have GE101 := n3_; clear n0_ n1_ n2_ n3_ hb hbox hg) | ((with_reducible refine gate_dst (N := 2) rfl ?_); refine be_ 2 #[.int .i64 0, .int .i64 0, .int .i64 0] 42 ?_; intro gb102 hg w26 hbox hb; have n0_ := A_ (blk_below BK101.out hb); have n1_ := A_ (bs_ HB.1 hb); have n2_ := A_ (hbox); have n3_ := A_ (bS_ HB.out hg); have n4_ := A_ (bS_ HB.out hg); have n5_ := A_ ((by rw [hg]; exact Nat.ne_of_lt (blk_lt (g := gb101) (o := .cells #[.int .i64 a0_0, .int .i64 a0_1, .int .i64 a0_2] 42 (0, 0)) BK101.out) : gb101 ≠ gb102)); have n6_ := A_ ((by rw [hg]; exact Nat.ne_of_gt (blk_lt (g := gb101) (o := .cells #[.int .i64 a0_0, .int .i64 a0_1, .int .i64 a0_2] 42 (0, 0)) BK101.out) : gb102 ≠ gb101)); clear BK101 HB; have BK101 := n0_; have HB := n1_; have BK102 := n2_; have GW102 := n3_; have GE102 := n4_; have NB101_102 := n5_; have NB102_101 := n6_; clear n0_ n1_ n2_ n3_ n4_ n5_ n6_ hb hbox hg; have hnb27 := NB101_102.out; have hnc27 := NB102_101.out; obtain ⟨hcz28_0, hcz28_1, hcz28_2⟩ := kk3_ BK101.1; have hfz28_0 := bf_ BK101.out 0; have hfz28_1 := bf_ BK101.out 1; have hfz28_2 := bf_ BK101.out 2) | ((with_reducible refine gate_callee (f := 53) rfl ?_); refine gl_ 8 Try.func53 #[.agg #[.int .i64 a0_0, .int .i64 a0_1, .int .i64 a0_2]] ?_; (with_reducible refine (spec_NumberOf.calls k a0_0 a0_1 a0_2 t103 _ A2.out).mono ?_); rintro e w29 ⟨rfl, hb⟩; refine ⟨_, rfl, ?_⟩; have n0_ := A_ (blk_below BK101.out hb); have n1_ := A_ (blk_below BK102.out hb); have n2_ := A_ (bs_ HB.1 hb); clear BK101 BK102 HB; have BK101 := n0_; have BK102 := n1_; have HB := n2_; clear n0_ n1_ n2_; (try clear hb); (try clear hk); obtain ⟨hcz30_0, hcz30_1, hcz30_2⟩ := kk3_ BK101.1; have hfz30_0 := bf_ BK101.out 0; have hfz30_1 := bf_ BK101.out 1; have hfz30_2 := bf_ BK101.out 2) | ((with_reducible refine gate_callee (f := 47) rfl ?_); refine gl_ 17 Try.func47 #[.agg #[.int .i64 a0_0, .int .i64 a0_1], .int .i64 (wrap64 (t103 + 1))] ?_; (with_reducible refine (spec_MazeAt.calls k a0_0 a0_1 (wrap64 (t103 + 1)) t104 t105 t106 false _ A11.out).mono ?_); rintro e w31 ⟨rfl, hb⟩; refine ⟨_, rfl, ?_⟩; have n0_ := A_ (blk_below BK101.out hb); have n1_ := A_ (blk_below BK102.out hb); have n2_ := A_ (bs_ HB.1 hb); clear BK101 BK102 HB; have BK101 := n0_; have BK102 := n1_; have HB := n2_; clear n0_ n1_ n2_; (try clear hb); (try clear hk)) | ((with_reducible refine gate_dst (N := 5) rfl ?_); refine be_ 5 #[.int .i64 0, .int .i64 0, .int .i64 0] 42 ?_; intro gb108 hg w32 hbox hb; have n0_ := A_ (blk_below BK101.out hb); have n1_ := A_ (blk_below BK102.out hb); have n2_ := A_ (bs_ HB.1 hb); have n3_ := A_ (hbox); have n4_ := A_ (bS_ HB.out hg); have n5_ := A_ (bS_ HB.out hg); have n6_ := A_ ((by rw [hg]; exact Nat.ne_of_lt (blk_lt (g := gb101) (o := .cells #[.int .i64 a0_0, .int .i64 a0_1, .int .i64 a0_2] 42 (0, 0)) BK101.out) : gb101 ≠ gb108)); have n7_ := A_ ((by rw [hg]; exact Nat.ne_of_gt (blk_lt (g := gb101) (o := .cells #[.int .i64 a0_0, .int .i64 a0_1, .int .i64 a0_2] 42 (0, 0)) BK101.out) : gb108 ≠ gb101)); have n8_ := A_ ((by rw [hg]; exact Nat.ne_of_lt (blk_lt (g := gb102) (o := .cells #[.int .i64 0, .int .i64 0, .int .i64 0] 42 (0, 0)) BK102.out) : gb102 ≠ gb108)); have n9_ := A_ ((by rw [hg]; exact Nat.ne_of_gt (blk_lt (g := gb102) (o := .cells #[.int .i64 0, .int .i64 0, .int .i64 0] 42 (0, 0)) BK102.out) : gb108 ≠ gb102)); clear BK101 BK102 HB; have BK101 := n0_; have BK102 := n1_; have HB := n2_; have BK108 := n3_; have GW108 := n4_; have GE108 := n5_; have NB101_108 := n6_; have NB108_101 := n7_; have NB102_108 := n8_; have NB108_102 := n9_; clear n0_ n1_ n2_ n3_ n4_ n5_ n6_ n7_ n8_ n9_ hb hbox hg; have hnb33 := NB108_101.out; have hnc33 := NB101_108.out; have hnb34 := NB108_102.out; have hnc34 := NB102_108.out; obtain ⟨hcz35_0, hcz35_1, hcz35_2⟩ := kk3_ BK108.1; have hfz35_0 := bf_ BK108.out 0; have hfz35_1 := bf_ BK108.out 1; have hfz35_2 := bf_ BK108.out 2; obtain ⟨hcz36_0, hcz36_1, hcz36_2⟩ := kk3_ BK101.1; have hfz36_0 := bf_ BK101.out 0; have hfz36_1 := bf_ BK101.out 1; have hfz36_2 := bf_ BK101.out 2; obtain ⟨hcz37_0, hcz37_1, hcz37_2⟩ := kk3_ BK102.1; have hfz37_0 := bf_ BK102.out 0; have hfz37_1 := bf_ BK102.out 1; have hfz37_2 := bf_ BK102.out 2))
   refine bodyPost_ret (results_ct rfl _ _ gb102 42 #[.int .i64 a0_0, .int .i64 a0_1, .int .i64 a0_2] (0, 0) _ rfl (by refine blk_put (cs := #[.int .i64 a0_0, .int .i64 a0_1, .int .i64 0]) ?_ 2 _ rfl; refine blk_put (cs := #[.int .i64 a0_0, .int .i64 0, .int .i64 0]) ?_ 1 _ rfl; refine blk_put (cs := #[.int .i64 0, .int .i64 0, .int .i64 0]) ?_ 0 _ rfl; refine blk_far ?_ NB102_108.out _; refine blk_far ?_ NB102_108.out _; refine blk_far ?_ NB102_108.out _; exact BK102.out) Try.underlying42 rfl (by kernel_rfl)) rfl ?_
   exact ⟨by rfl, by repeat ((with_reducible first | exact HB.out | refine below_set ?_ GE102.out | refine below_set ?_ GE108.out))⟩

def laws_FnExactNextMaze.f (k : Nat) (a0_0 : Int) (a0_1 : Int) (a0_2 : Int) : Option (Bool) := (laws_toMaze.f a0_0 a0_1 a0_2).bind fun bt102 => ((spec_NextMaze.f k bt102.1 bt102.2.1 bt102.2.2).bind fun bt105 => ((laws_toMaze.f a0_0 a0_1 a0_2).bind fun bt110 => ((impl_NextMaze.f k bt110.1 bt110.2.1 bt110.2.2).bind fun bt113 => ((laws_eqMaze.f bt113.1 bt113.2.1 bt113.2.2.1 bt105.1 bt105.2.1 bt105.2.2.1).bind fun t118 => (if t118 = true then (if (bt113.2.2.2 != bt105.2.2.2) = true then (some false) else (some true)) else (some false))))))
set_option maxHeartbeats 8000000 in
set_option maxRecDepth 100000 in
theorem laws_FnExactNextMaze.calls (k : Nat) (a0_0 : Int) (a0_1 : Int) (a0_2 : Int) (r : Bool) (w : World) (h : laws_FnExactNextMaze.f k a0_0 a0_1 a0_2 = some r) :
  Calls Try.prog 15 #[.agg #[.int .i64 a0_0, .int .i64 a0_1, .int .i64 a0_2]] w fun e w' => e = .returned (.bool r) ∧ Below w.heap.size w w' := by
 have hu38 := Try.underlying38
 have hu42 := Try.underlying42
 have HB := A_ (Below.refl w.heap.size w)
 have H : ((laws_toMaze.f a0_0 a0_1 a0_2).bind fun bt102 => ((spec_NextMaze.f k bt102.1 bt102.2.1 bt102.2.2).bind fun bt105 => ((laws_toMaze.f a0_0 a0_1 a0_2).bind fun bt110 => ((impl_NextMaze.f k bt110.1 bt110.2.1 bt110.2.2).bind fun bt113 => ((laws_eqMaze.f bt113.1 bt113.2.1 bt113.2.2.1 bt105.1 bt105.2.1 bt105.2.2.1).bind fun t118 => (if t118 = true then (if (bt113.2.2.2 != bt105.2.2.2) = true then (some false) else (some true)) else (some false))))))) = some r := h
 clear h
 obtain ⟨⟨t102, t103, t104⟩, A20, H⟩ := oB_ H
 (try dsimp only at H); have A2 := A_ A20; clear A20
 obtain ⟨⟨t105, t106, t107, t108⟩, A30, H⟩ := oB_ H
 (try dsimp only at H); have A3 := A_ A30; clear A30
 obtain ⟨⟨t110, t111, t112⟩, A40, H⟩ := oB_ H
 (try dsimp only at H); have A4 := A_ A40; clear A40
 obtain ⟨⟨t113, t114, t115, t116⟩, A50, H⟩ := oB_ H
 (try dsimp only at H); have A5 := A_ A50; clear A50
 obtain ⟨t118, A60, H⟩ := oB_ H
 (try dsimp only at H); have A6 := A_ A60; clear A60
 by_cases c7 : t118 = true
 ·subst c7
  rw [if_pos rfl] at H
  by_cases c8 : (t116 != t108) = true
  ·rw [if_pos c8] at H
   have c8b0 : (t116 != t108) = true := c8
   (try (have c8b1 : decide (t116 = t108) = false := by simpa using c8))
   (try (have c8b2 : (t116 == t108) = false := by simpa using c8))
   (try (have c8b3 : ¬ (t116 = t108) := by simpa using c8))
   clear c8
   obtain rfl := Option.some.inj H
   go_enter Try.func15, Try.ntmps15
   go_wp2_with (first | ((with_reducible refine gate_dst (N := 1) rfl ?_); refine be_ 1 #[.int .i64 a0_0, .int .i64 a0_1, .int .i64 a0_2] 38 ?_; intro gb101 hg w9 hbox hb; have n0_ := A_ (bs_ HB.1 hb); have n1_ := A_ (hbox); have n2_ := A_ (bS_ HB.out hg); have n3_ := A_ (bS_ HB.out hg); clear HB; have HB := n0_; have BK101 := n1_; have GW101 := n2_; have GE101 := n3_; clear n0_ n1_ n2_ n3_ hb hbox hg; obtain ⟨hcz10_0, hcz10_1, hcz10_2⟩ := kk3_ BK101.1; have hfz10_0 := bf_ BK101.out 0; have hfz10_1 := bf_ BK101.out 1; have hfz10_2 := bf_ BK101.out 2) | ((with_reducible refine gate_callee (f := 29) rfl ?_); refine gl_ 9 Try.func29 #[.agg #[.int .i64 a0_0, .int .i64 a0_1, .int .i64 a0_2]] ?_; (with_reducible refine (laws_toMaze.calls a0_0 a0_1 a0_2 t102 t103 t104 _ A2.out).mono ?_); rintro e w11 ⟨rfl, hb⟩; (try clear A2); refine ⟨_, rfl, ?_⟩; have n0_ := A_ (blk_below BK101.out hb); have n1_ := A_ (bs_ HB.1 hb); clear BK101 HB; have BK101 := n0_; have HB := n1_; clear n0_ n1_; (try clear hb); (try clear hk)) | ((with_reducible refine gate_callee (f := 54) rfl ?_); refine gl_ 10 Try.func54 #[.agg #[.int .i64 t102, .int .i64 t103, .int .i64 t104]] ?_; (with_reducible refine (spec_NextMaze.calls k t102 t103 t104 t105 t106 t107 t108 _ A3.out).mono ?_); rintro e w12 ⟨rfl, hb⟩; (try clear A3); refine ⟨_, rfl, ?_⟩; have n0_ := A_ (blk_below BK101.out hb); have n1_ := A_ (bs_ HB.1 hb); clear BK101 HB; have BK101 := n0_; have HB := n1_; clear n0_ n1_; (try clear hb); (try clear hk)) | ((with_reducible refine gate_dst (N := 3) rfl ?_); refine be_ 3 #[.int .i64 0, .int .i64 0, .int .i64 0] 42 ?_; intro gb109 hg w13 hbox hb; have n0_ := A_ (blk_below BK101.out hb); have n1_ := A_ (bs_ HB.1 hb); have n2_ := A_ (hbox); have n3_ := A_ (bS_ HB.out hg); have n4_ := A_ (bS_ HB.out hg); have n5_ := A_ ((by rw [hg]; exact Nat.ne_of_lt (blk_lt (g := gb101) (o := .cells #[.int .i64 a0_0, .int .i64 a0_1, .int .i64 a0_2] 38 (0, 0)) BK101.out) : gb101 ≠ gb109)); have n6_ := A_ ((by rw [hg]; exact Nat.ne_of_gt (blk_lt (g := gb101) (o := .cells #[.int .i64 a0_0, .int .i64 a0_1, .int .i64 a0_2] 38 (0, 0)) BK101.out) : gb109 ≠ gb101)); clear BK101 HB; have BK101 := n0_; have HB := n1_; have BK109 := n2_; have GW109 := n3_; have GE109 := n4_; have NB101_109 := n5_; have NB109_101 := n6_; clear n0_ n1_ n2_ n3_ n4_ n5_ n6_ hb hbox hg; have hnb14 := NB109_101.out; have hnc14 := NB101_109.out; obtain ⟨hcz15_0, hcz15_1, hcz15_2⟩ := kk3_ BK109.1; have hfz15_0 := bf_ BK109.out 0; have hfz15_1 := bf_ BK109.out 1; have hfz15_2 := bf_ BK109.out 2; obtain ⟨hcz16_0, hcz16_1, hcz16_2⟩ := kk3_ BK101.1; have hfz16_0 := bf_ BK101.out 0; have hfz16_1 := bf_ BK101.out 1; have hfz16_2 := bf_ BK101.out 2) | ((with_reducible refine gate_callee (f := 29) rfl ?_); refine gl_ 15 Try.func29 #[.agg #[.int .i64 a0_0, .int .i64 a0_1, .int .i64 a0_2]] ?_; (with_reducible refine (laws_toMaze.calls a0_0 a0_1 a0_2 t110 t111 t112 _ A4.out).mono ?_); rintro e w17 ⟨rfl, hb⟩; (try clear A4); refine ⟨_, rfl, ?_⟩; have n0_ := A_ (blk_below (g := gb101) (o := .cells #[.int .i64 a0_0, .int .i64 a0_1, .int .i64 a0_2] 38 (0, 0)) (by refine blk_far ?_ NB101_109.out _; refine blk_far ?_ NB101_109.out _; refine blk_far ?_ NB101_109.out _; exact BK101.out) hb); have n1_ := A_ (blk_below (g := gb109) (o := .cells #[.int .i64 t105, .int .i64 t106, .int .i64 t107] 42 (0, 0)) (by refine blk_put (cs := #[.int .i64 t105, .int .i64 t106, .int .i64 0]) ?_ 2 _ rfl; refine blk_put (cs := #[.int .i64 t105, .int .i64 0, .int .i64 0]) ?_ 1 _ rfl; refine blk_put (cs := #[.int .i64 0, .int .i64 0, .int .i64 0]) ?_ 0 _ rfl; exact BK109.out) hb); have n2_ := A_ (below_step (by repeat ((with_reducible first | exact HB.out | refine below_set ?_ GE109.out))) hb); clear BK101 BK109 HB; have BK101 := n0_; have BK109 := n1_; have HB := n2_; clear n0_ n1_ n2_; (try clear hb); (try clear hk)) | ((with_reducible refine gate_callee (f := 45) rfl ?_); refine gl_ 16 Try.func45 #[.agg #[.int .i64 t110, .int .i64 t111, .int .i64 t112]] ?_; (with_reducible refine (impl_NextMaze.calls k t110 t111 t112 t113 t114 t115 t116 _ A5.out).mono ?_); rintro e w18 ⟨rfl, hb⟩; (try clear A5); refine ⟨_, rfl, ?_⟩; have n0_ := A_ (blk_below BK101.out hb); have n1_ := A_ (blk_below BK109.out hb); have n2_ := A_ (bs_ HB.1 hb); clear BK101 BK109 HB; have BK101 := n0_; have BK109 := n1_; have HB := n2_; clear n0_ n1_ n2_; (try clear hb); (try clear hk)) | ((with_reducible refine gate_dst (N := 5) rfl ?_); refine be_ 5 #[.int .i64 0, .int .i64 0, .int .i64 0] 42 ?_; intro gb117 hg w19 hbox hb; have n0_ := A_ (blk_below BK101.out hb); have n1_ := A_ (blk_below BK109.out hb); have n2_ := A_ (bs_ HB.1 hb); have n3_ := A_ (hbox); have n4_ := A_ (bS_ HB.out hg); have n5_ := A_ (bS_ HB.out hg); have n6_ := A_ ((by rw [hg]; exact Nat.ne_of_lt (blk_lt (g := gb101) (o := .cells #[.int .i64 a0_0, .int .i64 a0_1, .int .i64 a0_2] 38 (0, 0)) BK101.out) : gb101 ≠ gb117)); have n7_ := A_ ((by rw [hg]; exact Nat.ne_of_gt (blk_lt (g := gb101) (o := .cells #[.int .i64 a0_0, .int .i64 a0_1, .int .i64 a0_2] 38 (0, 0)) BK101.out) : gb117 ≠ gb101)); have n8_ := A_ ((by rw [hg]; exact Nat.ne_of_lt (blk_lt (g := gb109) (o := .cells #[.int .i64 t105, .int .i64 t106, .int .i64 t107] 42 (0, 0)) BK109.out) : gb109 ≠ gb117)); have n9_ := A_ ((by rw [hg]; exact Nat.ne_of_gt (blk_lt (g := gb109) (o := .cells #[.int .i64 t105, .int .i64 t106, .int .i64 t107] 42 (0, 0)) BK109.out) : gb117 ≠ gb109)); clear BK101 BK109 HB; have BK101 := n0_; have BK109 := n1_; have HB := n2_; have BK117 := n3_; have GW117 := n4_; have GE117 := n5_; have NB101_117 := n6_; have NB117_101 := n7_; have NB109_117 := n8_; have NB117_109 := n9_; clear n0_ n1_ n2_ n3_ n4_ n5_ n6_ n7_ n8_ n9_ hb hbox hg; have hnb20 := NB117_101.out; have hnc20 := NB101_117.out; have hnb21 := NB117_109.out; have hnc21 := NB109_117.out; obtain ⟨hcz22_0, hcz22_1, hcz22_2⟩ := kk3_ BK117.1; have hfz22_0 := bf_ BK117.out 0; have hfz22_1 := bf_ BK117.out 1; have hfz22_2 := bf_ BK117.out 2; obtain ⟨hcz23_0, hcz23_1, hcz23_2⟩ := kk3_ BK109.1; have hfz23_0 := bf_ BK109.out 0; have hfz23_1 := bf_ BK109.out 1; have hfz23_2 := bf_ BK109.out 2) | ((with_reducible refine gate_callee (f := 48) rfl ?_); refine gl_ 21 Try.func48 #[.agg #[.int .i64 t113, .int .i64 t114, .int .i64 t115], .agg #[.int .i64 t105, .int .i64 t106, .int .i64 t107]] ?_; (with_reducible refine (laws_eqMaze.calls t113 t114 t115 t105 t106 t107 true _ A6.out).mono ?_); rintro e w24 ⟨rfl, hb⟩; (try clear A6); refine ⟨_, rfl, ?_⟩; have n0_ := A_ (blk_below (g := gb101) (o := .cells #[.int .i64 a0_0, .int .i64 a0_1, .int .i64 a0_2] 38 (0, 0)) (by refine blk_far ?_ NB101_117.out _; refine blk_far ?_ NB101_117.out _; refine blk_far ?_ NB101_117.out _; exact BK101.out) hb); have n1_ := A_ (blk_below (g := gb109) (o := .cells #[.int .i64 t105, .int .i64 t106, .int .i64 t107] 42 (0, 0)) (by refine blk_far ?_ NB109_117.out _; refine blk_far ?_ NB109_117.out _; refine blk_far ?_ NB109_117.out _; exact BK109.out) hb); have n2_ := A_ (blk_below (g := gb117) (o := .cells #[.int .i64 t113, .int .i64 t114, .int .i64 t115] 42 (0, 0)) (by refine blk_put (cs := #[.int .i64 t113, .int .i64 t114, .int .i64 0]) ?_ 2 _ rfl; refine blk_put (cs := #[.int .i64 t113, .int .i64 0, .int .i64 0]) ?_ 1 _ rfl; refine blk_put (cs := #[.int .i64 0, .int .i64 0, .int .i64 0]) ?_ 0 _ rfl; exact BK117.out) hb); have n3_ := A_ (below_step (by repeat ((with_reducible first | exact HB.out | refine below_set ?_ GE117.out))) hb); clear BK101 BK109 BK117 HB; have BK101 := n0_; have BK109 := n1_; have BK117 := n2_; have HB := n3_; clear n0_ n1_ n2_ n3_; (try clear hb); (try clear hk)))
   go_ret
   exact ⟨by rfl, by repeat ((with_reducible exact HB.out))⟩
  ·rw [if_neg c8] at H
   have c8b0 : (t116 != t108) = false := by simpa using c8
   (try (have c8b1 : decide (t116 = t108) = true := by simpa using c8))
   (try (have c8b2 : (t116 == t108) = true := by simpa using c8))
   clear c8
   obtain rfl := Option.some.inj H
   go_enter Try.func15, Try.ntmps15
   go_wp2_with (first | ((with_reducible refine gate_dst (N := 1) rfl ?_); refine be_ 1 #[.int .i64 a0_0, .int .i64 a0_1, .int .i64 a0_2] 38 ?_; intro gb101 hg w25 hbox hb; have n0_ := A_ (bs_ HB.1 hb); have n1_ := A_ (hbox); have n2_ := A_ (bS_ HB.out hg); have n3_ := A_ (bS_ HB.out hg); clear HB; have HB := n0_; have BK101 := n1_; have GW101 := n2_; have GE101 := n3_; clear n0_ n1_ n2_ n3_ hb hbox hg; obtain ⟨hcz26_0, hcz26_1, hcz26_2⟩ := kk3_ BK101.1; have hfz26_0 := bf_ BK101.out 0; have hfz26_1 := bf_ BK101.out 1; have hfz26_2 := bf_ BK101.out 2) | ((with_reducible refine gate_callee (f := 29) rfl ?_); refine gl_ 9 Try.func29 #[.agg #[.int .i64 a0_0, .int .i64 a0_1, .int .i64 a0_2]] ?_; (with_reducible refine (laws_toMaze.calls a0_0 a0_1 a0_2 t102 t103 t104 _ A2.out).mono ?_); rintro e w27 ⟨rfl, hb⟩; (try clear A2); refine ⟨_, rfl, ?_⟩; have n0_ := A_ (blk_below BK101.out hb); have n1_ := A_ (bs_ HB.1 hb); clear BK101 HB; have BK101 := n0_; have HB := n1_; clear n0_ n1_; (try clear hb); (try clear hk)) | ((with_reducible refine gate_callee (f := 54) rfl ?_); refine gl_ 10 Try.func54 #[.agg #[.int .i64 t102, .int .i64 t103, .int .i64 t104]] ?_; (with_reducible refine (spec_NextMaze.calls k t102 t103 t104 t105 t106 t107 t108 _ A3.out).mono ?_); rintro e w28 ⟨rfl, hb⟩; (try clear A3); refine ⟨_, rfl, ?_⟩; have n0_ := A_ (blk_below BK101.out hb); have n1_ := A_ (bs_ HB.1 hb); clear BK101 HB; have BK101 := n0_; have HB := n1_; clear n0_ n1_; (try clear hb); (try clear hk)) | ((with_reducible refine gate_dst (N := 3) rfl ?_); refine be_ 3 #[.int .i64 0, .int .i64 0, .int .i64 0] 42 ?_; intro gb109 hg w29 hbox hb; have n0_ := A_ (blk_below BK101.out hb); have n1_ := A_ (bs_ HB.1 hb); have n2_ := A_ (hbox); have n3_ := A_ (bS_ HB.out hg); have n4_ := A_ (bS_ HB.out hg); have n5_ := A_ ((by rw [hg]; exact Nat.ne_of_lt (blk_lt (g := gb101) (o := .cells #[.int .i64 a0_0, .int .i64 a0_1, .int .i64 a0_2] 38 (0, 0)) BK101.out) : gb101 ≠ gb109)); have n6_ := A_ ((by rw [hg]; exact Nat.ne_of_gt (blk_lt (g := gb101) (o := .cells #[.int .i64 a0_0, .int .i64 a0_1, .int .i64 a0_2] 38 (0, 0)) BK101.out) : gb109 ≠ gb101)); clear BK101 HB; have BK101 := n0_; have HB := n1_; have BK109 := n2_; have GW109 := n3_; have GE109 := n4_; have NB101_109 := n5_; have NB109_101 := n6_; clear n0_ n1_ n2_ n3_ n4_ n5_ n6_ hb hbox hg; have hnb30 := NB109_101.out; have hnc30 := NB101_109.out; obtain ⟨hcz31_0, hcz31_1, hcz31_2⟩ := kk3_ BK109.1; have hfz31_0 := bf_ BK109.out 0; have hfz31_1 := bf_ BK109.out 1; have hfz31_2 := bf_ BK109.out 2; obtain ⟨hcz32_0, hcz32_1, hcz32_2⟩ := kk3_ BK101.1; have hfz32_0 := bf_ BK101.out 0; have hfz32_1 := bf_ BK101.out 1; have hfz32_2 := bf_ BK101.out 2) | ((with_reducible refine gate_callee (f := 29) rfl ?_); refine gl_ 15 Try.func29 #[.agg #[.int .i64 a0_0, .int .i64 a0_1, .int .i64 a0_2]] ?_; (with_reducible refine (laws_toMaze.calls a0_0 a0_1 a0_2 t110 t111 t112 _ A4.out).mono ?_); rintro e w33 ⟨rfl, hb⟩; (try clear A4); refine ⟨_, rfl, ?_⟩; have n0_ := A_ (blk_below (g := gb101) (o := .cells #[.int .i64 a0_0, .int .i64 a0_1, .int .i64 a0_2] 38 (0, 0)) (by refine blk_far ?_ NB101_109.out _; refine blk_far ?_ NB101_109.out _; refine blk_far ?_ NB101_109.out _; exact BK101.out) hb); have n1_ := A_ (blk_below (g := gb109) (o := .cells #[.int .i64 t105, .int .i64 t106, .int .i64 t107] 42 (0, 0)) (by refine blk_put (cs := #[.int .i64 t105, .int .i64 t106, .int .i64 0]) ?_ 2 _ rfl; refine blk_put (cs := #[.int .i64 t105, .int .i64 0, .int .i64 0]) ?_ 1 _ rfl; refine blk_put (cs := #[.int .i64 0, .int .i64 0, .int .i64 0]) ?_ 0 _ rfl; exact BK109.out) hb); have n2_ := A_ (below_step (by repeat ((with_reducible first | exact HB.out | refine below_set ?_ GE109.out))) hb); clear BK101 BK109 HB; have BK101 := n0_; have BK109 := n1_; have HB := n2_; clear n0_ n1_ n2_; (try clear hb); (try clear hk)) | ((with_reducible refine gate_callee (f := 45) rfl ?_); refine gl_ 16 Try.func45 #[.agg #[.int .i64 t110, .int .i64 t111, .int .i64 t112]] ?_; (with_reducible refine (impl_NextMaze.calls k t110 t111 t112 t113 t114 t115 t116 _ A5.out).mono ?_); rintro e w34 ⟨rfl, hb⟩; (try clear A5); refine ⟨_, rfl, ?_⟩; have n0_ := A_ (blk_below BK101.out hb); have n1_ := A_ (blk_below BK109.out hb); have n2_ := A_ (bs_ HB.1 hb); clear BK101 BK109 HB; have BK101 := n0_; have BK109 := n1_; have HB := n2_; clear n0_ n1_ n2_; (try clear hb); (try clear hk)) | ((with_reducible refine gate_dst (N := 5) rfl ?_); refine be_ 5 #[.int .i64 0, .int .i64 0, .int .i64 0] 42 ?_; intro gb117 hg w35 hbox hb; have n0_ := A_ (blk_below BK101.out hb); have n1_ := A_ (blk_below BK109.out hb); have n2_ := A_ (bs_ HB.1 hb); have n3_ := A_ (hbox); have n4_ := A_ (bS_ HB.out hg); have n5_ := A_ (bS_ HB.out hg); have n6_ := A_ ((by rw [hg]; exact Nat.ne_of_lt (blk_lt (g := gb101) (o := .cells #[.int .i64 a0_0, .int .i64 a0_1, .int .i64 a0_2] 38 (0, 0)) BK101.out) : gb101 ≠ gb117)); have n7_ := A_ ((by rw [hg]; exact Nat.ne_of_gt (blk_lt (g := gb101) (o := .cells #[.int .i64 a0_0, .int .i64 a0_1, .int .i64 a0_2] 38 (0, 0)) BK101.out) : gb117 ≠ gb101)); have n8_ := A_ ((by rw [hg]; exact Nat.ne_of_lt (blk_lt (g := gb109) (o := .cells #[.int .i64 t105, .int .i64 t106, .int .i64 t107] 42 (0, 0)) BK109.out) : gb109 ≠ gb117)); have n9_ := A_ ((by rw [hg]; exact Nat.ne_of_gt (blk_lt (g := gb109) (o := .cells #[.int .i64 t105, .int .i64 t106, .int .i64 t107] 42 (0, 0)) BK109.out) : gb117 ≠ gb109)); clear BK101 BK109 HB; have BK101 := n0_; have BK109 := n1_; have HB := n2_; have BK117 := n3_; have GW117 := n4_; have GE117 := n5_; have NB101_117 := n6_; have NB117_101 := n7_; have NB109_117 := n8_; have NB117_109 := n9_; clear n0_ n1_ n2_ n3_ n4_ n5_ n6_ n7_ n8_ n9_ hb hbox hg; have hnb36 := NB117_101.out; have hnc36 := NB101_117.out; have hnb37 := NB117_109.out; have hnc37 := NB109_117.out; obtain ⟨hcz38_0, hcz38_1, hcz38_2⟩ := kk3_ BK117.1; have hfz38_0 := bf_ BK117.out 0; have hfz38_1 := bf_ BK117.out 1; have hfz38_2 := bf_ BK117.out 2; obtain ⟨hcz39_0, hcz39_1, hcz39_2⟩ := kk3_ BK109.1; have hfz39_0 := bf_ BK109.out 0; have hfz39_1 := bf_ BK109.out 1; have hfz39_2 := bf_ BK109.out 2) | ((with_reducible refine gate_callee (f := 48) rfl ?_); refine gl_ 21 Try.func48 #[.agg #[.int .i64 t113, .int .i64 t114, .int .i64 t115], .agg #[.int .i64 t105, .int .i64 t106, .int .i64 t107]] ?_; (with_reducible refine (laws_eqMaze.calls t113 t114 t115 t105 t106 t107 true _ A6.out).mono ?_); rintro e w40 ⟨rfl, hb⟩; (try clear A6); refine ⟨_, rfl, ?_⟩; have n0_ := A_ (blk_below (g := gb101) (o := .cells #[.int .i64 a0_0, .int .i64 a0_1, .int .i64 a0_2] 38 (0, 0)) (by refine blk_far ?_ NB101_117.out _; refine blk_far ?_ NB101_117.out _; refine blk_far ?_ NB101_117.out _; exact BK101.out) hb); have n1_ := A_ (blk_below (g := gb109) (o := .cells #[.int .i64 t105, .int .i64 t106, .int .i64 t107] 42 (0, 0)) (by refine blk_far ?_ NB109_117.out _; refine blk_far ?_ NB109_117.out _; refine blk_far ?_ NB109_117.out _; exact BK109.out) hb); have n2_ := A_ (blk_below (g := gb117) (o := .cells #[.int .i64 t113, .int .i64 t114, .int .i64 t115] 42 (0, 0)) (by refine blk_put (cs := #[.int .i64 t113, .int .i64 t114, .int .i64 0]) ?_ 2 _ rfl; refine blk_put (cs := #[.int .i64 t113, .int .i64 0, .int .i64 0]) ?_ 1 _ rfl; refine blk_put (cs := #[.int .i64 0, .int .i64 0, .int .i64 0]) ?_ 0 _ rfl; exact BK117.out) hb); have n3_ := A_ (below_step (by repeat ((with_reducible first | exact HB.out | refine below_set ?_ GE117.out))) hb); clear BK101 BK109 BK117 HB; have BK101 := n0_; have BK109 := n1_; have BK117 := n2_; have HB := n3_; clear n0_ n1_ n2_ n3_; (try clear hb); (try clear hk)))
   go_ret
   exact ⟨by rfl, by repeat ((with_reducible exact HB.out))⟩
 ·replace c7 := Bool.eq_false_iff.mpr c7
  subst c7
  have H1 : (some false) = some r := by rw [if_neg (show ¬ (false = true) by decide)] at H; exact H
  clear H
  have H := H1
  clear H1
  obtain rfl := Option.some.inj H
  go_enter Try.func15, Try.ntmps15
  go_wp2_with (first | ((with_reducible refine gate_dst (N := 1) rfl ?_); refine be_ 1 #[.int .i64 a0_0, .int .i64 a0_1, .int .i64 a0_2] 38 ?_; intro gb101 hg w41 hbox hb; have n0_ := A_ (bs_ HB.1 hb); have n1_ := A_ (hbox); have n2_ := A_ (bS_ HB.out hg); have n3_ := A_ (bS_ HB.out hg); clear HB; have HB := n0_; have BK101 := n1_; have GW101 := n2_; have GE101 := n3_; clear n0_ n1_ n2_ n3_ hb hbox hg; obtain ⟨hcz42_0, hcz42_1, hcz42_2⟩ := kk3_ BK101.1; have hfz42_0 := bf_ BK101.out 0; have hfz42_1 := bf_ BK101.out 1; have hfz42_2 := bf_ BK101.out 2) | ((with_reducible refine gate_callee (f := 29) rfl ?_); refine gl_ 9 Try.func29 #[.agg #[.int .i64 a0_0, .int .i64 a0_1, .int .i64 a0_2]] ?_; (with_reducible refine (laws_toMaze.calls a0_0 a0_1 a0_2 t102 t103 t104 _ A2.out).mono ?_); rintro e w43 ⟨rfl, hb⟩; (try clear A2); refine ⟨_, rfl, ?_⟩; have n0_ := A_ (blk_below BK101.out hb); have n1_ := A_ (bs_ HB.1 hb); clear BK101 HB; have BK101 := n0_; have HB := n1_; clear n0_ n1_; (try clear hb); (try clear hk)) | ((with_reducible refine gate_callee (f := 54) rfl ?_); refine gl_ 10 Try.func54 #[.agg #[.int .i64 t102, .int .i64 t103, .int .i64 t104]] ?_; (with_reducible refine (spec_NextMaze.calls k t102 t103 t104 t105 t106 t107 t108 _ A3.out).mono ?_); rintro e w44 ⟨rfl, hb⟩; (try clear A3); refine ⟨_, rfl, ?_⟩; have n0_ := A_ (blk_below BK101.out hb); have n1_ := A_ (bs_ HB.1 hb); clear BK101 HB; have BK101 := n0_; have HB := n1_; clear n0_ n1_; (try clear hb); (try clear hk)) | ((with_reducible refine gate_dst (N := 3) rfl ?_); refine be_ 3 #[.int .i64 0, .int .i64 0, .int .i64 0] 42 ?_; intro gb109 hg w45 hbox hb; have n0_ := A_ (blk_below BK101.out hb); have n1_ := A_ (bs_ HB.1 hb); have n2_ := A_ (hbox); have n3_ := A_ (bS_ HB.out hg); have n4_ := A_ (bS_ HB.out hg); have n5_ := A_ ((by rw [hg]; exact Nat.ne_of_lt (blk_lt (g := gb101) (o := .cells #[.int .i64 a0_0, .int .i64 a0_1, .int .i64 a0_2] 38 (0, 0)) BK101.out) : gb101 ≠ gb109)); have n6_ := A_ ((by rw [hg]; exact Nat.ne_of_gt (blk_lt (g := gb101) (o := .cells #[.int .i64 a0_0, .int .i64 a0_1, .int .i64 a0_2] 38 (0, 0)) BK101.out) : gb109 ≠ gb101)); clear BK101 HB; have BK101 := n0_; have HB := n1_; have BK109 := n2_; have GW109 := n3_; have GE109 := n4_; have NB101_109 := n5_; have NB109_101 := n6_; clear n0_ n1_ n2_ n3_ n4_ n5_ n6_ hb hbox hg; have hnb46 := NB109_101.out; have hnc46 := NB101_109.out; obtain ⟨hcz47_0, hcz47_1, hcz47_2⟩ := kk3_ BK109.1; have hfz47_0 := bf_ BK109.out 0; have hfz47_1 := bf_ BK109.out 1; have hfz47_2 := bf_ BK109.out 2; obtain ⟨hcz48_0, hcz48_1, hcz48_2⟩ := kk3_ BK101.1; have hfz48_0 := bf_ BK101.out 0; have hfz48_1 := bf_ BK101.out 1; have hfz48_2 := bf_ BK101.out 2) | ((with_reducible refine gate_callee (f := 29) rfl ?_); refine gl_ 15 Try.func29 #[.agg #[.int .i64 a0_0, .int .i64 a0_1, .int .i64 a0_2]] ?_; (with_reducible refine (laws_toMaze.calls a0_0 a0_1 a0_2 t110 t111 t112 _ A4.out).mono ?_); rintro e w49 ⟨rfl, hb⟩; (try clear A4); refine ⟨_, rfl, ?_⟩; have n0_ := A_ (blk_below (g := gb101) (o := .cells #[.int .i64 a0_0, .int .i64 a0_1, .int .i64 a0_2] 38 (0, 0)) (by refine blk_far ?_ NB101_109.out _; refine blk_far ?_ NB101_109.out _; refine blk_far ?_ NB101_109.out _; exact BK101.out) hb); have n1_ := A_ (blk_below (g := gb109) (o := .cells #[.int .i64 t105, .int .i64 t106, .int .i64 t107] 42 (0, 0)) (by refine blk_put (cs := #[.int .i64 t105, .int .i64 t106, .int .i64 0]) ?_ 2 _ rfl; refine blk_put (cs := #[.int .i64 t105, .int .i64 0, .int .i64 0]) ?_ 1 _ rfl; refine blk_put (cs := #[.int .i64 0, .int .i64 0, .int .i64 0]) ?_ 0 _ rfl; exact BK109.out) hb); have n2_ := A_ (below_step (by repeat ((with_reducible first | exact HB.out | refine below_set ?_ GE109.out))) hb); clear BK101 BK109 HB; have BK101 := n0_; have BK109 := n1_; have HB := n2_; clear n0_ n1_ n2_; (try clear hb); (try clear hk)) | ((with_reducible refine gate_callee (f := 45) rfl ?_); refine gl_ 16 Try.func45 #[.agg #[.int .i64 t110, .int .i64 t111, .int .i64 t112]] ?_; (with_reducible refine (impl_NextMaze.calls k t110 t111 t112 t113 t114 t115 t116 _ A5.out).mono ?_); rintro e w50 ⟨rfl, hb⟩; (try clear A5); refine ⟨_, rfl, ?_⟩; have n0_ := A_ (blk_below BK101.out hb); have n1_ := A_ (blk_below BK109.out hb); have n2_ := A_ (bs_ HB.1 hb); clear BK101 BK109 HB; have BK101 := n0_; have BK109 := n1_; have HB := n2_; clear n0_ n1_ n2_; (try clear hb); (try clear hk)) | ((with_reducible refine gate_dst (N := 5) rfl ?_); refine be_ 5 #[.int .i64 0, .int .i64 0, .int .i64 0] 42 ?_; intro gb117 hg w51 hbox hb; have n0_ := A_ (blk_below BK101.out hb); have n1_ := A_ (blk_below BK109.out hb); have n2_ := A_ (bs_ HB.1 hb); have n3_ := A_ (hbox); have n4_ := A_ (bS_ HB.out hg); have n5_ := A_ (bS_ HB.out hg); have n6_ := A_ ((by rw [hg]; exact Nat.ne_of_lt (blk_lt (g := gb101) (o := .cells #[.int .i64 a0_0, .int .i64 a0_1, .int .i64 a0_2] 38 (0, 0)) BK101.out) : gb101 ≠ gb117)); have n7_ := A_ ((by rw [hg]; exact Nat.ne_of_gt (blk_lt (g := gb101) (o := .cells #[.int .i64 a0_0, .int .i64 a0_1, .int .i64 a0_2] 38 (0, 0)) BK101.out) : gb117 ≠ gb101)); have n8_ := A_ ((by rw [hg]; exact Nat.ne_of_lt (blk_lt (g := gb109) (o := .cells #[.int .i64 t105, .int .i64 t106, .int .i64 t107] 42 (0, 0)) BK109.out) : gb109 ≠ gb117)); have n9_ := A_ ((by rw [hg]; exact Nat.ne_of_gt (blk_lt (g := gb109) (o := .cells #[.int .i64 t105, .int .i64 t106, .int .i64 t107] 42 (0, 0)) BK109.out) : gb117 ≠ gb109)); clear BK101 BK109 HB; have BK101 := n0_; have BK109 := n1_; have HB := n2_; have BK117 := n3_; have GW117 := n4_; have GE117 := n5_; have NB101_117 := n6_; have NB117_101 := n7_; have NB109_117 := n8_; have NB117_109 := n9_; clear n0_ n1_ n2_ n3_ n4_ n5_ n6_ n7_ n8_ n9_ hb hbox hg; have hnb52 := NB117_101.out; have hnc52 := NB101_117.out; have hnb53 := NB117_109.out; have hnc53 := NB109_117.out; obtain ⟨hcz54_0, hcz54_1, hcz54_2⟩ := kk3_ BK117.1; have hfz54_0 := bf_ BK117.out 0; have hfz54_1 := bf_ BK117.out 1; have hfz54_2 := bf_ BK117.out 2; obtain ⟨hcz55_0, hcz55_1, hcz55_2⟩ := kk3_ BK109.1; have hfz55_0 := bf_ BK109.out 0; have hfz55_1 := bf_ BK109.out 1; have hfz55_2 := bf_ BK109.out 2) | ((with_reducible refine gate_callee (f := 48) rfl ?_); refine gl_ 21 Try.func48 #[.agg #[.int .i64 t113, .int .i64 t114, .int .i64 t115], .agg #[.int .i64 t105, .int .i64 t106, .int .i64 t107]] ?_; (with_reducible refine (laws_eqMaze.calls t113 t114 t115 t105 t106 t107 false _ A6.out).mono ?_); rintro e w56 ⟨rfl, hb⟩; (try clear A6); refine ⟨_, rfl, ?_⟩; have n0_ := A_ (blk_below (g := gb101) (o := .cells #[.int .i64 a0_0, .int .i64 a0_1, .int .i64 a0_2] 38 (0, 0)) (by refine blk_far ?_ NB101_117.out _; refine blk_far ?_ NB101_117.out _; refine blk_far ?_ NB101_117.out _; exact BK101.out) hb); have n1_ := A_ (blk_below (g := gb109) (o := .cells #[.int .i64 t105, .int .i64 t106, .int .i64 t107] 42 (0, 0)) (by refine blk_far ?_ NB109_117.out _; refine blk_far ?_ NB109_117.out _; refine blk_far ?_ NB109_117.out _; exact BK109.out) hb); have n2_ := A_ (blk_below (g := gb117) (o := .cells #[.int .i64 t113, .int .i64 t114, .int .i64 t115] 42 (0, 0)) (by refine blk_put (cs := #[.int .i64 t113, .int .i64 t114, .int .i64 0]) ?_ 2 _ rfl; refine blk_put (cs := #[.int .i64 t113, .int .i64 0, .int .i64 0]) ?_ 1 _ rfl; refine blk_put (cs := #[.int .i64 0, .int .i64 0, .int .i64 0]) ?_ 0 _ rfl; exact BK117.out) hb); have n3_ := A_ (below_step (by repeat ((with_reducible first | exact HB.out | refine below_set ?_ GE117.out))) hb); clear BK101 BK109 BK117 HB; have BK101 := n0_; have BK109 := n1_; have BK117 := n2_; have HB := n3_; clear n0_ n1_ n2_ n3_; (try clear hb); (try clear hk)))
  go_ret
  exact ⟨by rfl, by repeat ((with_reducible exact HB.out))⟩

end Go.Proofs.Ytoohcdfokejkdaa.P
namespace Go.Proofs.Ytoohcdfokejkdaa.Sup
open Go.ChangeShapes Go.WideShapes Go.ChangeAt Go.RowKit Go.Joins Go.Proofs.YtoohcdfokejkdaaW.PrintWords
set_option linter.unusedVariables false
set_option linter.unusedSimpArgs false

def InR (a : Int) : Prop := -9223372036854775808 ≤ a ∧ a ≤ 9223372036854775807
theorem inR_of_wf {a : Int} (h : (Lit.int .i64 a).wf = true) : InR a := by
 simp only [Lit.wf, IntKind.min, IntKind.max, IntKind.signed, IntKind.bits, Bool.and_eq_true, decide_eq_true_eq, if_true] at h
 unfold InR
 omega
section
variable {H : Type} {enc : TypeId × Value → H} {P : Program} {w : World} {base : Nat} {spare : Nat → Bool} {held : Bool}

theorem open3 {r : Reach} {b0 : Nat} {t : TypeId} {f0 f1 g0 g1 : Field} {v : Value} {d : DataW H} {p : List MemPlace} (hs : P.underlying t = some (.struct #[f0, f1])) (hs0 : P.underlying f0.type = some (.struct #[g0, g1]))
  (hg0 : P.underlying g0.type = some (.int .i64)) (hg1 : P.underlying g1.type = some (.int .i64)) (h1 : P.underlying f1.type = some (.int .i64))
  (o0 : f0.offset = 0) (o1 : f1.offset = 2) (p0 : g0.offset = 0) (p1 : g1.offset = 1) (c0 : P.cellsOf f0.type = 2) (c1 : P.cellsOf f1.type = 1) (e0 : P.cellsOf g0.type = 1) (e1 : P.cellsOf g1.type = 1) (hC : P.cellsOf t = 3)
  (hv : Value.okWide P w r b0 t v) (h : DataW.Trod enc P w base spare held t v d p) :
  ∃ a b c : Int, v = .agg #[.int .i64 a, .int .i64 b, .int .i64 c] ∧ InR a ∧ InR b ∧ InR c := by
 obtain ⟨cs, rfl, hsz⟩ := okWide_struct hs hv
 obtain ⟨x0, x1, x2, rfl⟩ := array3 (hsz.trans hC)
 obtain ⟨fuel, hf⟩ := h
 obtain ⟨y0, y1, n, hx, _, k0, k1⟩ := trod_struct2 hs hf
 simp only [Value.cells, o0, o1, c0, c1, List.drop_zero, List.take_succ_cons, List.take_zero, List.drop_succ_cons] at k0 k1
 obtain ⟨z0, z1, n', hx', _, j0, j1⟩ := trod_struct2 hs0 k0
 simp only [p0, p1, e0, e1, List.drop_zero, List.take_succ_cons, List.take_zero, List.drop_succ_cons] at j0 j1
 obtain ⟨a, q0, _, w0⟩ := DataW.trod_int hg0 j0
 obtain ⟨b, q1, _, w1⟩ := DataW.trod_int hg1 j1
 obtain ⟨c, q2, _, w2⟩ := DataW.trod_int h1 k1
 simp at q0 q1 q2
 subst q0 q1 q2
 exact ⟨a, b, c, rfl, inR_of_wf w0, inR_of_wf w1, inR_of_wf w2⟩
end

end Go.Proofs.Ytoohcdfokejkdaa.Sup
namespace Go.Proofs.Ytoohcdfokejkdaa.P
open Go.RowKit Go.Proofs.YtoohcdfokejkdaaW.PrintWords
set_option linter.unusedVariables false
set_option linter.unusedSimpArgs false
section
variable {α β : Type}
theorem Ev.tt {c : Prop} [Decidable c] {g f : Nat → Option α} {r : α} (h : c) (e : Ev g r) : Ev (fun k => if c then g k else f k) r := by simpa only [if_pos h] using e
theorem Ev.ff {c : Prop} [Decidable c] {g f : Nat → Option α} {r : α} (h : ¬ c) (e : Ev f r) : Ev (fun k => if c then g k else f k) r := by simpa only [if_neg h] using e
theorem Ev.ite {c : Prop} [Decidable c] {g f : Nat → Option α} {r : α} (e1 : c → Ev g r) (e2 : ¬ c → Ev f r) : Ev (fun k => if c then g k else f k) r := by
 by_cases h : c
 ·exact Ev.tt h (e1 h)
 ·exact Ev.ff h (e2 h)
theorem Ev.bnd0 {o : Option α} {f : Nat → α → Option β} {a : α} {r : β} (h : o = some a) (k : Ev (fun n => f n a) r) : Ev (fun n => o.bind (f n)) r := by subst h; exact k
theorem Ev.ret {a r : α} (h : a = r) : Ev (fun _ => some a) r := ⟨0, fun _ _ => by rw [h]⟩
theorem Ev.eq {g : Nat → Option α} {r r' : α} (h : Ev g r) (e : r = r') : Ev g r' := e ▸ h
end
theorem wrap64_id {x : Int} (h0 : -9223372036854775808 ≤ x) (h1 : x ≤ 9223372036854775807) : wrap64 x = x := by unfold wrap64; omega
theorem wsucc {i : Nat} (h : i < 4611686018427387904) : wrap64 ((i : Int) + 1) = ((i + 1 : Nat) : Int) := by unfold wrap64; omega
theorem rd_nat (l : List Int) (i : Nat) : rd l (i : Int) = l.getD i 0 := rfl
theorem rd_get {l : List Int} {i : Nat} (h : i < l.length) : rd l (i : Int) = l[i] := by simp [rd_nat, List.getD_eq_getElem?_getD, List.getElem?_eq_getElem h]
end Go.Proofs.Ytoohcdfokejkdaa.P
namespace Go.Proofs.Ytoohcdfokejkdaa.P
open Go.RowKit Go.Proofs.YtoohcdfokejkdaaW.PrintWords
set_option linter.unusedVariables false
set_option linter.unusedSimpArgs false

theorem l01In_eq (a b c : Int) : spec_l01In.f a b c = some (decide (b ≤ a ∧ a ≤ c)) := by
 unfold spec_l01In.f
 by_cases h : a ≥ b
 ·rw [if_pos h]; congr 1; simp; omega
 ·rw [if_neg h]; congr 1; simp; omega

end Go.Proofs.Ytoohcdfokejkdaa.P
namespace Go.Proofs.Ytoohcdfokejkdaa.P
open Go Go.RowKit Go.Proofs.YtoohcdfokejkdaaW.PrintWords
set_option linter.unusedVariables false
set_option linter.unusedSimpArgs false

theorem wrap_small {n : Nat} (h : n < 9223372036854775808) : IntKind.i64.wrap (n : Int) = n := by
 rw [IntKind.wrap_i64]; omega
theorem shl_pow {k : Nat} (h : k < 63) : shl .i64 1 (k : Int) = ((2 ^ k : Nat) : Int) := by
 have h1 : (2 : Nat) ^ k < 2 ^ 63 := Nat.pow_lt_pow_right (by decide) h
 unfold shl
 rw [show min (k : Int).toNat IntKind.i64.bits = k by simp [IntKind.bits]; omega, Int.one_mul]
 have := wrap_small (n := 2 ^ k) (by simpa using h1)
 simpa using this
theorem bits_and {a b : Nat} (ha : a < 4611686018427387904) (hb : b < 4611686018427387904) : Go.bits .and .i64 a b = ((a &&& b : Nat) : Int) :=
 (bits_nat .i64 62 (by decide) (fun n h0 h1 => by rw [IntKind.wrap_i64]; omega) a b (by simpa using ha) (by simpa using hb)).1
theorem bits_or {a b : Nat} (ha : a < 4611686018427387904) (hb : b < 4611686018427387904) : Go.bits .or .i64 a b = ((a ||| b : Nat) : Int) :=
 (bits_nat .i64 62 (by decide) (fun n h0 h1 => by rw [IntKind.wrap_i64]; omega) a b (by simpa using ha) (by simpa using hb)).2
def andNot (a b : Nat) : Nat := a ^^^ (a &&& b)
theorem testBit_andNot (a b i : Nat) : (andNot a b).testBit i = (a.testBit i && !b.testBit i) := by
 simp [andNot]
 cases a.testBit i <;> cases b.testBit i <;> rfl
theorem andNot_le (a b : Nat) : andNot a b ≤ a := by
 apply Nat.le_of_testBit
 intro i h
 rw [testBit_andNot] at h
 simp at h
 exact h.1
theorem bits_andNot {a b : Nat} (ha : a < 4611686018427387904) (hb : b < 4611686018427387904) : Go.bits .andNot .i64 a b = ((andNot a b : Nat) : Int) := by
 have e : (BitVec.ofInt 64 (a : Int) &&& ~~~ BitVec.ofInt 64 (b : Int)).toNat = andNot a b := by
  rw [BitVec.ofInt_natCast, BitVec.ofInt_natCast]
  apply Nat.eq_of_testBit_eq
  intro i
  rw [testBit_andNot, BitVec.testBit_toNat, BitVec.getLsbD_and, BitVec.getLsbD_not, BitVec.getLsbD_ofNat, BitVec.getLsbD_ofNat]
  by_cases h : i < 64
  ·simp [h]
  ·have : a.testBit i = false := Nat.testBit_lt_two_pow (Nat.lt_of_lt_of_le (by simpa using ha : a < 2 ^ 62) (Nat.pow_le_pow_right (by decide) (by omega)))
   simp [h, this]
 show IntKind.i64.wrap ((BitVec.ofInt 64 (a : Int) &&& ~~~ BitVec.ofInt 64 (b : Int)).toNat : Int) = _
 rw [e]
 exact wrap_small (by have := andNot_le a b; omega)
theorem shr_nat {m : Nat} (hm : m < 4611686018427387904) (k : Nat) : shr .i64 (m : Int) (k : Int) = ((m / 2 ^ k : Nat) : Int) := by
 unfold shr
 by_cases h : k ≤ 64
 ·rw [show min (k : Int).toNat IntKind.i64.bits = k by simp [IntKind.bits]; omega]
  simp
 ·rw [show min (k : Int).toNat IntKind.i64.bits = 64 by simp [IntKind.bits]; omega]
  have h1 : m / 2 ^ k = 0 := Nat.div_eq_of_lt (Nat.lt_of_lt_of_le (by simpa using hm : m < 2 ^ 62) (Nat.pow_le_pow_right (by decide) (by omega)))
  rw [h1]
  have : (m : Int) / 2 ^ 64 = ((m / 2 ^ 64 : Nat) : Int) := by simp
  rw [this, Nat.div_eq_of_lt (by omega)]
theorem bit_test {m : Nat} (hm : m < 4611686018427387904) (k : Nat) (c : Int) : (Go.bits .and .i64 (shr .i64 (m : Int) (k : Int)) 1 == c) = (((m.testBit k).toNat : Int) == c) := by
 rw [shr_nat hm, show (1 : Int) = ((1 : Nat) : Int) from rfl, bits_and (Nat.lt_of_le_of_lt (Nat.div_le_self _ _) hm) (by decide)]
 congr 2
 rw [Nat.testBit_eq_decide_div_mod_eq, Nat.and_one_is_mod]
 have := Nat.mod_two_eq_zero_or_one (m / 2 ^ k)
 rcases this with h | h <;> simp [h]
theorem bit_one {m : Nat} (hm : m < 4611686018427387904) (k : Nat) : (Go.bits .and .i64 (shr .i64 (m : Int) (k : Int)) 1 == 1) = m.testBit k := by
 rw [bit_test hm]
 cases m.testBit k <;> rfl
theorem bit_zero {m : Nat} (hm : m < 4611686018427387904) (k : Nat) : (Go.bits .and .i64 (shr .i64 (m : Int) (k : Int)) 1 == 0) = !m.testBit k := by
 rw [bit_test hm]
 cases m.testBit k <;> rfl
def setB (o g : Nat) (b : Bool) : Nat := if b then o ||| 2 ^ g else andNot o (2 ^ g)
theorem testBit_setB (o g : Nat) (b : Bool) (i : Nat) : (setB o g b).testBit i = if i = g then b else o.testBit i := by
 unfold setB
 cases b
 ·simp only [Bool.false_eq_true, if_false, testBit_andNot, Nat.testBit_two_pow]
  by_cases h : i = g
  ·simp [h]
  ·simp [h, show ¬ g = i from fun e => h e.symm]
 ·simp only [if_true, Nat.testBit_or, Nat.testBit_two_pow]
  by_cases h : i = g
  ·simp [h]
  ·simp [h, show ¬ g = i from fun e => h e.symm]
theorem setB_lt {o g n : Nat} (b : Bool) (ho : o < 2 ^ n) (hg : g < n) : setB o g b < 2 ^ n := by
 unfold setB
 split
 ·exact Nat.or_lt_two_pow ho (Nat.pow_lt_pow_right (by decide) hg)
 ·exact Nat.lt_of_le_of_lt (andNot_le _ _) ho
end Go.Proofs.Ytoohcdfokejkdaa.P
namespace Go.Proofs.Ytoohcdfokejkdaa.P
open Go.RowKit Go.Proofs.YtoohcdfokejkdaaW.PrintWords
set_option linter.unusedVariables false
set_option linter.unusedSimpArgs false

def pop : Nat → Nat → Nat
 | 0, _ => 0
 | n + 1, s => pop n s + (s.testBit n).toNat
theorem pop_le (n s : Nat) : pop n s ≤ n := by
 induction n with
 | zero => simp [pop]
 | succ n ih => simp only [pop]; have := Bool.toNat_le (s.testBit n); omega
theorem pop_congr {n s t : Nat} (h : ∀ i, i < n → s.testBit i = t.testBit i) : pop n s = pop n t := by
 induction n with
 | zero => rfl
 | succ n ih => simp only [pop]; rw [ih (fun i hi => h i (by omega)), h n (by omega)]
theorem pop_add (m n s : Nat) : pop (m + n) s = pop m s + pop n (s / 2 ^ m) := by
 induction n with
 | zero => simp [pop]
 | succ n ih =>
  rw [← Nat.add_assoc]
  simp only [pop]
  rw [ih, Nat.add_assoc, Nat.testBit_div_two_pow, Nat.add_comm n m]
theorem pop_mod (n s : Nat) : pop n (s % 2 ^ n) = pop n s := pop_congr fun i hi => by rw [Nat.testBit_mod_two_pow]; simp [hi]
theorem pop_big {n m s : Nat} (h : s < 2 ^ n) (hm : n ≤ m) : pop m s = pop n s := by
 obtain ⟨d, rfl⟩ := Nat.exists_eq_add_of_le hm
 rw [pop_add, Nat.div_eq_of_lt h]
 have : pop d 0 = 0 := by
  induction d with
  | zero => rfl
  | succ d ih => simp only [pop, Nat.zero_testBit]; rw [ih (by omega)]; rfl
 rw [this, Nat.add_zero]
def gridOk (w h : Int) : Bool := decide (1 ≤ w ∧ w ≤ 4 ∧ 1 ≤ h ∧ h ≤ 4)
theorem gridOk_iff {w h : Int} : gridOk w h = true ↔ 1 ≤ w ∧ w ≤ 4 ∧ 1 ≤ h ∧ h ≤ 4 := by simp [gridOk]
theorem grid_cases {w h : Int} (hg : gridOk w h = true) : (w = 1 ∨ w = 2 ∨ w = 3 ∨ w = 4) ∧ (h = 1 ∨ h = 2 ∨ h = 3 ∨ h = 4) := by
 rw [gridOk_iff] at hg
 omega
def cellsOf (w h : Int) : Int := if gridOk w h then w * h else 0
def eastOf (w h : Int) : Int := (w - 1) * h
def gapsOf (w h : Int) : Int := if gridOk w h then (w - 1) * h + w * (h - 1) else 0
theorem cellsOf_range (w h : Int) : 0 ≤ cellsOf w h ∧ cellsOf w h ≤ 16 := by
 unfold cellsOf
 split
 ·rename_i hg
  obtain ⟨h1 | h1 | h1 | h1, h2 | h2 | h2 | h2⟩ := grid_cases hg <;> subst h1 <;> subst h2 <;> decide
 ·omega
theorem gapsOf_range (w h : Int) : 0 ≤ gapsOf w h ∧ gapsOf w h ≤ 24 := by
 unfold gapsOf
 split
 ·rename_i hg
  obtain ⟨h1 | h1 | h1 | h1, h2 | h2 | h2 | h2⟩ := grid_cases hg <;> subst h1 <;> subst h2 <;> decide
 ·omega
theorem pow_le {n : Int} (h0 : 0 ≤ n) (h1 : n ≤ 24) : (1 : Int) ≤ 2 ^ n.toNat ∧ (2 : Int) ^ n.toNat ≤ 16777216 := by
 obtain ⟨m, rfl⟩ := Int.eq_ofNat_of_zero_le h0
 have : m ≤ 24 := by omega
 clear h0 h1
 revert m
 decide +kernel
def isCellI (w h c : Int) : Bool := decide (0 ≤ c ∧ c < cellsOf w h)
def nbI (w h c d : Int) : Int :=
 if 0 ≤ c ∧ c < cellsOf w h then
  (if d = 0 ∧ 0 < c / w then c - w else if d = 1 ∧ c % w < w - 1 then c + 1 else if d = 2 ∧ c / w < h - 1 then c + w else if d = 3 ∧ 0 < c % w then c - 1 else -1)
 else -1
theorem cellsOf_valid {w h c : Int} (h1 : 0 ≤ c) (h2 : c < cellsOf w h) : gridOk w h = true ∧ cellsOf w h = w * h := by
 unfold cellsOf at *
 by_cases hg : gridOk w h = true
 ·exact ⟨hg, if_pos hg⟩
 ·rw [if_neg hg] at h2; omega
def gapsN (w h : Int) : Nat := (gapsOf w h).toNat
theorem gapsN_le (w h : Int) : gapsN w h ≤ 24 := by have := gapsOf_range w h; unfold gapsN; omega
theorem gapsN_cast (w h : Int) : ((gapsN w h : Nat) : Int) = gapsOf w h := by have := gapsOf_range w h; unfold gapsN; omega
def mazeOk (w h o : Int) : Bool := gridOk w h && decide (0 ≤ o ∧ o < 2 ^ gapsN w h)
theorem mazeOk_iff {w h o : Int} : mazeOk w h o = true ↔ gridOk w h = true ∧ ∃ n : Nat, o = (n : Int) ∧ n < 2 ^ gapsN w h := by
 unfold mazeOk
 simp only [Bool.and_eq_true, decide_eq_true_eq]
 constructor
 ·rintro ⟨h1, h2, h3⟩
  obtain ⟨n, rfl⟩ := Int.eq_ofNat_of_zero_le h2
  exact ⟨h1, n, rfl, by exact_mod_cast h3⟩
 ·rintro ⟨h1, n, rfl, h3⟩
  exact ⟨h1, by omega, by exact_mod_cast h3⟩
theorem open_small {w h : Int} {n : Nat} (hn : n < 2 ^ gapsN w h) : n < 16777216 := Nat.lt_of_lt_of_le hn (Nat.pow_le_pow_right (by decide) (gapsN_le w h))
def openI (n : Nat) (g : Int) : Bool := decide (0 ≤ g) && n.testBit g.toNat
theorem openI_nat' (n j : Nat) : openI n (j : Int) = n.testBit j := by simp [openI]
def isGapI (w h g : Int) : Bool := decide (0 ≤ g ∧ g < gapsOf w h)
theorem open_isGap {w h g : Int} {n : Nat} (hn : n < 2 ^ gapsN w h) (ho : openI n g = true) : isGapI w h g = true := by
 unfold openI isGapI at *
 simp only [Bool.and_eq_true, decide_eq_true_eq] at *
 have : g.toNat < gapsN w h := by
  rcases Nat.lt_or_ge g.toNat (gapsN w h) with h1 | h1
  ·exact h1
  ·rw [Nat.testBit_lt_two_pow (Nat.lt_of_lt_of_le hn (Nat.pow_le_pow_right (by decide) h1))] at ho
   exact absurd ho.2 (by decide)
 have := gapsN_cast w h
 omega
theorem gapsOf_valid {w h g : Int} (h1 : 0 ≤ g) (h2 : g < gapsOf w h) : gridOk w h = true ∧ gapsOf w h = (w - 1) * h + w * (h - 1) := by
 unfold gapsOf at *
 by_cases hg : gridOk w h = true
 ·exact ⟨hg, if_pos hg⟩
 ·rw [if_neg hg] at h2; omega
def gapI (w h c d : Int) : Int :=
 if nbI w h c d < 0 then -1 else if d = 1 ∨ d = 3 then (min c (nbI w h c d)) / w * (w - 1) + (min c (nbI w h c d)) % w else (w - 1) * h + min c (nbI w h c d)
def endsI (w h g : Int) : Int × Int :=
 if 0 ≤ g ∧ g < gapsOf w h then (if g < (w - 1) * h then (g / (w - 1) * w + g % (w - 1), g / (w - 1) * w + g % (w - 1) + 1) else (g - (w - 1) * h, g - (w - 1) * h + w)) else (-1, -1)
theorem nb_dir {w h c d : Int} (hn : 0 ≤ nbI w h c d) : (d = 0 ∨ d = 1 ∨ d = 2 ∨ d = 3) ∧ 0 ≤ c ∧ c < cellsOf w h := by
 unfold nbI at hn
 by_cases hc : 0 ≤ c ∧ c < cellsOf w h
 ·rw [if_pos hc] at hn
  refine ⟨?_, hc⟩
  repeat' split at hn
  all_goals omega
 ·rw [if_neg hc] at hn
  omega
theorem grid_nat {w h : Int} (hg : gridOk w h = true) : ∃ W H : Nat, w = W ∧ h = H ∧ 1 ≤ W ∧ W < 5 ∧ 1 ≤ H ∧ H < 5 := by
 have := gridOk_iff.1 hg
 exact ⟨w.toNat, h.toNat, by omega, by omega, by omega, by omega, by omega, by omega⟩
def StepFacts (w h c d : Int) : Prop :=
 nbI w h c d = -1 ∧ gapI w h c d = -1 ∨
 (0 ≤ nbI w h c d ∧ nbI w h c d < cellsOf w h ∧ nbI w h c d ≠ c ∧ 0 ≤ gapI w h c d ∧ gapI w h c d < gapsOf w h ∧
  endsI w h (gapI w h c d) = (min c (nbI w h c d), max c (nbI w h c d)) ∧ nbI w h (nbI w h c d) ((d + 2) % 4) = c ∧ gapI w h (nbI w h c d) ((d + 2) % 4) = gapI w h c d)
instance (w h c d : Int) : Decidable (StepFacts w h c d) := by unfold StepFacts; infer_instance
theorem step_facts_all : ∀ W : Nat, W < 5 → ∀ H : Nat, H < 5 → ∀ c : Nat, c < 16 → ∀ d : Nat, d < 4 → StepFacts W H c d := by decide +kernel
theorem step_facts (w h c d : Int) : StepFacts w h c d := by
 by_cases hn : 0 ≤ nbI w h c d
 ·obtain ⟨hd, h0, h1⟩ := nb_dir hn
  obtain ⟨hg, hcw⟩ := cellsOf_valid h0 h1
  obtain ⟨W, H, rfl, rfl, hW1, hW2, hH1, hH2⟩ := grid_nat hg
  have hcr := cellsOf_range (W : Int) (H : Int)
  have := step_facts_all W hW2 H hH2 c.toNat (by omega) d.toNat (by omega)
  rwa [show ((c.toNat : Nat) : Int) = c by omega, show ((d.toNat : Nat) : Int) = d by omega] at this
 ·have hm : nbI w h c d = -1 := by
   unfold nbI at *
   by_cases hc : 0 ≤ c ∧ c < cellsOf w h
   ·rw [if_pos hc] at *
    obtain ⟨hg, hcw⟩ := cellsOf_valid hc.1 hc.2
    have hgr := gridOk_iff.1 hg
    have hyw : c / w * w + c % w = c := by rw [Int.mul_comm]; exact Int.mul_ediv_add_emod c w
    have hx0 : 0 ≤ c % w := Int.emod_nonneg _ (by omega)
    repeat' split
    ·rename_i hh
     rw [if_pos hh] at hn
     have : w ≤ c := by
      have : w * 1 ≤ w * (c / w) := Int.mul_le_mul_of_nonneg_left (by omega) (by omega)
      rw [Int.mul_comm (c / w)] at hyw
      omega
     omega
    ·rename_i h1 hh
     rw [if_neg h1, if_pos hh] at hn
     omega
    ·rename_i h1 h2 hh
     rw [if_neg h1, if_neg h2, if_pos hh] at hn
     omega
    ·rename_i h1 h2 h3 hh
     rw [if_neg h1, if_neg h2, if_neg h3, if_pos hh] at hn
     have : 1 ≤ c := by
      have : 0 ≤ c / w * w := Int.mul_nonneg (Int.ediv_nonneg hc.1 (by omega)) (by omega)
      omega
     omega
    ·rfl
   ·rw [if_neg hc]
  refine .inl ⟨hm, ?_⟩
  unfold gapI
  rw [if_pos (by omega)]
def EndFacts (w h g : Int) : Prop :=
 0 ≤ g ∧ g < gapsOf w h → 0 ≤ (endsI w h g).1 ∧ (endsI w h g).1 < (endsI w h g).2 ∧ (endsI w h g).2 < cellsOf w h ∧
  (nbI w h (endsI w h g).1 1 = (endsI w h g).2 ∧ gapI w h (endsI w h g).1 1 = g ∨ nbI w h (endsI w h g).1 2 = (endsI w h g).2 ∧ gapI w h (endsI w h g).1 2 = g)
instance (w h g : Int) : Decidable (EndFacts w h g) := by unfold EndFacts; infer_instance
theorem end_facts_all : ∀ W : Nat, W < 5 → ∀ H : Nat, H < 5 → ∀ g : Nat, g < 24 → EndFacts W H g := by decide +kernel
theorem end_facts {w h g : Int} (h0 : 0 ≤ g) (h1 : g < gapsOf w h) : 0 ≤ (endsI w h g).1 ∧ (endsI w h g).1 < (endsI w h g).2 ∧ (endsI w h g).2 < cellsOf w h ∧
  (nbI w h (endsI w h g).1 1 = (endsI w h g).2 ∧ gapI w h (endsI w h g).1 1 = g ∨ nbI w h (endsI w h g).1 2 = (endsI w h g).2 ∧ gapI w h (endsI w h g).1 2 = g) := by
 obtain ⟨hg, _⟩ := gapsOf_valid h0 h1
 obtain ⟨W, H, rfl, rfl, hW1, hW2, hH1, hH2⟩ := grid_nat hg
 have hr := gapsOf_range (W : Int) (H : Int)
 have := end_facts_all W hW2 H hH2 g.toNat (by omega)
 rw [show ((g.toNat : Nat) : Int) = g by omega] at this
 exact this ⟨h0, h1⟩
theorem nb_lt {w h c d : Int} : nbI w h c d = -1 ∨ 0 ≤ nbI w h c d ∧ nbI w h c d < cellsOf w h := by
 rcases step_facts w h c d with h1 | h1
 ·exact .inl h1.1
 ·exact .inr ⟨h1.1, h1.2.1⟩
def stepI (w h : Int) (n : Nat) (c d : Int) : Int := if openI n (gapI w h c d) then nbI w h c d else -1
theorem step_lt {w h c d : Int} {n : Nat} : stepI w h n c d = -1 ∨ 0 ≤ stepI w h n c d ∧ stepI w h n c d < cellsOf w h := by
 unfold stepI
 split
 ·exact nb_lt
 ·exact .inl rfl
end Go.Proofs.Ytoohcdfokejkdaa.P
namespace Go.Proofs.Ytoohcdfokejkdaa.P
open Go.RowKit Go.Proofs.YtoohcdfokejkdaaW.PrintWords Go.Proofs.Ytoohcdfokejkdaa.Sup
set_option linter.unusedVariables false
set_option linter.unusedSimpArgs false

theorem spec_GridOk_eq (w h : Int) : spec_GridOk.f w h = some (gridOk w h) := by
 unfold spec_GridOk.f
 simp only [l01In_eq, Option.bind_some]
 unfold gridOk
 by_cases h1 : 1 ≤ w ∧ w ≤ 4
 ·simp only [h1, and_self, decide_true, if_true, true_and]
 ·have : ¬ (1 ≤ w ∧ w ≤ 4 ∧ 1 ≤ h ∧ h ≤ 4) := by omega
  rw [decide_eq_false h1, decide_eq_false this]; simp
theorem impl_GridOk_eq (w h : Int) : impl_GridOk.f w h = some (gridOk w h) := by
 unfold impl_GridOk.f gridOk
 repeat' split
 all_goals congr 1
 all_goals first | (rw [decide_eq_decide]; omega) | (symm; rw [decide_eq_false_iff_not]; omega)

theorem impl_CountCells_eq (w h : Int) : impl_CountCells.f w h = some (cellsOf w h) := by
 unfold impl_CountCells.f
 rw [impl_GridOk_eq, Option.bind_some]
 have := cellsOf_range w h
 unfold cellsOf at *
 by_cases hg : gridOk w h = true
 ·rw [if_pos hg] at *
  rw [if_pos hg, wrap64_id (by omega) (by omega)]
 ·rw [if_neg hg, if_neg hg]
theorem spec_CountCells_eq (w h : Int) : spec_CountCells.f w h = some (cellsOf w h) := by
 unfold spec_CountCells.f
 rw [spec_GridOk_eq, Option.bind_some]
 have := cellsOf_range w h
 unfold cellsOf at *
 by_cases hg : gridOk w h = true
 ·rw [if_pos hg] at *
  rw [if_pos hg, wrap64_id (by omega) (by omega)]
 ·rw [if_neg hg, if_neg hg]
theorem impl_CountGaps_eq (w h : Int) : impl_CountGaps.f w h = some (gapsOf w h) := by
 unfold impl_CountGaps.f
 rw [impl_GridOk_eq, Option.bind_some]
 unfold gapsOf
 by_cases hg : gridOk w h = true
 ·rw [if_pos hg, if_pos hg]
  obtain ⟨h1 | h1 | h1 | h1, h2 | h2 | h2 | h2⟩ := grid_cases hg <;> subst h1 <;> subst h2 <;> simp [wrap64, eastOf]
 ·rw [if_neg hg, if_neg hg]
theorem spec_l02East_eq {w h : Int} (hg : gridOk w h = true) : spec_l02East.f w h = some (eastOf w h) := by
 unfold spec_l02East.f eastOf
 obtain ⟨h1 | h1 | h1 | h1, h2 | h2 | h2 | h2⟩ := grid_cases hg <;> subst h1 <;> subst h2 <;> simp [wrap64, eastOf]
theorem spec_CountGaps_eq (w h : Int) : spec_CountGaps.f w h = some (gapsOf w h) := by
 unfold spec_CountGaps.f
 rw [spec_GridOk_eq, Option.bind_some]
 unfold gapsOf
 by_cases hg : gridOk w h = true
 ·rw [if_pos hg, if_pos hg, spec_l02East_eq hg, Option.bind_some]
  obtain ⟨h1 | h1 | h1 | h1, h2 | h2 | h2 | h2⟩ := grid_cases hg <;> subst h1 <;> subst h2 <;> simp [wrap64, eastOf]
 ·rw [if_neg hg, if_neg hg]

theorem shl_one {n : Int} (h0 : 0 ≤ n) (h1 : n ≤ 24) : shl .i64 1 n = 2 ^ n.toNat := by
 obtain ⟨m, rfl⟩ := Int.eq_ofNat_of_zero_le h0
 have : m ≤ 24 := by omega
 clear h0 h1
 revert m
 decide +kernel
end Go.Proofs.Ytoohcdfokejkdaa.P
namespace Go.Proofs.Ytoohcdfokejkdaa.P
open Go.RowKit Go.Proofs.YtoohcdfokejkdaaW.PrintWords
set_option linter.unusedVariables false
set_option linter.unusedSimpArgs false

theorem impl_isCell_eq (w h c : Int) : impl_isCell.f w h c = some (isCellI w h c) := by
 unfold impl_isCell.f isCellI
 rw [impl_CountCells_eq]
 by_cases hc : c ≥ 0
 ·rw [if_pos hc, Option.bind_some]; congr 1; rw [decide_eq_decide]; omega
 ·rw [if_neg hc]; congr 1; symm; rw [decide_eq_false_iff_not]; omega
theorem impl_Neighbor_ev (w h c d : Int) : Ev (fun k => impl_Neighbor.f k w h c d) (nbI w h c d) := by
 unfold impl_Neighbor.f nbI
 refine Ev.bnd0 (impl_isCell_eq w h c) ?_
 unfold isCellI
 by_cases hc : 0 ≤ c ∧ c < cellsOf w h
 ·rw [if_pos hc]
  obtain ⟨hg, hcw⟩ := cellsOf_valid hc.1 hc.2
  have hcr := cellsOf_range w h
  have hgr := gridOk_iff.1 hg
  refine Ev.tt (by simpa using hc) (Ev.ff (by omega) ?_)
  have hx0 : 0 ≤ c % w := Int.emod_nonneg _ (by omega)
  have hx1 : c % w < w := Int.emod_lt_of_pos _ (by omega)
  have hy0 : 0 ≤ c / w := Int.ediv_nonneg hc.1 (by omega)
  have hy1 : c / w ≤ c := Int.ediv_le_self _ hc.1
  rw [Int.tmod_eq_emod_of_nonneg hc.1, Int.tdiv_eq_ediv_of_nonneg hc.1, wrap64_id (x := c / w) (by omega) (by omega)]
  generalize c % w = x at *
  generalize c / w = y at *
  have j2 : ∀ b : Bool, (d ≠ 0 ∨ ¬ 0 < y) → (d ≠ 1 ∨ ¬ x < w - 1) → (b = true ↔ d = 2 ∧ y < h - 1) → Ev (fun k => impl_Neighbor.j2 k c d x b w h) (if d = 2 ∧ y < h - 1 then c + w else if d = 3 ∧ 0 < x then c - 1 else -1) := by
   intro b _ _ hb
   refine Ev.step (fun _ => impl_Neighbor.j2.eq_2 ..) ?_
   refine Ev.ite (fun e => ?_) (fun e => ?_)
   ·rw [if_pos (hb.1 e), wrap64_id (by omega) (by omega)]; exact Ev.ret rfl
   ·rw [if_neg (fun h => e (hb.2 h))]
    refine Ev.ite (fun e3 => Ev.ite (fun e4 => ?_) (fun e4 => ?_)) (fun e3 => ?_)
    ·rw [if_pos ⟨e3, e4⟩, wrap64_id (by omega) (by omega)]; exact Ev.ret rfl
    ·rw [if_neg (fun h => e4 h.2)]; exact Ev.ret rfl
    ·rw [if_neg (fun h => e3 h.1)]; exact Ev.ret rfl
  have j1 : ∀ b : Bool, (d ≠ 0 ∨ ¬ 0 < y) → (b = true ↔ d = 1 ∧ x < w - 1) → Ev (fun k => impl_Neighbor.j1 k c d x y b w h) (if d = 1 ∧ x < w - 1 then c + 1 else if d = 2 ∧ y < h - 1 then c + w else if d = 3 ∧ 0 < x then c - 1 else -1) := by
   intro b h0 hb
   refine Ev.step (fun _ => impl_Neighbor.j1.eq_2 ..) ?_
   refine Ev.ite (fun e => ?_) (fun e => ?_)
   ·rw [if_pos (hb.1 e), wrap64_id (by omega) (by omega)]; exact Ev.ret rfl
   ·have hn : ¬ (d = 1 ∧ x < w - 1) := fun h => e (hb.2 h)
    rw [if_neg hn]
    refine Ev.ite (fun e2 => ?_) (fun e2 => ?_)
    ·refine j2 _ h0 (by omega) ?_
     rw [wrap64_id (by omega) (by omega)]
     simp [e2]
    ·exact j2 _ h0 (by omega) (by simp [e2])
  have j0 : ∀ b : Bool, (b = true ↔ d = 0 ∧ 0 < y) → Ev (fun k => impl_Neighbor.j0 k c d x y b w h) (if d = 0 ∧ 0 < y then c - w else if d = 1 ∧ x < w - 1 then c + 1 else if d = 2 ∧ y < h - 1 then c + w else if d = 3 ∧ 0 < x then c - 1 else -1) := by
   intro b hb
   refine Ev.step (fun _ => impl_Neighbor.j0.eq_2 ..) ?_
   refine Ev.ite (fun e => ?_) (fun e => ?_)
   ·rw [if_pos (hb.1 e), wrap64_id (by omega) (by omega)]; exact Ev.ret rfl
   ·have hn : ¬ (d = 0 ∧ 0 < y) := fun h => e (hb.2 h)
    rw [if_neg hn]
    refine Ev.ite (fun e2 => ?_) (fun e2 => ?_)
    ·refine j1 _ (by omega) ?_
     rw [wrap64_id (by omega) (by omega)]
     simp [e2]
    ·exact j1 _ (by omega) (by simp [e2])
  refine Ev.ite (fun e => ?_) (fun e => ?_)
  ·exact j0 _ (by simp [e])
  ·exact j0 _ (by simp [e])
 ·rw [if_neg hc]
  exact Ev.ff (by simpa using hc) (Ev.ret rfl)
theorem spec_Neighbor_ev (w h c d : Int) : Ev (fun k => spec_Neighbor.f k w h c d) (nbI w h c d) := by
 unfold spec_Neighbor.f nbI
 refine Ev.bnd0 (spec_CountCells_eq w h) ?_
 have hcr := cellsOf_range w h
 rw [wrap64_id (by omega) (by omega)]
 refine Ev.bnd0 (l01In_eq ..) ?_
 by_cases hc : 0 ≤ c ∧ c < cellsOf w h
 ·rw [if_pos hc]
  obtain ⟨hg, hcw⟩ := cellsOf_valid hc.1 hc.2
  have hgr := gridOk_iff.1 hg
  refine Ev.tt (by simp; omega) (Ev.ff (by omega) ?_)
  have hx0 : 0 ≤ c % w := Int.emod_nonneg _ (by omega)
  have hx1 : c % w < w := Int.emod_lt_of_pos _ (by omega)
  have hy0 : 0 ≤ c / w := Int.ediv_nonneg hc.1 (by omega)
  have hy1 : c / w ≤ c := Int.ediv_le_self _ hc.1
  have hxy : c / w * w + c % w = c := by rw [Int.mul_comm]; exact Int.mul_ediv_add_emod c w
  have hy2 : c / w < h := by
   rw [hcw] at hc
   exact Int.ediv_lt_of_lt_mul (by omega) (by rw [Int.mul_comm]; exact hc.2)
  rw [Int.tmod_eq_emod_of_nonneg hc.1, Int.tdiv_eq_ediv_of_nonneg hc.1, wrap64_id (x := c / w) (by omega) (by omega)]
  generalize c % w = x at *
  generalize c / w = y at *
  have j0 : ∀ (a b r : Int), (r = if 0 ≤ a ∧ a ≤ w - 1 ∧ 0 ≤ b ∧ b ≤ h - 1 then b * w + a else -1) → Ev (fun k => spec_Neighbor.j0 k a b w h) r := by
   intro a b r hr
   subst hr
   refine Ev.step (fun _ => spec_Neighbor.j0.eq_2 ..) ?_
   refine Ev.bnd0 (l01In_eq ..) ?_
   rw [wrap64_id (x := w - 1) (by omega) (by omega), wrap64_id (x := h - 1) (by omega) (by omega)]
   by_cases h1 : 0 ≤ a ∧ a ≤ w - 1
   ·refine Ev.tt (by simpa using h1) (Ev.bnd0 (l01In_eq ..) ?_)
    by_cases h2 : 0 ≤ b ∧ b ≤ h - 1
    ·refine Ev.tt (by simpa using h2) (Ev.ret ?_)
     rw [if_pos (by omega)]
     have hb4 : b * w ≤ 3 * 4 := Int.mul_le_mul (by omega) (by omega) (by omega) (by omega)
     have hb0 : 0 ≤ b * w := Int.mul_nonneg (by omega) (by omega)
     rw [wrap64_id (x := b * w) (by omega) (by omega), wrap64_id (by omega) (by omega)]
    ·refine Ev.ff (by simpa using h2) (Ev.ret ?_)
     rw [if_neg (by omega)]
   ·refine Ev.ff (by simpa using h1) (Ev.ret ?_)
    rw [if_neg (by omega)]
  have hm1 : (y - 1) * w + x = c - w := by rw [Int.sub_mul]; omega
  have hp1 : (y + 1) * w + x = c + w := by rw [Int.add_mul]; omega
  refine Ev.ite (fun e => ?_) (fun e => Ev.ite (fun e => ?_) (fun e => Ev.ite (fun e => ?_) (fun e => Ev.ite (fun e => ?_) (fun e => Ev.ret ?_))))
  ·rw [wrap64_id (by omega) (by omega)]
   refine j0 _ _ _ ?_
   subst e
   by_cases h0 : 0 < y
   ·rw [if_pos ⟨rfl, h0⟩, if_pos (by omega), hm1]
   ·rw [if_neg (by omega), if_neg (by omega), if_neg (by omega), if_neg (by omega), if_neg (by omega)]
  ·rw [wrap64_id (by omega) (by omega)]
   refine j0 _ _ _ ?_
   subst e
   rw [if_neg (by omega)]
   by_cases h0 : x < w - 1
   ·rw [if_pos ⟨rfl, h0⟩, if_pos (by omega)]; omega
   ·rw [if_neg (by omega), if_neg (by omega), if_neg (by omega), if_neg (by omega)]
  ·rw [wrap64_id (by omega) (by omega)]
   refine j0 _ _ _ ?_
   subst e
   rw [if_neg (by omega), if_neg (by omega)]
   by_cases h0 : y < h - 1
   ·rw [if_pos ⟨rfl, h0⟩, if_pos (by omega), hp1]
   ·rw [if_neg (by omega), if_neg (by omega), if_neg (by omega)]
  ·rw [wrap64_id (by omega) (by omega)]
   refine j0 _ _ _ ?_
   subst e
   rw [if_neg (by omega), if_neg (by omega), if_neg (by omega)]
   by_cases h0 : 0 < x
   ·rw [if_pos ⟨rfl, h0⟩, if_pos (by omega)]; omega
   ·rw [if_neg (by omega), if_neg (by omega)]
  ·rw [if_neg (by omega), if_neg (by omega), if_neg (by omega), if_neg (by omega)]
 ·rw [if_neg hc]
  exact Ev.ff (by simp; omega) (Ev.ret rfl)
theorem spec_MazeOk_eq (w h o : Int) : spec_MazeOk.f w h o = some (mazeOk w h o) := by
 have hc := gapsOf_range w h
 have hp := pow_le hc.1 hc.2
 unfold spec_MazeOk.f mazeOk gapsN
 rw [spec_GridOk_eq, Option.bind_some]
 cases hg : gridOk w h
 ·simp
 ·rw [if_pos rfl, spec_CountGaps_eq, Option.bind_some, if_pos hc.1, shl_one hc.1 hc.2, l01In_eq, Option.bind_some, wrap64_id (by omega) (by omega)]
  simp only [Bool.true_and]
  congr 1
  rw [decide_eq_decide]
  omega
theorem impl_MazeOk_eq (w h o : Int) : impl_MazeOk.f w h o = some (mazeOk w h o) := by
 have hc := gapsOf_range w h
 unfold impl_MazeOk.f mazeOk gapsN
 rw [impl_GridOk_eq, Option.bind_some]
 cases hg : gridOk w h
 ·simp
 ·rw [if_pos rfl, impl_CountGaps_eq, Option.bind_some, if_pos hc.1, shl_one hc.1 hc.2]
  simp only [Bool.true_and]
  split
  ·congr 1; rw [decide_eq_decide]; omega
  ·congr 1; symm; rw [decide_eq_false_iff_not]; omega
theorem impl_isOpen_eq (w h : Int) {n : Nat} (hn : n < 16777216) (g : Int) : impl_isOpen.f w h n g = some (openI n g) := by
 unfold impl_isOpen.f openI
 by_cases hg : g ≥ 0
 ·rw [if_pos hg, if_pos hg]
  obtain ⟨m, rfl⟩ := Int.eq_ofNat_of_zero_le hg
  rw [bit_one (by omega)]
  simp
 ·rw [if_neg hg]
  simp; omega
theorem spec_l03Bit_eq {n : Nat} (hn : n < 16777216) {g : Int} (hg : 0 ≤ g) : spec_l03Bit.f n g = some (openI n g) := by
 unfold spec_l03Bit.f openI
 rw [if_pos hg]
 obtain ⟨m, rfl⟩ := Int.eq_ofNat_of_zero_le hg
 rw [bit_one (by omega)]
 simp
theorem impl_isGap_eq (w h g : Int) : impl_isGap.f w h g = some (isGapI w h g) := by
 unfold impl_isGap.f isGapI
 rw [impl_CountGaps_eq]
 by_cases hc : g ≥ 0
 ·rw [if_pos hc, Option.bind_some]; congr 1; rw [decide_eq_decide]; omega
 ·rw [if_neg hc]; congr 1; symm; rw [decide_eq_false_iff_not]; omega
theorem impl_GapAt_ev (w h c d : Int) : Ev (fun k => impl_GapAt.f k w h c d) (gapI w h c d) := by
 unfold impl_GapAt.f gapI
 refine Ev.bind (impl_Neighbor_ev w h c d) ?_
 by_cases hn : nbI w h c d < 0
 ·rw [if_pos hn, if_pos hn]
  exact Ev.ret rfl
 ·rw [if_neg hn, if_neg hn]
  obtain ⟨hd, h0, h1⟩ := nb_dir (by omega : 0 ≤ nbI w h c d)
  obtain ⟨hg, hcw⟩ := cellsOf_valid h0 h1
  have hcr := cellsOf_range w h
  have hgr := gridOk_iff.1 hg
  have hlt := nb_lt (w := w) (h := h) (c := c) (d := d)
  have hmn : mn c (nbI w h c d) = min c (nbI w h c d) := by unfold mn; omega
  rw [hmn]
  have hm0 : 0 ≤ min c (nbI w h c d) := by omega
  have hm1 : min c (nbI w h c d) ≤ 15 := by omega
  generalize min c (nbI w h c d) = m at *
  have ha0 : 0 ≤ m / w := Int.ediv_nonneg hm0 (by omega)
  have ha1 : m / w ≤ m := Int.ediv_le_self _ hm0
  have hb0 : 0 ≤ m % w := Int.emod_nonneg _ (by omega)
  have hb1 : m % w < w := Int.emod_lt_of_pos _ (by omega)
  have hp0 : 0 ≤ m / w * (w - 1) := Int.mul_nonneg ha0 (by omega)
  have hp1 : m / w * (w - 1) ≤ 15 * 3 := Int.mul_le_mul (by omega) (by omega) (by omega) (by omega)
  have hq0 : 0 ≤ (w - 1) * h := Int.mul_nonneg (by omega) (by omega)
  have hq1 : (w - 1) * h ≤ 3 * 4 := Int.mul_le_mul (by omega) (by omega) (by omega) (by omega)
  rw [Int.tmod_eq_emod_of_nonneg hm0, Int.tdiv_eq_ediv_of_nonneg hm0, wrap64_id (x := m / w) (by omega) (by omega), wrap64_id (x := w - 1) (by omega) (by omega), wrap64_id (x := m / w * (w - 1)) (by omega) (by omega), wrap64_id (x := m / w * (w - 1) + m % w) (by omega) (by omega)]
  refine Ev.ite (fun e => Ev.ff (by omega) ?_) (fun e => Ev.ite (fun e3 => Ev.ff (by omega) ?_) (fun e3 => ?_))
  ·rw [if_pos (.inl e)]; exact Ev.ret rfl
  ·rw [if_pos (.inr e3)]; exact Ev.ret rfl
  ·rw [if_neg (by omega)]
   rw [wrap64_id (x := (w - 1) * h) (by omega) (by omega), wrap64_id (by omega) (by omega)]
   exact Ev.ret rfl
def waysFrom (s : Int → Int) (d : Nat) : List Int := ([0, 1, 2, 3].drop d).filter fun x => decide (0 ≤ s x)
theorem waysFrom_succ (s : Int → Int) {d : Nat} (hd : d < 4) : waysFrom s d = if 0 ≤ s d then (d : Int) :: waysFrom s (d + 1) else waysFrom s (d + 1) := by
 have : d = 0 ∨ d = 1 ∨ d = 2 ∨ d = 3 := by omega
 rcases this with rfl | rfl | rfl | rfl <;> simp [waysFrom, List.filter_cons]
def waysI (w h : Int) (n : Nat) (c : Int) : List Int := waysFrom (stepI w h n c) 0
theorem impl_Step_ev {w h : Int} {n : Nat} (hg : gridOk w h = true) (hn : n < 2 ^ gapsN w h) (c d : Int) : Ev (fun k => impl_Step.f k w h n c d) (stepI w h n c d) := by
 unfold impl_Step.f stepI
 refine Ev.bnd0 (impl_MazeOk_eq w h n) (Ev.tt (mazeOk_iff.2 ⟨hg, n, rfl, hn⟩) ?_)
 refine Ev.bind (impl_GapAt_ev w h c d) (Ev.bnd0 (impl_isOpen_eq w h (open_small hn) _) ?_)
 by_cases ho : openI n (gapI w h c d) = true
 ·rw [if_pos ho]
  exact Ev.tt ho (Ev.bind (impl_Neighbor_ev w h c d) (Ev.ret rfl))
 ·rw [if_neg ho]
  exact Ev.ff ho (Ev.ret rfl)
theorem impl_Ways_l0 (w h : Int) (o c : Int) (s : Int → Int) (hs : ∀ d, Ev (fun k => impl_Step.f k w h o c d) (s d)) : ∀ (e d : Nat) (out : List Int), 4 - d = e → d ≤ 4 → out.length ≤ d →
  Ev (fun k => impl_WaysFrom.l0 k c out d w h o) (out ++ waysFrom s d)
 | 0, d, out, he, hd, hl => by
  refine Ev.step (fun _ => impl_WaysFrom.l0.eq_2 ..) ?_
  refine Ev.ff (by omega) (Ev.ret ?_)
  obtain rfl : d = 4 := by omega
  simp [waysFrom]
 | e + 1, d, out, he, hd, hl => by
  refine Ev.step (fun _ => impl_WaysFrom.l0.eq_2 ..) ?_
  refine Ev.tt (by omega) (Ev.bind (hs d) ?_)
  rw [wsucc (by omega), waysFrom_succ s (show d < 4 by omega)]
  refine Ev.ite (fun h1 => Ev.tt (by omega) ?_) (fun h1 => ?_)
  ·rw [if_pos (by omega)]
   have := impl_Ways_l0 w h o c s hs e (d + 1) (out ++ [(d : Int)]) (by omega) (by omega) (by simp; omega)
   simpa using this
  ·rw [if_neg (by omega)]
   exact impl_Ways_l0 w h o c s hs e (d + 1) out (by omega) (by omega) (by omega)
theorem impl_Ways_ev {w h : Int} {n : Nat} (hg : gridOk w h = true) (hn : n < 2 ^ gapsN w h) (c : Int) : Ev (fun k => impl_WaysFrom.f k w h n c) (waysI w h n c) := by
 unfold impl_WaysFrom.f waysI
 have := impl_Ways_l0 w h n c _ (fun d => impl_Step_ev hg hn c d) 4 0 [] (by omega) (by omega) (by simp)
 simpa using this
theorem spec_GapAt_ev (w h c d : Int) : Ev (fun k => spec_GapAt.f k w h c d) (gapI w h c d) := by
 unfold spec_GapAt.f gapI
 refine Ev.bind (spec_Neighbor_ev w h c d) ?_
 by_cases hn : nbI w h c d < 0
 ·rw [if_pos hn, if_pos hn]
  exact Ev.ret rfl
 ·rw [if_neg hn, if_neg hn]
  obtain ⟨hd, h0, h1⟩ := nb_dir (by omega : 0 ≤ nbI w h c d)
  obtain ⟨hg, hcw⟩ := cellsOf_valid h0 h1
  have hcr := cellsOf_range w h
  have hgr := gridOk_iff.1 hg
  have hlt := nb_lt (w := w) (h := h) (c := c) (d := d)
  have hmn : mn c (nbI w h c d) = min c (nbI w h c d) := by unfold mn; omega
  rw [hmn]
  have hm0 : 0 ≤ min c (nbI w h c d) := by omega
  have hm1 : min c (nbI w h c d) ≤ 15 := by omega
  generalize min c (nbI w h c d) = m at *
  have ha0 : 0 ≤ m / w := Int.ediv_nonneg hm0 (by omega)
  have ha1 : m / w ≤ m := Int.ediv_le_self _ hm0
  have hb0 : 0 ≤ m % w := Int.emod_nonneg _ (by omega)
  have hb1 : m % w < w := Int.emod_lt_of_pos _ (by omega)
  have hp0 : 0 ≤ m / w * (w - 1) := Int.mul_nonneg ha0 (by omega)
  have hp1 : m / w * (w - 1) ≤ 15 * 3 := Int.mul_le_mul (by omega) (by omega) (by omega) (by omega)
  have hq0 : 0 ≤ (w - 1) * h := Int.mul_nonneg (by omega) (by omega)
  have hq1 : (w - 1) * h ≤ 3 * 4 := Int.mul_le_mul (by omega) (by omega) (by omega) (by omega)
  rw [Int.tmod_eq_emod_of_nonneg hm0, Int.tdiv_eq_ediv_of_nonneg hm0, wrap64_id (x := m / w) (by omega) (by omega), wrap64_id (x := w - 1) (by omega) (by omega), wrap64_id (x := m / w * (w - 1)) (by omega) (by omega), wrap64_id (x := m / w * (w - 1) + m % w) (by omega) (by omega)]
  refine Ev.ite (fun e => Ev.ff (by omega) ?_) (fun e => Ev.ite (fun e3 => Ev.ff (by omega) ?_) (fun e3 => ?_))
  ·rw [if_pos (.inl e)]; exact Ev.ret rfl
  ·rw [if_pos (.inr e3)]; exact Ev.ret rfl
  ·rw [if_neg (by omega)]
   refine Ev.bnd0 (spec_l02East_eq hg) (Ev.ret ?_)
   unfold eastOf
   rw [wrap64_id (by omega) (by omega)]
end Go.Proofs.Ytoohcdfokejkdaa.P
namespace Go.Proofs.Ytoohcdfokejkdaa.P
open Go.RowKit Go.Proofs.YtoohcdfokejkdaaW.PrintWords Go.Proofs.YtoohcdfokejkdaaW.PrintLast Go.Proofs.YtoohcdfokejkdaaW.PrintMore
attribute [local go_sem] max2_int min2_int max_two min_two max_three min_three max_four min_four   -- for this text's walks alone
set_option linter.unusedVariables false
set_option linter.unusedSimpArgs false

end Go.Proofs.Ytoohcdfokejkdaa.P
namespace Go.Proofs.Ytoohcdfokejkdaa.P
open Go.RowKit Go.Proofs.YtoohcdfokejkdaaW.PrintWords
set_option linter.unusedVariables false
set_option linter.unusedSimpArgs false

theorem spec_IsPassage_eq {w h : Int} {n : Nat} (hg : gridOk w h = true) (hn : n < 2 ^ gapsN w h) (g : Int) : spec_IsPassage.f w h n g = some (openI n g) := by
 have hr := gapsOf_range w h
 unfold spec_IsPassage.f
 rw [spec_MazeOk_eq, Option.bind_some, if_pos (mazeOk_iff.2 ⟨hg, n, rfl, hn⟩), spec_CountGaps_eq, Option.bind_some, wrap64_id (by omega) (by omega), l01In_eq, Option.bind_some]
 by_cases hc : 0 ≤ g ∧ g < gapsOf w h
 ·rw [if_pos (by simp; omega), spec_l03Bit_eq (open_small hn) hc.1]
  rfl
 ·rw [if_neg (by simp; omega)]
  congr 1
  symm
  rw [Bool.eq_false_iff]
  intro ho
  have := open_isGap hn ho
  unfold isGapI at this
  simp at this
  omega
theorem spec_Step_ev {w h : Int} {n : Nat} (hg : gridOk w h = true) (hn : n < 2 ^ gapsN w h) (c d : Int) : Ev (fun k => spec_Step.f k w h n c d) (stepI w h n c d) := by
 unfold spec_Step.f stepI
 refine Ev.bnd0 (spec_MazeOk_eq w h n) (Ev.tt (mazeOk_iff.2 ⟨hg, n, rfl, hn⟩) ?_)
 refine Ev.bind (spec_GapAt_ev w h c d) (Ev.bnd0 (spec_IsPassage_eq hg hn _) ?_)
 by_cases ho : openI n (gapI w h c d) = true
 ·rw [if_pos ho]
  exact Ev.tt ho (Ev.bind (spec_Neighbor_ev w h c d) (Ev.ret rfl))
 ·rw [if_neg ho]
  exact Ev.ff ho (Ev.ret rfl)
/-- Connected by the edges of n. -/
inductive Cn (e : Nat → Nat × Nat) (n : Nat) : Nat → Nat → Prop
  | refl (x : Nat) : Cn e n x x
  | fwd {x : Nat} (k : Nat) : n.testBit k = true → Cn e n x (e k).1 → Cn e n x (e k).2
  | bwd {x : Nat} (k : Nat) : n.testBit k = true → Cn e n x (e k).2 → Cn e n x (e k).1
theorem Cn.trans {e : Nat → Nat × Nat} {n x y z : Nat} (h : Cn e n x y) (g : Cn e n y z) : Cn e n x z := by
  induction g with
  | refl => exact h
  | fwd k hk _ ih => exact .fwd k hk ih
  | bwd k hk _ ih => exact .bwd k hk ih
theorem Cn.edge {e : Nat → Nat × Nat} {n k : Nat} (h : n.testBit k = true) : Cn e n (e k).1 (e k).2 := .fwd k h (.refl _)
theorem Cn.edge' {e : Nat → Nat × Nat} {n k : Nat} (h : n.testBit k = true) : Cn e n (e k).2 (e k).1 := .bwd k h (.refl _)
theorem Cn.symm {e : Nat → Nat × Nat} {n x y : Nat} (h : Cn e n x y) : Cn e n y x := by
  induction h with
  | refl => exact .refl _
  | fwd k hk _ ih => exact (Cn.edge' hk).trans ih
  | bwd k hk _ ih => exact (Cn.edge hk).trans ih
theorem Cn.mono {e : Nat → Nat × Nat} {n m x y : Nat} (hm : ∀ i, n.testBit i = true → m.testBit i = true) (h : Cn e n x y) : Cn e m x y := by
  induction h with
  | refl => exact .refl _
  | fwd k hk _ ih => exact .fwd k (hm k hk) ih
  | bwd k hk _ ih => exact .bwd k (hm k hk) ih
theorem Cn_add {e : Nat → Nat × Nat} {n k x y : Nat} : Cn e (setB n k true) x y ↔ Cn e n x y ∨ (Cn e n x (e k).1 ∧ Cn e n (e k).2 y) ∨ (Cn e n x (e k).2 ∧ Cn e n (e k).1 y) := by
  have hm : ∀ i, n.testBit i = true → (setB n k true).testBit i = true := fun i hi => by rw [testBit_setB]; split <;> simp [hi]
  have hk : (setB n k true).testBit k = true := by rw [testBit_setB]; simp
  constructor
  · intro h
    induction h with
    | refl => exact .inl (.refl _)
    | fwd j hj _ ih =>
      rw [testBit_setB] at hj
      by_cases e1 : j = k
      · subst e1
        rcases ih with ih | ⟨h1, h2⟩ | ⟨h1, h2⟩
        · exact .inr (.inl ⟨ih, .refl _⟩)
        · exact .inr (.inl ⟨h1, .refl _⟩)
        · exact .inl h1
      · rw [if_neg e1] at hj
        rcases ih with ih | ⟨h1, h2⟩ | ⟨h1, h2⟩
        · exact .inl (.fwd j hj ih)
        · exact .inr (.inl ⟨h1, .fwd j hj h2⟩)
        · exact .inr (.inr ⟨h1, .fwd j hj h2⟩)
    | bwd j hj _ ih =>
      rw [testBit_setB] at hj
      by_cases e1 : j = k
      · subst e1
        rcases ih with ih | ⟨h1, h2⟩ | ⟨h1, h2⟩
        · exact .inr (.inr ⟨ih, .refl _⟩)
        · exact .inl h1
        · exact .inr (.inr ⟨h1, .refl _⟩)
      · rw [if_neg e1] at hj
        rcases ih with ih | ⟨h1, h2⟩ | ⟨h1, h2⟩
        · exact .inl (.bwd j hj ih)
        · exact .inr (.inl ⟨h1, .bwd j hj h2⟩)
        · exact .inr (.inr ⟨h1, .bwd j hj h2⟩)
  · rintro (h | ⟨h1, h2⟩ | ⟨h1, h2⟩)
    · exact h.mono hm
    · exact ((h1.mono hm).trans (Cn.edge hk)).trans (h2.mono hm)
    · exact ((h1.mono hm).trans (Cn.edge' hk)).trans (h2.mono hm)
theorem Cn_zero {e : Nat → Nat × Nat} {x y : Nat} : Cn e 0 x y ↔ x = y := by
  constructor
  · intro h
    induction h with
    | refl => rfl
    | fwd k hk => simp at hk
    | bwd k hk => simp at hk
  · rintro rfl; exact .refl _
/-- The first k bits of n. -/
def low (n k : Nat) : Nat := n % 2 ^ k
theorem testBit_low (n k i : Nat) : (low n k).testBit i = (decide (i < k) && n.testBit i) := Nat.testBit_mod_two_pow ..
theorem low_all {n k : Nat} (h : n < 2 ^ k) : low n k = n := Nat.mod_eq_of_lt h
theorem low_succ_set {n k : Nat} (h : n.testBit k = true) : low n (k + 1) = setB (low n k) k true := by
  apply Nat.eq_of_testBit_eq
  intro i
  rw [testBit_setB, testBit_low, testBit_low]
  by_cases e : i = k
  · subst e; simp [h]
  · rw [if_neg e]
    congr 1
    rw [decide_eq_decide]; omega
theorem low_succ_not {n k : Nat} (h : n.testBit k = false) : low n (k + 1) = low n k := by
  apply Nat.eq_of_testBit_eq
  intro i
  rw [testBit_low, testBit_low]
  by_cases e : i = k
  · subst e; simp [h]
  · congr 1
    rw [decide_eq_decide]; omega
/-- The least vertex of the part of v, by the first k edges. -/
def lab (e : Nat → Nat × Nat) (n : Nat) : Nat → Nat → Nat
  | 0, v => v
  | k + 1, v =>
    if n.testBit k = true then
      (if lab e n k v = max (lab e n k (e k).1) (lab e n k (e k).2) then min (lab e n k (e k).1) (lab e n k (e k).2) else lab e n k v)
    else lab e n k v
theorem lab_facts (e : Nat → Nat × Nat) (n : Nat) : ∀ k, (∀ v, lab e n k v ≤ v ∧ lab e n k (lab e n k v) = lab e n k v) ∧ ∀ x y, lab e n k x = lab e n k y ↔ Cn e (low n k) x y
  | 0 => by
    refine ⟨fun v => ⟨Nat.le_refl _, rfl⟩, fun x y => ?_⟩
    have : low n 0 = 0 := by unfold low; simp [Nat.mod_one]
    rw [this, Cn_zero]
    rfl
  | k + 1 => by
    obtain ⟨h1, h2⟩ := lab_facts e n k
    cases hb : n.testBit k with
    | false =>
      simp only [lab, hb, Bool.false_eq_true, if_false]
      rw [low_succ_not hb]
      exact ⟨h1, h2⟩
    | true =>
      simp only [lab, hb, if_true]
      rw [low_succ_set hb]
      refine ⟨fun v => ?_, fun x y => ?_⟩
      · have a1 := h1 v
        have a2 := h1 (e k).1
        have a3 := h1 (e k).2
        grind
      · rw [Cn_add, ← h2, ← h2, ← h2, ← h2, ← h2]
        grind
/-- Tells whether a vertex is the least of its part. -/
theorem lab_le (e : Nat → Nat × Nat) (n k v : Nat) : lab e n k v ≤ v := ((lab_facts e n k).1 v).1
theorem lab_lab (e : Nat → Nat × Nat) (n k v : Nat) : lab e n k (lab e n k v) = lab e n k v := ((lab_facts e n k).1 v).2
theorem lab_iff {e : Nat → Nat × Nat} {n k : Nat} (hn : n < 2 ^ k) (x y : Nat) : lab e n k x = lab e n k y ↔ Cn e n x y := by
  have := (lab_facts e n k).2 x y
  rwa [low_all hn] at this
theorem lab_least {e : Nat → Nat × Nat} {n k : Nat} (hn : n < 2 ^ k) {x y : Nat} (h : Cn e n x y) : lab e n k x ≤ y := by
  rw [(lab_iff hn x y).2 h]
  exact lab_le ..
theorem lab_cn {e : Nat → Nat × Nat} {n k : Nat} (hn : n < 2 ^ k) (x : Nat) : Cn e n x (lab e n k x) := (lab_iff hn _ _).1 (lab_lab ..).symm
/-- How many of the numbers under v. -/
def cnt (p : Nat → Bool) : Nat → Nat
  | 0 => 0
  | v + 1 => cnt p v + (p v).toNat
theorem cnt_congr {p q : Nat → Bool} {v : Nat} (h : ∀ i, i < v → p i = q i) : cnt p v = cnt q v := by
  induction v with
  | zero => rfl
  | succ n ih => simp only [cnt]; rw [ih (fun i hi => h i (by omega)), h n (by omega)]
theorem cnt_le (p : Nat → Bool) (v : Nat) : cnt p v ≤ v := by
  induction v with
  | zero => simp [cnt]
  | succ n ih => simp only [cnt]; have := Bool.toNat_le (p n); omega
theorem cnt_one {p q : Nat → Bool} {v m : Nat} (hm : m < v) (h1 : p m = true) (h2 : q m = false) (h : ∀ i, i < v → i ≠ m → p i = q i) : cnt p v = cnt q v + 1 := by
  induction v with
  | zero => omega
  | succ n ih =>
    simp only [cnt]
    by_cases e : m = n
    · subst e
      rw [cnt_congr (q := q) (fun i hi => h i (by omega) (by omega)), h1, h2]
      simp
    · rw [ih (by omega) (fun i hi hne => h i (by omega) hne), h n (by omega) (fun e' => e e'.symm)]
      omega
theorem cnt_zero_iff {p : Nat → Bool} {v : Nat} : cnt p v = 0 ↔ ∀ i, i < v → p i = false := by
  induction v with
  | zero => simp [cnt]
  | succ n ih =>
    simp only [cnt]
    constructor
    · intro h i hi
      by_cases e : i = n
      · subst e
        cases hp : p i
        · rfl
        · rw [hp] at h; simp at h
      · exact ih.1 (by omega) i (by omega)
    · intro h
      rw [ih.2 (fun i hi => h i (by omega)), h n (by omega)]
      rfl
/-- The number of parts of v vertices, by k edges. -/
def parts (e : Nat → Nat × Nat) (v k n : Nat) : Nat := cnt (fun c => lab e n k c == c) v
theorem rep_iff {e : Nat → Nat × Nat} {n k : Nat} (hn : n < 2 ^ k) (c : Nat) : (lab e n k c == c) = true ↔ ∀ y, Cn e n c y → c ≤ y := by
  rw [beq_iff_eq]
  constructor
  · intro h y hy
    have := lab_least hn hy
    omega
  · intro h
    have := h _ (lab_cn hn c)
    have := lab_le e n k c
    omega
theorem parts_zero (e : Nat → Nat × Nat) (v k : Nat) : parts e v k 0 = v := by
  have : ∀ k c, lab e 0 k c = c := by
    intro k
    induction k with
    | zero => intro c; rfl
    | succ k ih => intro c; simp [lab, ih]
  unfold parts
  simp only [this, beq_self_eq_true]
  induction v with
  | zero => rfl
  | succ n ih => simp only [cnt]; rw [ih]; rfl
/-- One more edge joins two parts, or none. -/
theorem parts_add {e : Nat → Nat × Nat} {v k n j : Nat} (hn : n < 2 ^ k) (hj : j < k) (h1 : (e j).1 < v) (h2 : (e j).2 < v) :
    (Cn e n (e j).1 (e j).2 → parts e v k (setB n j true) = parts e v k n) ∧ (¬ Cn e n (e j).1 (e j).2 → parts e v k n = parts e v k (setB n j true) + 1) := by
  have hn' : setB n j true < 2 ^ k := setB_lt true hn hj
  constructor
  · intro hc
    unfold parts
    refine cnt_congr fun c hcv => ?_
    rw [Bool.eq_iff_iff, rep_iff hn, rep_iff hn']
    simp only [Cn_add]
    constructor
    · intro h y hy; exact h y (.inl hy)
    · rintro h y (hy | ⟨ha, hb⟩ | ⟨ha, hb⟩)
      · exact h y hy
      · exact h y ((ha.trans hc).trans hb)
      · exact h y ((ha.trans hc.symm).trans hb)
  · intro hc
    have hne : lab e n k (e j).1 ≠ lab e n k (e j).2 := fun h => hc ((lab_iff hn _ _).1 h)
    have l1 := lab_le e n k (e j).1
    have l2 := lab_le e n k (e j).2
    have c1 := lab_cn (e := e) hn (e j).1
    have c2 := lab_cn (e := e) hn (e j).2
    unfold parts
    refine cnt_one (m := max (lab e n k (e j).1) (lab e n k (e j).2)) (by omega) ?_ ?_ ?_
    · have := lab_lab e n k (e j).1
      have := lab_lab e n k (e j).2
      rw [beq_iff_eq]
      rcases Nat.le_total (lab e n k (e j).1) (lab e n k (e j).2) with hle | hle
      · rw [Nat.max_eq_right hle]; assumption
      · rw [Nat.max_eq_left hle]; assumption
    · rw [Bool.eq_false_iff]
      intro h
      rw [rep_iff hn'] at h
      rcases Nat.le_total (lab e n k (e j).1) (lab e n k (e j).2) with hle | hle
      · rw [Nat.max_eq_right hle] at h
        have := h (lab e n k (e j).1) (Cn_add.2 (.inr (.inr ⟨c2.symm, c1⟩)))
        omega
      · rw [Nat.max_eq_left hle] at h
        have := h (lab e n k (e j).2) (Cn_add.2 (.inr (.inl ⟨c1.symm, c2⟩)))
        omega
    · intro c hcv hcm
      rw [Bool.eq_iff_iff, rep_iff hn, rep_iff hn']
      simp only [Cn_add]
      constructor
      · rintro h y (hy | ⟨ha, hb⟩ | ⟨ha, hb⟩)
        · exact h y hy
        · have e1 : lab e n k (e j).1 = c := by
            have := h _ (ha.trans c1)
            have := lab_least (e := e) hn ha.symm
            omega
          have := lab_least (e := e) hn hb
          have := lab_le e n k c
          omega
        · have e1 : lab e n k (e j).2 = c := by
            have := h _ (ha.trans c2)
            have := lab_least (e := e) hn ha.symm
            omega
          have := lab_least (e := e) hn hb
          omega
      · intro h y hy; exact h y (.inl hy)
theorem pop_setB {m n j : Nat} (hj : j < m) (h : n.testBit j = false) : pop m (setB n j true) = pop m n + 1 := by
  induction m with
  | zero => omega
  | succ m ih =>
    simp only [pop]
    by_cases e : j = m
    · subst e
      rw [pop_congr (t := n) (fun i hi => by rw [testBit_setB, if_neg (by omega)]), testBit_setB, if_pos rfl, h]
      simp
    · rw [ih (by omega), testBit_setB, if_neg (by omega)]
      omega
theorem setB_off_on {n j : Nat} (h : n.testBit j = true) : setB (setB n j false) j true = n := by
  apply Nat.eq_of_testBit_eq
  intro i
  rw [testBit_setB, testBit_setB]
  by_cases e : i = j
  · subst e; simp [h]
  · simp [e]
theorem setB_bit (n j : Nat) (b : Bool) : (setB n j b).testBit j = b := by rw [testBit_setB, if_pos rfl]
theorem setB_ne {n j i : Nat} (b : Bool) (h : i ≠ j) : (setB n j b).testBit i = n.testBit i := by rw [testBit_setB, if_neg h]
/-- A statement over masks, from none on, an edge at a time. -/
theorem mask_induction {P : Nat → Prop} {k : Nat} (h0 : P 0) (hs : ∀ n j, n < 2 ^ k → j < k → n.testBit j = false → P n → P (setB n j true)) : ∀ n, n < 2 ^ k → P n := by
  intro n hn
  have : ∀ d, d ≤ k → P (low n d) := by
    intro d
    induction d with
    | zero => intro _; have : low n 0 = 0 := by unfold low; simp [Nat.mod_one]
              rw [this]; exact h0
    | succ d ih =>
      intro hd
      cases hb : n.testBit d with
      | false => rw [low_succ_not hb]; exact ih (by omega)
      | true =>
        rw [low_succ_set hb]
        refine hs _ _ (Nat.lt_of_le_of_lt (Nat.mod_le _ _) hn) (by omega) ?_ (ih (by omega))
        rw [testBit_low]; simp
  have := this k (Nat.le_refl k)
  rwa [low_all hn] at this
/-- A graph: the ends of its edges are vertices. -/
def Gr (e : Nat → Nat × Nat) (v k : Nat) : Prop := ∀ j, j < k → (e j).1 < v ∧ (e j).2 < v
/-- The number of loops is no number under 0. -/
theorem loops_nonneg {e : Nat → Nat × Nat} {v k : Nat} (hg : Gr e v k) : ∀ n, n < 2 ^ k → v ≤ pop k n + parts e v k n := by
  refine mask_induction ?_ ?_
  · rw [parts_zero]; omega
  · intro n j hn hj hb ih
    have hp := parts_add (e := e) hn hj (hg j hj).1 (hg j hj).2
    rw [pop_setB hj hb]
    by_cases hc : Cn e n (e j).1 (e j).2
    · rw [hp.1 hc]; omega
    · have := hp.2 hc; omega
theorem lt_of_testBit {n k j : Nat} (hn : n < 2 ^ k) (h : n.testBit j = true) : j < k := by
  rcases Nat.lt_or_ge j k with h1 | h1
  · exact h1
  · rw [Nat.testBit_lt_two_pow (Nat.lt_of_lt_of_le hn (Nat.pow_le_pow_right (by decide) h1))] at h
    cases h
/-- Taking an edge away. -/
theorem parts_del {e : Nat → Nat × Nat} {v k n j : Nat} (hg : Gr e v k) (hn : n < 2 ^ k) (hb : n.testBit j = true) :
    pop k n = pop k (setB n j false) + 1 ∧ (Cn e (setB n j false) (e j).1 (e j).2 → parts e v k (setB n j false) = parts e v k n) ∧ (¬ Cn e (setB n j false) (e j).1 (e j).2 → parts e v k (setB n j false) = parts e v k n + 1) := by
  have hj := lt_of_testBit hn hb
  have hp := parts_add (e := e) (setB_lt false hn hj) hj (hg j hj).1 (hg j hj).2
  have h2 := pop_setB (m := k) (n := setB n j false) hj (setB_bit ..)
  rw [setB_off_on hb] at hp h2
  exact ⟨h2, fun h => (hp.1 h).symm, hp.2⟩
/-- No loops: every edge is a bridge. -/
theorem bridge_of_forest {e : Nat → Nat × Nat} {v k n j : Nat} (hg : Gr e v k) (hn : n < 2 ^ k) (hf : pop k n + parts e v k n = v) (hb : n.testBit j = true) : ¬ Cn e (setB n j false) (e j).1 (e j).2 := by
  intro hc
  obtain ⟨h1, h2, _⟩ := parts_del hg hn hb
  have := h2 hc
  have := loops_nonneg hg (setB n j false) (setB_lt false hn (lt_of_testBit hn hb))
  omega
theorem parts_pos {e : Nat → Nat × Nat} {v k n : Nat} (hn : n < 2 ^ k) (hv : 0 < v) : 0 < parts e v k n := by
  rcases Nat.eq_zero_or_pos (parts e v k n) with h | h
  · have := cnt_zero_iff.1 h 0 hv
    have h0 := lab_le e n k 0
    simp at this
    omega
  · exact h
def upd (D : Nat → Int) (y : Nat) (v : Int) : Nat → Int := fun c => if c = y then v else D c
/-- One direction of one cell. -/
def relax (s : Nat → Nat → Int) (x d : Nat) (S : (Nat → Int) × List Nat) : (Nat → Int) × List Nat :=
  if 0 ≤ s x d ∧ S.1 (s x d).toNat < 0 then (upd S.1 (s x d).toNat (S.1 x + 1), S.2 ++ [(s x d).toNat]) else S
def bround (s : Nat → Nat → Int) (x : Nat) (S : (Nat → Int) × List Nat) : (Nat → Int) × List Nat := relax s x 3 (relax s x 2 (relax s x 1 (relax s x 0 S)))
def bfsF (s : Nat → Nat → Int) : Nat → (Nat → Int) × List Nat → Nat → (Nat → Int)
  | 0, S, _ => S.1
  | f + 1, S, i => match S.2[i]? with
    | none => S.1
    | some x => bfsF s f (bround s x S) (i + 1)
/-- The distances from a cell, or -1. -/
def bfsD (s : Nat → Nat → Int) (v src : Nat) : Nat → Int := bfsF s (v + 1) (upd (fun _ => -1) src 0, [src]) 0
/-- Steps stay among v cells. -/
def Rng (s : Nat → Nat → Int) (v : Nat) : Prop := ∀ x d, x < v → d < 4 → s x d = -1 ∨ (0 ≤ s x d ∧ s x d < (v : Int))

structure BInv (s : Nat → Nat → Int) (v src : Nat) (S : (Nat → Int) × List Nat) (i : Nat) (m : Nat) : Prop where
  src0 : S.1 src = 0
  zero : ∀ c, S.1 c = 0 → c = src
  srcq : src ∈ S.2
  inr : ∀ c ∈ S.2, c < v
  nodup : S.2.Nodup
  neg : ∀ c, S.1 c = -1 ∨ 0 ≤ S.1 c
  mem : ∀ c, 0 ≤ S.1 c ↔ c ∈ S.2
  sorted : S.2.Pairwise (fun a b => S.1 a ≤ S.1 b)
  top : ∀ x, S.2[i]? = some x → ∀ c ∈ S.2, S.1 c ≤ S.1 x + 1
  done : ∀ j x, S.2[j]? = some x → ∀ d, d < 4 → (j < i ∨ (j = i ∧ d < m)) → 0 ≤ s x d → 0 ≤ S.1 (s x d).toNat ∧ S.1 (s x d).toNat ≤ S.1 x + 1
  pred : ∀ c ∈ S.2, c = src ∨ ∃ c' d, c' ∈ S.2 ∧ d < 4 ∧ s c' d = (c : Int) ∧ S.1 c = S.1 c' + 1
theorem BInv.start {s : Nat → Nat → Int} {v src : Nat} (h : src < v) : BInv s v src (upd (fun _ => -1) src 0, [src]) 0 0 where
  src0 := by simp [upd]
  zero := fun c => by simp only [upd]; split <;> simp_all
  srcq := by simp
  inr := by simpa using h
  nodup := by simp
  neg := fun c => by simp only [upd]; split <;> simp
  mem := fun c => by
    simp only [upd, List.mem_singleton]
    split
    · rename_i e; simp [e]
    · rename_i e; simp [e]
  sorted := by simp
  top := fun x hx c hc => by
    simp at hx hc
    subst hx hc
    omega
  done := fun j x hx d hd hj => by omega
  pred := fun c hc => .inl (by simpa using hc)
theorem BInv.relax {s : Nat → Nat → Int} {v src : Nat} (hs : Rng s v) {S : (Nat → Int) × List Nat} {i m x : Nat} (hm : m < 4) (hx : S.2[i]? = some x) (I : BInv s v src S i m) :
    BInv s v src (relax s x m S) i (m + 1) ∧ (relax s x m S).2[i]? = some x := by
  have hxq : x ∈ S.2 := List.mem_of_getElem? hx
  have hi : i < S.2.length := by
    rcases Nat.lt_or_ge i S.2.length with h | h
    · exact h
    · rw [List.getElem?_eq_none h] at hx; cases hx
  have hxv := I.inr x hxq
  have hx0 := (I.mem x).2 hxq
  unfold Go.Proofs.Ytoohcdfokejkdaa.P.relax
  by_cases hc : 0 ≤ s x m ∧ S.1 (s x m).toNat < 0
  · rw [if_pos hc]
    obtain ⟨y, hy⟩ : ∃ y : Nat, s x m = y := ⟨(s x m).toNat, by omega⟩
    have hyv : y < v := by have := hs x m hxv hm; omega
    rw [hy] at hc ⊢
    simp only [Int.toNat_natCast] at hc ⊢
    have hyq : y ∉ S.2 := fun h => by have := (I.mem y).2 h; omega
    have keep : ∀ c, c ∈ S.2 → upd S.1 y (S.1 x + 1) c = S.1 c := by
      intro c h
      unfold upd
      rw [if_neg]
      rintro rfl
      exact hyq h
    have uy : upd S.1 y (S.1 x + 1) y = S.1 x + 1 := by unfold upd; rw [if_pos rfl]
    have idx : ∀ j z, (S.2 ++ [y])[j]? = some z → S.2[j]? = some z ∨ (j = S.2.length ∧ z = y) := by
      intro j z h
      rcases Nat.lt_or_ge j S.2.length with h1 | h1
      · rw [List.getElem?_append_left h1] at h; exact .inl h
      · rw [List.getElem?_append_right h1] at h
        have : j - S.2.length = 0 := by
          rcases Nat.eq_zero_or_pos (j - S.2.length) with h2 | h2
          · exact h2
          · rw [List.getElem?_eq_none (by simp only [List.length_singleton]; omega)] at h; cases h
        rw [this] at h
        simp at h
        exact .inr ⟨by omega, h.symm⟩
    have I0 : ∀ c, (upd S.1 y (S.1 x + 1), S.2 ++ [y]).1 c = 0 → c = src := by
      intro c
      show upd _ _ _ c = 0 → _
      unfold upd
      split
      · intro h; omega
      · exact I.zero c
    refine ⟨{ src0 := ?_, zero := I0, srcq := ?_, inr := ?_, nodup := ?_, neg := ?_, mem := ?_, sorted := ?_, top := ?_, done := ?_, pred := ?_ }, by rw [List.getElem?_append_left hi]; exact hx⟩
    · show upd _ _ _ src = 0
      rw [keep _ I.srcq]; exact I.src0
    · exact List.mem_append_left _ I.srcq
    · intro c hcq
      rcases List.mem_append.1 hcq with h | h
      · exact I.inr c h
      · simp at h; omega
    · rw [List.nodup_append]
      refine ⟨I.nodup, by simp, ?_⟩
      intro a ha b hb hab
      simp at hb
      subst hab hb
      exact hyq ha
    · intro c
      show upd _ _ _ c = -1 ∨ 0 ≤ upd _ _ _ c
      by_cases e : c = y
      · subst e; rw [uy]; omega
      · rw [show upd S.1 y (S.1 x + 1) c = S.1 c from if_neg e]; exact I.neg c
    · intro c
      rw [List.mem_append, List.mem_singleton]
      show 0 ≤ upd _ _ _ c ↔ _
      unfold upd
      by_cases e : c = y
      · rw [if_pos e]; exact ⟨fun _ => .inr e, fun _ => by omega⟩
      · rw [if_neg e, I.mem]; simp [e]
    · rw [List.pairwise_append]
      refine ⟨I.sorted.imp_of_mem fun {a b} ha hb h => ?_, by simp, ?_⟩
      · show upd _ _ _ a ≤ upd _ _ _ b
        rw [keep a ha, keep b hb]; exact h
      · intro a ha b hb
        simp at hb
        subst hb
        show upd _ _ _ a ≤ upd _ _ _ b
        rw [keep a ha, uy]
        exact I.top x hx a ha
    · intro z hz c hcq
      rw [List.getElem?_append_left hi, hx] at hz
      obtain rfl := Option.some.inj hz
      show upd _ _ _ c ≤ upd _ _ _ x + 1
      rw [keep x hxq]
      rcases List.mem_append.1 hcq with h | h
      · rw [keep c h]; exact I.top x hx c h
      · simp at h; subst h; rw [uy]; omega
    · intro j z hz d hd hj h0
      rcases idx j z hz with h | ⟨h, _⟩
      · have hzq : z ∈ S.2 := List.mem_of_getElem? h
        show 0 ≤ upd _ _ _ _ ∧ upd _ _ _ _ ≤ upd _ _ _ z + 1
        rw [keep z hzq]
        by_cases e : j = i ∧ d = m
        · obtain ⟨rfl, rfl⟩ := e
          rw [hx] at h
          obtain rfl := Option.some.inj h
          rw [hy, Int.toNat_natCast, uy]
          omega
        · have := I.done j z h d hd (by omega) h0
          have h1 := (I.mem _).1 this.1
          rw [keep _ h1]
          exact this
      · omega
    · intro c hcq
      rcases List.mem_append.1 hcq with h | h
      · rcases I.pred c h with h1 | ⟨c', d, h1, h2, h3, h4⟩
        · exact .inl h1
        · refine .inr ⟨c', d, List.mem_append_left _ h1, h2, h3, ?_⟩
          show upd _ _ _ c = upd _ _ _ c' + 1
          rw [keep c h, keep c' h1]; exact h4
      · simp at h
        subst h
        refine .inr ⟨x, m, List.mem_append_left _ hxq, hm, hy, ?_⟩
        show upd _ _ _ c = upd _ _ _ x + 1
        rw [uy, keep x hxq]
  · rw [if_neg hc]
    refine ⟨{ I with done := ?_ }, hx⟩
    intro j z hz d hd hj h0
    by_cases e : j = i ∧ d = m
    · obtain ⟨rfl, rfl⟩ := e
      rw [hx] at hz
      obtain rfl := Option.some.inj hz
      have h1 : 0 ≤ S.1 (s x d).toNat := by
        have := I.neg (s x d).toNat
        omega
      exact ⟨h1, I.top x hx _ ((I.mem _).1 h1)⟩
    · exact I.done j z hz d hd (by omega) h0
theorem BInv.next {s : Nat → Nat → Int} {v src : Nat} {S : (Nat → Int) × List Nat} {i x : Nat} (hx : S.2[i]? = some x) (I : BInv s v src S i 4) : BInv s v src S (i + 1) 0 :=
  { I with
    top := fun z hz c hc => by
      have h1 := I.top x hx c hc
      have h2 := List.pairwise_iff_getElem.1 I.sorted i (i + 1)
      obtain ⟨a, rfl⟩ := List.getElem?_eq_some_iff.1 hx
      obtain ⟨b, rfl⟩ := List.getElem?_eq_some_iff.1 hz
      have := h2 a b (by omega)
      omega
    done := fun j z hz d hd hj h0 => I.done j z hz d hd (by omega) h0 }
theorem BInv.round {s : Nat → Nat → Int} {v src : Nat} (hs : Rng s v) {S : (Nat → Int) × List Nat} {i x : Nat} (hx : S.2[i]? = some x) (I : BInv s v src S i 0) : BInv s v src (bround s x S) (i + 1) 0 := by
  obtain ⟨I1, h1⟩ := I.relax hs (by omega) hx
  obtain ⟨I2, h2⟩ := I1.relax hs (by omega) h1
  obtain ⟨I3, h3⟩ := I2.relax hs (by omega) h2
  obtain ⟨I4, h4⟩ := I3.relax hs (by omega) h3
  exact I4.next h4
theorem nodup_len {v : Nat} : ∀ {q : List Nat}, q.Nodup → (∀ c ∈ q, c < v) → q.length ≤ v := by
  induction v with
  | zero =>
    intro q _ h
    cases q with
    | nil => simp
    | cons a l => have := h a (by simp); omega
  | succ v ih =>
    intro q hn h
    have h1 := ih (q := q.erase v) (hn.erase v) (fun c hc => by
      have h1 := h c (List.mem_of_mem_erase hc)
      have : c ≠ v := by rintro rfl; exact absurd hc (List.Nodup.not_mem_erase hn)
      omega)
    have h2 := List.length_erase (a := v) (l := q)
    split at h2 <;> omega
theorem BInv.len {s : Nat → Nat → Int} {v src : Nat} {S : (Nat → Int) × List Nat} {i m : Nat} (I : BInv s v src S i m) : S.2.length ≤ v := nodup_len I.nodup I.inr
/-- What distances are. -/
structure Dist (s : Nat → Nat → Int) (v src : Nat) (D : Nat → Int) : Prop where
  src0 : D src = 0
  zero : ∀ c, D c = 0 → c = src
  neg : ∀ c, D c = -1 ∨ 0 ≤ D c
  inr : ∀ c, 0 ≤ D c → c < v
  lip : ∀ x d, d < 4 → 0 ≤ D x → 0 ≤ s x d → 0 ≤ D (s x d).toNat ∧ D (s x d).toNat ≤ D x + 1
  pred : ∀ c, 0 < D c → ∃ c' d, d < 4 ∧ s c' d = (c : Int) ∧ 0 ≤ D c' ∧ D c = D c' + 1
theorem BInv.dist {s : Nat → Nat → Int} {v src : Nat} {S : (Nat → Int) × List Nat} {i : Nat} (hi : S.2[i]? = none) (I : BInv s v src S i 0) : Dist s v src S.1 where
  src0 := I.src0
  zero := I.zero
  neg := I.neg
  inr := fun c h => I.inr c ((I.mem c).1 h)
  lip := fun x d hd hx h0 => by
    obtain ⟨j, hj⟩ := List.mem_iff_getElem?.1 ((I.mem x).1 hx)
    refine I.done j x hj d hd (.inl ?_) h0
    rcases Nat.lt_or_ge j i with h | h
    · exact h
    · rw [List.getElem?_eq_none_iff] at hi
      rw [List.getElem?_eq_none (by omega)] at hj
      cases hj
  pred := fun c h => by
    rcases I.pred c ((I.mem c).1 (by omega)) with h1 | ⟨c', d, h1, h2, h3, h4⟩
    · rw [h1, I.src0] at h; omega
    · exact ⟨c', d, h2, h3, (I.mem c').2 h1, h4⟩
theorem bfsF_dist {s : Nat → Nat → Int} {v src : Nat} (hs : Rng s v) : ∀ (f : Nat) (S : (Nat → Int) × List Nat) (i : Nat), BInv s v src S i 0 → i ≤ S.2.length → v + 1 - i ≤ f → Dist s v src (bfsF s f S i)
  | 0, S, i, I, hi, hf => by have := I.len; omega
  | f + 1, S, i, I, hi, hf => by
    simp only [bfsF]
    cases h : S.2[i]? with
    | none => exact I.dist h
    | some x =>
      have I2 := I.round hs h
      have hl : S.2.length ≤ (bround s x S).2.length := by
        have h1 : ∀ m T, T.2.length ≤ (Go.Proofs.Ytoohcdfokejkdaa.P.relax s x m T).2.length := by
          intro m T
          unfold Go.Proofs.Ytoohcdfokejkdaa.P.relax
          split <;> simp
        exact Nat.le_trans (h1 0 S) (Nat.le_trans (h1 1 _) (Nat.le_trans (h1 2 _) (h1 3 _)))
      have h2 := (List.getElem?_eq_some_iff.1 h).1
      exact bfsF_dist hs f _ (i + 1) I2 (by omega) (by omega)
theorem bfsD_dist {s : Nat → Nat → Int} {v src : Nat} (hs : Rng s v) (h : src < v) : Dist s v src (bfsD s v src) := bfsF_dist hs _ _ 0 (BInv.start h) (by simp) (by omega)
/-- Steps are the edges of n. -/
structure Net (s : Nat → Nat → Int) (e : Nat → Nat × Nat) (v n : Nat) : Prop where
  rng : Rng s v
  edge : ∀ x d, x < v → d < 4 → 0 ≤ s x d → ∃ k, n.testBit k = true ∧ (e k = (x, (s x d).toNat) ∨ e k = ((s x d).toNat, x))
  lt : ∀ k, n.testBit k = true → (e k).1 < v ∧ (e k).2 < v
  fwd : ∀ k, n.testBit k = true → ∃ d, d < 4 ∧ s (e k).1 d = ((e k).2 : Int)
  bwd : ∀ k, n.testBit k = true → ∃ d, d < 4 ∧ s (e k).2 d = ((e k).1 : Int)
theorem Dist.cn {s : Nat → Nat → Int} {e : Nat → Nat × Nat} {v n src : Nat} {D : Nat → Int} (N : Net s e v n) (I : Dist s v src D) (c : Nat) : 0 ≤ D c ↔ Cn e n src c := by
  constructor
  · intro h
    obtain ⟨m, hm⟩ : ∃ m : Nat, D c = m := ⟨(D c).toNat, by omega⟩
    clear h
    induction m using Nat.strongRecOn generalizing c with
    | _ m ih =>
      by_cases h0 : 0 < D c
      · obtain ⟨c', d, hd, h1, h2, h3⟩ := I.pred c h0
        have := ih (D c').toNat (by omega) c' (by omega)
        obtain ⟨k, hk, hk2⟩ := N.edge c' d (I.inr _ h2) hd (by omega)
        rw [h1] at hk2
        simp only [Int.toNat_natCast] at hk2
        rcases hk2 with h | h
        · have e1 := Cn.edge (e := e) hk
          rw [h] at e1
          exact this.trans e1
        · have e1 := Cn.edge' (e := e) hk
          rw [h] at e1
          exact this.trans e1
      · rw [I.zero c (by omega)]
        exact .refl _
  · intro h
    induction h with
    | refl => rw [I.src0]; omega
    | fwd k hk _ ih =>
      obtain ⟨d, hd, h1⟩ := N.fwd k hk
      have := I.lip _ d hd ih (by omega)
      rw [h1] at this
      simpa using this.1
    | bwd k hk _ ih =>
      obtain ⟨d, hd, h1⟩ := N.bwd k hk
      have := I.lip _ d hd ih (by omega)
      rw [h1] at this
      simpa using this.1
def cellsN (w h : Int) : Nat := (cellsOf w h).toNat
theorem cellsN_cast (w h : Int) : ((cellsN w h : Nat) : Int) = cellsOf w h := by have := cellsOf_range w h; unfold cellsN; omega
theorem cellsN_le (w h : Int) : cellsN w h ≤ 16 := by have := cellsOf_range w h; unfold cellsN; omega
def ends (w h : Int) (g : Nat) : Nat × Nat := ((endsI w h g).1.toNat, (endsI w h g).2.toNat)
def st (w h : Int) (n : Nat) (c d : Nat) : Int := stepI w h n c d
theorem ends_facts {w h : Int} {g : Nat} (hg : g < gapsN w h) : endsI w h g = (((ends w h g).1 : Int), ((ends w h g).2 : Int)) ∧ (ends w h g).1 < (ends w h g).2 ∧ (ends w h g).2 < cellsN w h := by
 have hc := gapsN_cast w h
 have hc2 := cellsN_cast w h
 obtain ⟨h1, h2, h3, _⟩ := end_facts (w := w) (h := h) (g := g) (by omega) (by omega)
 unfold ends
 refine ⟨?_, by simp only; omega, by simp only; omega⟩
 apply Prod.ext
 ·simp only; omega
 ·simp only; omega
theorem gr_grid (w h : Int) : Gr (ends w h) (cellsN w h) (gapsN w h) := fun g hg => by
 have := ends_facts hg
 omega
theorem step_open {w h : Int} {n : Nat} {c d : Int} (hn : n < 2 ^ gapsN w h) (h0 : 0 ≤ stepI w h n c d) : ∃ g : Nat, g < gapsN w h ∧ gapI w h c d = g ∧ n.testBit g = true ∧ stepI w h n c d = nbI w h c d ∧ endsI w h g = (min c (nbI w h c d), max c (nbI w h c d)) := by
 have hc := gapsN_cast w h
 unfold stepI at *
 by_cases ho : openI n (gapI w h c d) = true
 ·rw [if_pos ho] at *
  rcases step_facts w h c d with ⟨h1, _⟩ | ⟨h1, h2, h3, h4, h5, h6, _⟩
  ·omega
  ·refine ⟨(gapI w h c d).toNat, by omega, by omega, ?_, rfl, ?_⟩
   ·unfold openI at ho
    simp only [Bool.and_eq_true] at ho
    exact ho.2
   ·rw [show (((gapI w h c d).toNat : Nat) : Int) = gapI w h c d by omega]; exact h6
 ·rw [if_neg ho] at h0; omega
theorem net_grid {w h : Int} {n : Nat} (hn : n < 2 ^ gapsN w h) : Net (st w h n) (ends w h) (cellsN w h) n where
 rng := fun x d _ _ => by
  have := cellsN_cast w h
  unfold st
  rcases step_lt (w := w) (h := h) (c := x) (d := d) (n := n) with h1 | h1
  ·exact .inl h1
  ·exact .inr (by omega)
 edge := fun x d hx hd h0 => by
  unfold st at *
  obtain ⟨g, h1, h2, h3, h4, h5⟩ := step_open hn h0
  refine ⟨g, h3, ?_⟩
  unfold ends
  rw [h5, h4]
  rw [h4] at h0
  rcases Int.le_total x (nbI w h x d) with hl | hl
  ·left
   rw [Int.min_eq_left hl, Int.max_eq_right hl]; rfl
  ·right
   rw [Int.min_eq_right hl, Int.max_eq_left hl]; rfl
 lt := fun k hk => by
  have := ends_facts (lt_of_testBit hn hk)
  omega
 fwd := fun k hk => by
  have hkg := lt_of_testBit hn hk
  have hc := gapsN_cast w h
  obtain ⟨e1, e2, e3⟩ := ends_facts hkg
  obtain ⟨_, _, _, h4⟩ := end_facts (w := w) (h := h) (g := k) (by omega) (by omega)
  rw [e1] at h4
  simp only at h4
  have ho : openI n (k : Int) = true := by unfold openI; simp [hk]
  rcases h4 with ⟨a, b⟩ | ⟨a, b⟩
  ·exact ⟨1, by omega, by unfold st stepI; rw [show ((1 : Nat) : Int) = 1 from rfl, b, if_pos ho, a]⟩
  ·exact ⟨2, by omega, by unfold st stepI; rw [show ((2 : Nat) : Int) = 2 from rfl, b, if_pos ho, a]⟩
 bwd := fun k hk => by
  have hkg := lt_of_testBit hn hk
  have hc := gapsN_cast w h
  obtain ⟨e1, e2, e3⟩ := ends_facts hkg
  obtain ⟨_, _, _, h4⟩ := end_facts (w := w) (h := h) (g := k) (by omega) (by omega)
  rw [e1] at h4
  simp only at h4
  have ho : openI n (k : Int) = true := by unfold openI; simp [hk]
  rcases h4 with ⟨a, b⟩ | ⟨a, b⟩
  ·rcases step_facts w h (ends w h k).1 1 with ⟨q, _⟩ | ⟨q1, q2, q3, q4, q5, q6, q7, q8⟩
   ·omega
   ·rw [a] at q7 q8
    exact ⟨3, by omega, by unfold st stepI; rw [show ((3 : Nat) : Int) = (1 + 2) % 4 from rfl, q8, b, if_pos ho, q7]⟩
  ·rcases step_facts w h (ends w h k).1 2 with ⟨q, _⟩ | ⟨q1, q2, q3, q4, q5, q6, q7, q8⟩
   ·omega
   ·rw [a] at q7 q8
    exact ⟨0, by omega, by unfold st stepI; rw [show ((0 : Nat) : Int) = (2 + 2) % 4 from rfl, q8, b, if_pos ho, q7]⟩
def distN (w h : Int) (n s : Nat) : Nat → Int := bfsD (st w h n) (cellsN w h) s
theorem distN_dist {w h : Int} {n s : Nat} (hn : n < 2 ^ gapsN w h) (hs : s < cellsN w h) : Dist (st w h n) (cellsN w h) s (distN w h n s) := bfsD_dist (net_grid hn).rng hs
theorem distN_cn {w h : Int} {n s : Nat} (hn : n < 2 ^ gapsN w h) (hs : s < cellsN w h) (c : Nat) : 0 ≤ distN w h n s c ↔ Cn (ends w h) n s c := (distN_dist hn hs).cn (net_grid hn) c
end Go.Proofs.Ytoohcdfokejkdaa.P
namespace Go.Proofs.Ytoohcdfokejkdaa.P
open Go.RowKit Go.Proofs.YtoohcdfokejkdaaW.PrintWords
set_option linter.unusedVariables false
set_option linter.unusedSimpArgs false

def ints (q : List Nat) : List Int := q.map fun (x : Nat) => (x : Int)
theorem ints_length (q : List Nat) : (ints q).length = q.length := by simp [ints]
theorem ints_app (q : List Nat) (y : Nat) : ints (q ++ [y]) = ints q ++ [(y : Int)] := by simp [ints]
theorem rd_ints {q : List Nat} {i x : Nat} (h : q[i]? = some x) : rd (ints q) (i : Int) = x := by
 rw [rd_nat, List.getD_eq_getElem?_getD]
 simp [ints, h]
def dlist (v : Nat) (D : Nat → Int) : List Int := (List.range v).map D
theorem dlist_length (v : Nat) (D : Nat → Int) : (dlist v D).length = v := by simp [dlist]
theorem rd_dlist {v : Nat} {D : Nat → Int} {c : Nat} (h : c < v) : rd (dlist v D) (c : Int) = D c := by
 rw [rd_get (by rw [dlist_length]; exact h)]
 simp [dlist]
theorem dlist_set {v : Nat} {D : Nat → Int} {y : Nat} {a : Int} (h : y < v) : (dlist v D).set y a = dlist v (upd D y a) := by
 refine List.ext_getElem (by simp [dlist]) fun i h1 h2 => ?_
 rw [List.getElem_set]
 simp only [dlist, upd, List.getElem_map, List.getElem_range]
 by_cases e : y = i
 ·rw [if_pos e, if_pos e.symm]
 ·rw [if_neg e, if_neg (fun e' => e e'.symm)]
structure SI (v : Nat) (S : (Nat → Int) × List Nat) : Prop where
 le : ∀ c, S.1 c ≤ S.2.length
 low : ∀ c, -1 ≤ S.1 c
 lt : ∀ c ∈ S.2, c < v
theorem SI.relax {v : Nat} {s : Nat → Nat → Int} (hs : Rng s v) {S : (Nat → Int) × List Nat} (I : SI v S) {x d : Nat} (hx : x < v) (hd : d < 4) : SI v (relax s x d S) ∧ (relax s x d S).2.length ≤ S.2.length + 1 ∧ ∀ (i z : Nat), S.2[i]? = some z → (relax s x d S).2[i]? = some z := by
 unfold Go.Proofs.Ytoohcdfokejkdaa.P.relax
 split
 ·rename_i hc
  refine ⟨⟨fun c => ?_, fun c => ?_, fun c hcq => ?_⟩, by simp, fun i z hz => ?_⟩
  ·have := I.le c
   have := I.le x
   show upd _ _ _ c ≤ _
   unfold upd
   simp only [List.length_append, List.length_singleton]
   split <;> omega
  ·have := I.low c
   have := I.low x
   show _ ≤ upd _ _ _ c
   unfold upd
   split <;> omega
  ·rcases List.mem_append.1 hcq with h | h
   ·exact I.lt c h
   ·simp at h
    have := hs x d hx hd
    omega
  ·have hi := (List.getElem?_eq_some_iff.1 hz).1
   rw [List.getElem?_append_left hi]; exact hz
 ·exact ⟨I, by omega, fun i z hz => hz⟩
def relaxL (s : Nat → Nat → Int) (x : Nat) : List Nat → (Nat → Int) × List Nat → (Nat → Int) × List Nat
 | [], S => S
 | d :: ds, S => relaxL s x ds (relax s x d S)
theorem relaxL_filter (s : Nat → Nat → Int) (x : Nat) : ∀ l S, relaxL s x (l.filter fun d => decide (0 ≤ s x d)) S = relaxL s x l S
 | [], S => rfl
 | d :: ds, S => by
  rw [List.filter_cons]
  by_cases h : 0 ≤ s x d
  ·simp only [h, decide_true, if_true, relaxL]
   exact relaxL_filter s x ds _
  ·simp only [h, decide_false, Bool.false_eq_true, if_false, relaxL]
   rw [relaxL_filter s x ds S, show relax s x d S = S from if_neg fun hc => h hc.1]
theorem bround_eq (s : Nat → Nat → Int) (x : Nat) (S : (Nat → Int) × List Nat) : bround s x S = relaxL s x [0, 1, 2, 3] S := rfl
theorem waysI_ints (w h : Int) (n c : Nat) : waysI w h n c = ints ([0, 1, 2, 3].filter fun d => decide (0 ≤ st w h n c d)) := by
 unfold waysI waysFrom st ints
 simp only [List.drop_zero, List.filter_cons, List.filter_nil]
 by_cases a : 0 ≤ stepI w h n c 0 <;> by_cases b : 0 ≤ stepI w h n c 1 <;> by_cases c' : 0 ≤ stepI w h n c 2 <;> by_cases d : 0 ≤ stepI w h n c 3 <;> simp [a, b, c', d]
section
variable {w h : Int} {n : Nat} (hg : gridOk w h = true) (hn : n < 2 ^ gapsN w h)
include hg hn
theorem impl_dist_l1 {x i : Nat} (W : List Nat) (hW : ∀ d ∈ W, d < 4 ∧ 0 ≤ st w h n x d) (hW4 : W.length ≤ 4) (res : List Int) :
  ∀ (e j : Nat) (S : (Nat → Int) × List Nat), j + e = W.length → SI (cellsN w h) S → S.2[i]? = some x → S.2.length ≤ 100 + j →
   (∀ S', S' = relaxL (st w h n) x (W.drop j) S → SI (cellsN w h) S' → Ev (fun k => impl_distances.l0 k (dlist (cellsN w h) S'.1) (ints S'.2) ((i + 1 : Nat) : Int) w h n) res) →
   Ev (fun k => impl_distances.l1 k (dlist (cellsN w h) S.1) (ints S.2) i (ints W) ((ints W).length : Int) j w h n) res
 | 0, j, S, hj, I, hx, hl, next => by
  have hi := (List.getElem?_eq_some_iff.1 hx).1
  refine Ev.step (fun _ => impl_distances.l1.eq_2 ..) (Ev.ff (by rw [ints_length]; omega) ?_)
  rw [wsucc (by omega)]
  exact next S (by rw [List.drop_eq_nil_of_le (by omega)]; rfl) I
 | e + 1, j, S, hj, I, hx, hl, next => by
  have hcast := cellsN_cast w h
  have hi := (List.getElem?_eq_some_iff.1 hx).1
  have hxv := I.lt x (List.mem_of_getElem? hx)
  have hjW : j < W.length := by omega
  obtain ⟨hd4, hd0⟩ := hW _ (List.getElem_mem hjW)
  have hdrop : W.drop j = W[j] :: W.drop (j + 1) := List.drop_eq_getElem_cons hjW
  have hwj : rd (ints W) (j : Int) = (W[j] : Nat) := rd_ints (List.getElem?_eq_getElem hjW)
  have hrng := (net_grid hn).rng x W[j] hxv hd4
  obtain ⟨y, hy⟩ : ∃ y : Nat, st w h n x W[j] = y := ⟨(st w h n x W[j]).toNat, by omega⟩
  have hyv : y < cellsN w h := by omega
  obtain ⟨I', hl', hk'⟩ := I.relax (net_grid hn).rng hxv hd4
  have ih := impl_dist_l1 W hW hW4 res e (j + 1) (relax (st w h n) x W[j] S) (by omega) I' (hk' i x hx) (by omega) (fun S' hS' I'' => next S' (by rw [hS', hdrop]; rfl) I'')
  refine Ev.step (fun _ => impl_distances.l1.eq_2 ..) ?_
  refine Ev.tt (by rw [ints_length]; omega) (Ev.tt (by omega) (Ev.tt (by rw [ints_length]; omega) (Ev.tt (by omega) (Ev.tt (by rw [ints_length]; omega) ?_))))
  rw [hwj, rd_ints hx]
  refine Ev.bind (impl_Step_ev hg hn x (W[j] : Nat)) ?_
  rw [show stepI w h n x (W[j] : Nat) = y from hy, wsucc (by omega)]
  refine Ev.tt (by omega) (Ev.tt (by rw [dlist_length]; omega) ?_)
  rw [rd_dlist hyv, rd_dlist hxv]
  refine Ev.ite (fun h1 => ?_) (fun h1 => ?_)
  ·refine Ev.tt (by omega) (Ev.tt (by rw [dlist_length]; omega) (Ev.tt (by rw [ints_length]; omega) ?_))
   have hb1 := I.le x
   have hb2 : 0 ≤ S.1 x ∨ S.1 x < 0 := by omega
   have hrel : relax (st w h n) x W[j] S = (upd S.1 y (S.1 x + 1), S.2 ++ [y]) := by
    unfold relax
    rw [hy, Int.toNat_natCast, if_pos ⟨by omega, h1⟩]
   rw [hrel] at ih
   rw [Int.toNat_natCast, dlist_set hyv, ← ints_app]
   have := I.low x
   rw [wrap64_id (by omega) (by omega)]
   exact ih
  ·have hrel : relax (st w h n) x W[j] S = S := by
    unfold relax
    rw [hy, Int.toNat_natCast, if_neg (fun hc => h1 hc.2)]
   rw [hrel] at ih
   exact ih
theorem impl_dist_l0 {src : Nat} (hs : src < cellsN w h) : ∀ (f i : Nat) (S : (Nat → Int) × List Nat), BInv (st w h n) (cellsN w h) src S i 0 → SI (cellsN w h) S → i ≤ S.2.length → cellsN w h + 1 - i ≤ f →
  Ev (fun k => impl_distances.l0 k (dlist (cellsN w h) S.1) (ints S.2) i w h n) (dlist (cellsN w h) (bfsF (st w h n) f S i))
 | 0, i, S, B, I, hi, hf => by have := B.len; omega
 | f + 1, i, S, B, I, hi, hf => by
  have h16 := cellsN_le w h
  have hlen := B.len
  refine Ev.step (fun _ => impl_distances.l0.eq_2 ..) ?_
  simp only [bfsF]
  cases hx : S.2[i]? with
  | none =>
   rw [List.getElem?_eq_none_iff] at hx
   exact Ev.ff (by rw [ints_length]; omega) (Ev.ret rfl)
  | some x =>
   have hil := (List.getElem?_eq_some_iff.1 hx).1
   have hxv := I.lt x (List.mem_of_getElem? hx)
   refine Ev.tt (by rw [ints_length]; omega) (Ev.tt (by omega) ?_)
   rw [rd_ints hx]
   refine Ev.bind (impl_Ways_ev hg hn _) ?_
   rw [waysI_ints]
   have hW : ∀ d ∈ ([0, 1, 2, 3].filter fun d => decide (0 ≤ st w h n x d)), d < 4 ∧ 0 ≤ st w h n x d := fun d hd => by
    rw [List.mem_filter] at hd
    refine ⟨?_, of_decide_eq_true hd.2⟩
    have := hd.1
    simp at this
    omega
   refine impl_dist_l1 hg hn (i := i) (x := x) _ hW (List.length_filter_le _ _) _ _ 0 S (Nat.zero_add _) I hx (by omega) (fun S' hS' I' => ?_)
   rw [List.drop_zero, relaxL_filter, ← bround_eq] at hS'
   subst hS'
   have B' := B.round (net_grid hn).rng hx
   refine impl_dist_l0 hs f (i + 1) _ B' I' ?_ (by omega)
   have h1 : ∀ m T, T.2.length ≤ (relax (st w h n) x m T).2.length := by
    intro m T
    unfold relax
    split <;> simp
   have := Nat.le_trans (h1 0 S) (Nat.le_trans (h1 1 _) (Nat.le_trans (h1 2 _) (h1 3 _)))
   show i + 1 ≤ (bround (st w h n) x S).2.length
   unfold bround
   omega
omit hg hn in
theorem SI.start {v src : Nat} (h : src < v) : SI v (upd (fun _ => -1) src 0, [src]) where
 le := fun c => by simp only [upd]; split <;> simp
 low := fun c => by simp only [upd]; split <;> omega
 lt := fun c hc => by simp at hc; omega
theorem impl_distances_ev {src : Nat} (hs : src < cellsN w h) : Ev (fun k => impl_distances.f k w h n src) (dlist (cellsN w h) (distN w h n src)) := by
 have h16 := cellsN_le w h
 have hcast := cellsN_cast w h
 unfold impl_distances.f
 refine Ev.bnd0 (impl_CountCells_eq w h) (Ev.bnd0 (a := dlist (cellsN w h) fun _ => -1) ?_ ?_)
 ·unfold slices_Repeat_int_int.f
  rw [if_pos ⟨by simp, by omega, by omega⟩]
  congr 1
  refine List.ext_getElem (by simp [dlist]; omega) fun i h1 h2 => ?_
  simp [dlist, rd]
 ·refine Ev.tt (by omega) (Ev.tt (by rw [dlist_length]; omega) ?_)
  rw [Int.toNat_natCast, dlist_set hs]
  exact impl_dist_l0 hg hn hs _ 0 _ (BInv.start hs) (SI.start hs) (by simp) (by omega)
theorem spec_dist_l2 {x i : Nat} (res : List Int) :
  ∀ (e j : Nat) (S : (Nat → Int) × List Nat), j + e = 4 → SI (cellsN w h) S → S.2[i]? = some x → S.2.length ≤ 100 + j →
   (∀ S', S' = relaxL (st w h n) x ([0, 1, 2, 3].drop j) S → SI (cellsN w h) S' → Ev (fun k => spec_l04Distances.l1 k (dlist (cellsN w h) S'.1) (ints S'.2) ((i + 1 : Nat) : Int) w h n) res) →
   Ev (fun k => spec_l04Distances.l2 k (dlist (cellsN w h) S.1) (ints S.2) i j w h n) res
 | 0, j, S, hj, I, hx, hl, next => by
  have hi := (List.getElem?_eq_some_iff.1 hx).1
  refine Ev.step (fun _ => spec_l04Distances.l2.eq_2 ..) (Ev.ff (by omega) ?_)
  rw [wsucc (by omega)]
  exact next S (by rw [show j = 4 by omega]; rfl) I
 | e + 1, j, S, hj, I, hx, hl, next => by
  have hcast := cellsN_cast w h
  have hi := (List.getElem?_eq_some_iff.1 hx).1
  have hxv := I.lt x (List.mem_of_getElem? hx)
  have hd4 : j < 4 := by omega
  have hdrop : [0, 1, 2, 3].drop j = j :: [0, 1, 2, 3].drop (j + 1) := by
   have : j = 0 ∨ j = 1 ∨ j = 2 ∨ j = 3 := by omega
   rcases this with rfl | rfl | rfl | rfl <;> rfl
  have hrng := (net_grid hn).rng x j hxv hd4
  obtain ⟨I', hl', hk'⟩ := I.relax (net_grid hn).rng hxv hd4
  have ih := spec_dist_l2 (i := i) res e (j + 1) (relax (st w h n) x j S) (by omega) I' (hk' i x hx) (by omega) (fun S' hS' I'' => next S' (by rw [hS', hdrop]; rfl) I'')
  refine Ev.step (fun _ => spec_l04Distances.l2.eq_2 ..) ?_
  refine Ev.tt (by omega) (Ev.tt (by omega) (Ev.tt (by rw [ints_length]; omega) ?_))
  rw [rd_ints hx]
  refine Ev.bind (spec_Step_ev hg hn x (j : Nat)) ?_
  rw [wsucc (by omega)]
  have hst : stepI w h n x (j : Nat) = st w h n x j := rfl
  rw [hst]
  refine Ev.ite (fun h0 => ?_) (fun h0 => ?_)
  ·obtain ⟨y, hy⟩ : ∃ y : Nat, st w h n x j = y := ⟨(st w h n x j).toNat, by omega⟩
   have hyv : y < cellsN w h := by omega
   rw [hy]
   refine Ev.tt (by omega) (Ev.tt (by rw [dlist_length]; omega) ?_)
   rw [rd_dlist hyv, rd_dlist hxv]
   refine Ev.ite (fun h1 => ?_) (fun h1 => ?_)
   ·refine Ev.tt (by omega) (Ev.tt (by rw [dlist_length]; omega) (Ev.tt (by rw [ints_length]; omega) ?_))
    have hb1 := I.le x
    have hrel : relax (st w h n) x j S = (upd S.1 y (S.1 x + 1), S.2 ++ [y]) := by
     unfold relax
     rw [hy, Int.toNat_natCast, if_pos ⟨by omega, h1⟩]
    rw [hrel] at ih
    rw [Int.toNat_natCast, dlist_set hyv, ← ints_app]
    have := I.low x
    rw [wrap64_id (by omega) (by omega)]
    exact ih
   ·have hrel : relax (st w h n) x j S = S := by
     unfold relax
     rw [hy, Int.toNat_natCast, if_neg (fun hc => h1 hc.2)]
    rw [hrel] at ih
    exact ih
  ·have hrel : relax (st w h n) x j S = S := by
    unfold relax
    rw [if_neg (fun hc => h0 hc.1)]
   rw [hrel] at ih
   exact ih
theorem spec_dist_l1 {src : Nat} (hs : src < cellsN w h) : ∀ (f i : Nat) (S : (Nat → Int) × List Nat), BInv (st w h n) (cellsN w h) src S i 0 → SI (cellsN w h) S → i ≤ S.2.length → cellsN w h + 1 - i ≤ f →
  Ev (fun k => spec_l04Distances.l1 k (dlist (cellsN w h) S.1) (ints S.2) i w h n) (dlist (cellsN w h) (bfsF (st w h n) f S i))
 | 0, i, S, B, I, hi, hf => by have := B.len; omega
 | f + 1, i, S, B, I, hi, hf => by
  have h16 := cellsN_le w h
  have hlen := B.len
  refine Ev.step (fun _ => spec_l04Distances.l1.eq_2 ..) ?_
  simp only [bfsF]
  cases hx : S.2[i]? with
  | none =>
   rw [List.getElem?_eq_none_iff] at hx
   exact Ev.ff (by rw [ints_length]; omega) (Ev.ret rfl)
  | some x =>
   have hil := (List.getElem?_eq_some_iff.1 hx).1
   refine Ev.tt (by rw [ints_length]; omega) ?_
   refine spec_dist_l2 hg hn (i := i) (x := x) _ 4 0 S rfl I hx (by omega) (fun S' hS' I' => ?_)
   rw [List.drop_zero, ← bround_eq] at hS'
   subst hS'
   have B' := B.round (net_grid hn).rng hx
   refine spec_dist_l1 hs f (i + 1) _ B' I' ?_ (by omega)
   have h1 : ∀ m T, T.2.length ≤ (relax (st w h n) x m T).2.length := by
    intro m T
    unfold relax
    split <;> simp
   have := Nat.le_trans (h1 0 S) (Nat.le_trans (h1 1 _) (Nat.le_trans (h1 2 _) (h1 3 _)))
   show i + 1 ≤ (bround (st w h n) x S).2.length
   unfold bround
   omega
omit hg hn in
theorem spec_dist_l0 {src : Nat} (hs : src < cellsN w h) (res : List Int) (next : Ev (fun k => spec_l04Distances.l1 k (dlist (cellsN w h) (upd (fun _ => -1) src 0)) (ints [src]) 0 w h n) res) :
  ∀ (d i : Nat) (X : List Int), i + d = cellsN w h → X = dlist (cellsN w h) (fun c => if c < i then -1 else 0) → Ev (fun k => spec_l04Distances.l0 k src X i w h n) res
 | 0, i, X, hd, hX => by
  subst hX
  refine Ev.step (fun _ => spec_l04Distances.l0.eq_2 ..) (Ev.ff (by rw [dlist_length]; omega) (Ev.tt (by omega) (Ev.tt (by rw [dlist_length]; omega) ?_)))
  rw [Int.toNat_natCast, dlist_set hs]
  have e : dlist (cellsN w h) (upd (fun c => if c < i then -1 else 0) src 0) = dlist (cellsN w h) (upd (fun _ => -1) src 0) := by
   unfold dlist
   refine List.map_congr_left fun c hc => ?_
   rw [List.mem_range] at hc
   simp only [upd]
   rw [if_pos (show c < i by omega)]
  rw [e]
  exact next
 | d + 1, i, X, hd, hX => by
  have h16 := cellsN_le w h
  subst hX
  refine Ev.step (fun _ => spec_l04Distances.l0.eq_2 ..) (Ev.tt (by rw [dlist_length]; omega) (Ev.tt (by omega) ?_))
  rw [Int.toNat_natCast, dlist_set (by omega), wsucc (by omega)]
  refine spec_dist_l0 hs res next d (i + 1) _ (by omega) ?_
  unfold dlist
  refine List.map_congr_left fun c hc => ?_
  simp only [upd]
  by_cases e : c = i
  ·rw [if_pos e, if_pos (by omega)]
  ·rw [if_neg e]
   by_cases e2 : c < i
   ·rw [if_pos e2, if_pos (by omega)]
   ·rw [if_neg e2, if_neg (by omega)]
theorem spec_distances_ev {src : Nat} (hs : src < cellsN w h) : Ev (fun k => spec_l04Distances.f k w h n src) (dlist (cellsN w h) (distN w h n src)) := by
 have h16 := cellsN_le w h
 have hcast := cellsN_cast w h
 unfold spec_l04Distances.f
 refine Ev.bnd0 (spec_CountCells_eq w h) (Ev.tt (by omega) (Ev.tt (by omega) ?_))
 refine spec_dist_l0 hs _ (spec_dist_l1 hg hn hs _ 0 _ (BInv.start hs) (SI.start hs) (by simp) (by omega)) (cellsN w h) 0 _ (by omega) ?_
 refine List.ext_getElem (by simp [dlist]; omega) fun i h1 h2 => ?_
 simp [dlist]
end
end Go.Proofs.Ytoohcdfokejkdaa.P
namespace Go.Proofs.Ytoohcdfokejkdaa.P
open Go.RowKit Go.Proofs.YtoohcdfokejkdaaW.PrintWords
set_option linter.unusedVariables false
set_option linter.unusedSimpArgs false

def sumTo : Nat → (Nat → Int) → Int
 | 0, _ => 0
 | n + 1, f => sumTo n f + f n
theorem sumTo_congr {n : Nat} {f g : Nat → Int} (h : ∀ i, i < n → f i = g i) : sumTo n f = sumTo n g := by
 induction n with
 | zero => rfl
 | succ n ih => simp only [sumTo]; rw [ih (fun i hi => h i (by omega)), h n (by omega)]
theorem sumTo_zero {n : Nat} {f : Nat → Int} (h : ∀ i, i < n → f i = 0) : sumTo n f = 0 := by
 induction n with
 | zero => rfl
 | succ n ih => simp only [sumTo]; rw [ih (fun i hi => h i (by omega)), h n (by omega)]; rfl
theorem sumTo_one {n : Nat} {f g : Nat → Int} {k : Nat} (hk : k < n) (h : ∀ i, i < n → i ≠ k → g i = f i) : sumTo n g = sumTo n f + (g k - f k) := by
 induction n with
 | zero => omega
 | succ n ih =>
  simp only [sumTo]
  by_cases e : k = n
  ·subst e
   rw [sumTo_congr (fun i hi => h i (by omega) (by omega))]
   omega
  ·rw [ih (by omega) (fun i hi hne => h i (by omega) hne), h n (by omega) (fun e' => e e'.symm)]
   omega
def del (s k : Nat) : Nat := andNot s (2 ^ k)
theorem testBit_del (s k i : Nat) : (del s k).testBit i = (s.testBit i && decide (i ≠ k)) := by
 unfold del
 rw [testBit_andNot, Nat.testBit_two_pow]
 by_cases h : i = k
 ·simp [h]
 ·simp [h, show ¬ k = i from fun e => h e.symm]
theorem del_le (s k : Nat) : del s k ≤ s := andNot_le _ _
theorem del_lt {s k : Nat} (h : s.testBit k = true) : del s k < s := by
 refine Nat.lt_of_le_of_ne (del_le s k) fun e => ?_
 have := testBit_del s k k
 rw [e, h] at this
 simp at this
theorem pop_del {n s k : Nat} (hk : k < n) (h : s.testBit k = true) : pop n s = pop n (del s k) + 1 := by
 induction n with
 | zero => omega
 | succ n ih =>
  simp only [pop]
  by_cases e : k = n
  ·subst e
   rw [testBit_del, h, pop_congr (s := del s k) (t := s) (fun i hi => by rw [testBit_del]; simp; omega)]
   simp
  ·rw [ih (by omega), testBit_del]
   simp [show ¬ n = k from fun e' => e e'.symm]
   omega
def above (n s k : Nat) : Nat := pop n (s / 2 ^ (k + 1))
def sgn (c : Nat) : Int := if c % 2 = 0 then 1 else -1
theorem sgn_succ (c : Nat) : sgn (c + 1) = -sgn c := by
 unfold sgn
 by_cases h : c % 2 = 0
 ·rw [if_pos h, if_neg (by omega)]
 ·rw [if_neg h, if_pos (by omega)]; rfl
def Dn (a : Nat → Nat → Int) (n : Nat) : Nat → Nat → Int
 | 0, _ => 1
 | r + 1, s => sumTo n fun k => if s.testBit k then sgn (above n s k) * a r k * Dn a n r (del s k) else 0
def Ds (a : Nat → Nat → Int) (n s : Nat) : Int := Dn a n (pop n s) s
def term (a : Nat → Nat → Int) (n s k : Nat) : Int := sgn (above n s k) * a (pop n s - 1) k * Ds a n (del s k)
theorem Ds_sum {a : Nat → Nat → Int} {n s : Nat} (h : pop n s ≠ 0) : Ds a n s = sumTo n fun k => if s.testBit k then term a n s k else 0 := by
 unfold Ds
 obtain ⟨r, hr⟩ : ∃ r, pop n s = r + 1 := ⟨pop n s - 1, by omega⟩
 rw [hr]
 simp only [Dn]
 refine sumTo_congr fun k hk => ?_
 by_cases hb : s.testBit k = true
 ·rw [if_pos hb, if_pos hb]
  unfold term Ds
  rw [pop_del hk hb] at hr
  rw [pop_del hk hb, show pop n (del s k) = r by omega]
  rfl
 ·rw [if_neg hb, if_neg hb]
theorem pop_ne {n s : Nat} (hs : s < 2 ^ n) (h0 : s ≠ 0) : pop n s ≠ 0 := by
 intro h
 apply h0
 apply Nat.eq_of_testBit_eq
 intro i
 rw [Nat.zero_testBit]
 by_cases hi : i < n
 ·cases hb : s.testBit i
  ·rfl
  ·have := pop_del hi hb; omega
 ·exact Nat.testBit_lt_two_pow (Nat.lt_of_lt_of_le hs (Nat.pow_le_pow_right (by decide) (by omega)))
theorem Ds_zero (a : Nat → Nat → Int) (n : Nat) : Ds a n 0 = 1 := by
 unfold Ds
 rw [show pop n 0 = 0 from by rw [pop_big (n := 0) (by decide) (by omega)]; rfl]
 rfl
theorem pop_full (n : Nat) : pop n (2 ^ n - 1) = n := by
 have : ∀ m, m ≤ n → pop m (2 ^ n - 1) = m := by
  intro m
  induction m with
  | zero => intro _; rfl
  | succ m ih =>
   intro h
   simp only [pop]
   rw [ih (by omega), Nat.testBit_two_pow_sub_one]
   simp
   omega
 exact this n (Nat.le_refl n)
def p1 (x : Nat) : Nat := ((x / 2) &&& 6148914691236517205) + (x &&& 6148914691236517205)
def p2 (x : Nat) : Nat := ((x / 4) &&& 3689348814741910323) + (x &&& 3689348814741910323)
def p3 (x : Nat) : Nat := (x / 16 + x) &&& 1085102592571150095
theorem and_split {a m : Nat} (b M : Nat) (ha : a < 256) (hm : m < 256) : (256 * b + a) &&& (256 * M + m) = 256 * (b &&& M) + (a &&& m) := by
 apply Nat.eq_of_testBit_eq
 intro i
 have h1 := Nat.testBit_two_pow_mul_add b (i := 8) ha i
 have h2 := Nat.testBit_two_pow_mul_add M (i := 8) hm i
 have h3 := Nat.testBit_two_pow_mul_add (b &&& M) (i := 8) (b := a &&& m) (Nat.lt_of_le_of_lt Nat.and_le_left ha) i
 simp only [show (2 : Nat) ^ 8 = 256 from rfl] at h1 h2 h3
 rw [Nat.testBit_and, h1, h2, h3]
 split <;> simp [Nat.testBit_and]
theorem p1_split (b a : Nat) (ha : a < 256) : p1 (256 * b + a) = 256 * (((b / 2) &&& 24019198012642645) + (b &&& 24019198012642645)) + p1 a := by
 have e1 : (256 * b + a) / 2 = 256 * (b / 2) + (128 * (b % 2) + a / 2) := by omega
 have e2 : ∀ c, c < 2 → ∀ a, a < 256 → (128 * c + a / 2) &&& 85 = (a / 2) &&& 6148914691236517205 := by decide +kernel
 have e3 : ∀ a, a < 256 → a &&& 85 = a &&& 6148914691236517205 := by decide +kernel
 unfold p1
 rw [e1, show (6148914691236517205 : Nat) = 256 * 24019198012642645 + 85 from rfl, and_split _ _ (by omega) (by decide), and_split _ _ ha (by decide), ← show (6148914691236517205 : Nat) = 256 * 24019198012642645 + 85 from rfl, e2 _ (Nat.mod_lt _ (by decide)) a ha, e3 a ha]
 omega
theorem p2_split (b a : Nat) (ha : a < 256) : p2 (256 * b + a) = 256 * (((b / 4) &&& 14411518807585587) + (b &&& 14411518807585587)) + p2 a := by
 have e1 : (256 * b + a) / 4 = 256 * (b / 4) + (64 * (b % 4) + a / 4) := by omega
 have e2 : ∀ c, c < 4 → ∀ a, a < 256 → (64 * c + a / 4) &&& 51 = (a / 4) &&& 3689348814741910323 := by decide +kernel
 have e3 : ∀ a, a < 256 → a &&& 51 = a &&& 3689348814741910323 := by decide +kernel
 unfold p2
 rw [e1, show (3689348814741910323 : Nat) = 256 * 14411518807585587 + 51 from rfl, and_split _ _ (by omega) (by decide), and_split _ _ ha (by decide), ← show (3689348814741910323 : Nat) = 256 * 14411518807585587 + 51 from rfl, e2 _ (Nat.mod_lt _ (by decide)) a ha, e3 a ha]
 omega
theorem p3_split (b a : Nat) (ha : a < 72) (hb : b % 16 ≤ 4) : p3 (256 * b + a) = 256 * ((b / 16 + b) &&& 4238682002231055) + p3 a := by
 have e1 : (256 * b + a) / 16 + (256 * b + a) = 256 * (b / 16 + b) + (16 * (b % 16) + a / 16 + a) := by omega
 have e2 : ∀ c, c < 5 → ∀ a, a < 72 → (16 * c + a / 16 + a) &&& 15 = (a / 16 + a) &&& 1085102592571150095 := by decide +kernel
 unfold p3
 rw [e1, show (1085102592571150095 : Nat) = 256 * 4238682002231055 + 15 from rfl, and_split _ _ (by omega) (by decide), ← show (1085102592571150095 : Nat) = 256 * 4238682002231055 + 15 from rfl, e2 _ (by omega) a ha]
theorem byte : ∀ a, a < 256 → p1 a < 256 ∧ p1 a % 4 ≤ 2 ∧ p2 (p1 a) < 72 ∧ p2 (p1 a) % 16 ≤ 4 ∧ p3 (p2 (p1 a)) = pop 8 a := by decide +kernel
theorem and_low {b M : Nat} (hb : b < 65536) : b &&& M = b &&& (M % 65536) := by
 have h := Nat.and_mod_two_pow (a := b) (b := M) (n := 16)
 simp only [show (2 : Nat) ^ 16 = 65536 from rfl] at h
 rw [Nat.mod_eq_of_lt hb, Nat.mod_eq_of_lt (Nat.lt_of_le_of_lt Nat.and_le_left hb)] at h
 exact h
theorem p1_hi {b : Nat} (hb : b < 65536) : ((b / 2) &&& 24019198012642645) + (b &&& 24019198012642645) = p1 b := by
 unfold p1
 rw [and_low (show b / 2 < 65536 by omega), and_low hb, and_low (M := 6148914691236517205) (show b / 2 < 65536 by omega), and_low (M := 6148914691236517205) hb]
theorem p2_hi {b : Nat} (hb : b < 65536) : ((b / 4) &&& 14411518807585587) + (b &&& 14411518807585587) = p2 b := by
 unfold p2
 rw [and_low (show b / 4 < 65536 by omega), and_low hb, and_low (M := 3689348814741910323) (show b / 4 < 65536 by omega), and_low (M := 3689348814741910323) hb]
theorem p3_hi {b : Nat} (hb : b < 61680) : (b / 16 + b) &&& 4238682002231055 = p3 b := by
 unfold p3
 rw [and_low (show b / 16 + b < 65536 by omega), and_low (M := 1085102592571150095) (show b / 16 + b < 65536 by omega)]
theorem p3_three {a b c : Nat} (ha : a < 256) (hb : b < 256) (hc : c < 256) : p3 (p2 (p1 (256 * (256 * c + b) + a))) = 256 * (256 * pop 8 c + pop 8 b) + pop 8 a := by
 obtain ⟨a1, _, a2, a3, a4⟩ := byte a ha
 obtain ⟨b1, _, b2, b3, b4⟩ := byte b hb
 obtain ⟨c1, _, c2, c3, c4⟩ := byte c hc
 rw [p1_split _ _ ha, p1_hi (by omega), p1_split _ _ hb, p1_hi (by omega)]
 rw [p2_split _ _ a1, p2_hi (by omega), p2_split _ _ b1, p2_hi (by omega)]
 rw [p3_split _ _ a2 (by omega), p3_hi (by omega), p3_split _ _ b2 c3, p3_hi (by omega), a4, b4, c4]
theorem pop24 (a b c : Nat) (ha : a < 256) (hb : b < 256) (hc : c < 256) : pop 24 (256 * (256 * c + b) + a) = pop 8 a + pop 8 b + pop 8 c := by
 rw [show 24 = 8 + (8 + 8) from rfl, pop_add, pop_add, show (2 : Nat) ^ 8 = 256 from rfl, show (256 * (256 * c + b) + a) / 256 = 256 * c + b by omega, show (256 * c + b) / 256 = c by omega]
 rw [← pop_mod 8 (256 * (256 * c + b) + a), ← pop_mod 8 (256 * c + b), show (2 : Nat) ^ 8 = 256 from rfl, show (256 * (256 * c + b) + a) % 256 = a by omega, show (256 * c + b) % 256 = b by omega, Nat.add_assoc]
theorem u64_small {n : Nat} (h : n < 18446744073709551616) : IntKind.u64.wrap (n : Int) = n := by
 rw [IntKind.wrap_u64]; omega
theorem u64_and {a b : Nat} (ha : a < 9223372036854775808) (hb : b < 9223372036854775808) : Go.bits .and .u64 a b = ((a &&& b : Nat) : Int) :=
 (bits_nat .u64 63 (by decide) (fun n h0 h1 => by rw [IntKind.wrap_u64]; omega) a b (by simpa using ha) (by simpa using hb)).1
def s1 (a : Int) : Int := IntKind.u64.wrap ((Go.bits .and .u64 (a / 2) 6148914691236517205) + (Go.bits .and .u64 a 6148914691236517205))
def s2 (a : Int) : Int := IntKind.u64.wrap ((Go.bits .and .u64 (a / 4) 3689348814741910323) + (Go.bits .and .u64 a 3689348814741910323))
def s3 (a : Int) : Int := Go.bits .and .u64 (IntKind.u64.wrap (a / 16 + a)) 1085102592571150095
def s4 (a : Int) : Int := IntKind.u64.wrap (a + a / 256)
def s5 (a : Int) : Int := IntKind.u64.wrap (a + a / 65536)
def s6 (a : Int) : Int := IntKind.u64.wrap (a + a / 4294967296)
theorem ones_steps (a : Int) : bits_OnesCount.f a = some (Go.bits .and .i64 (wrap64 (s6 (s5 (s4 (s3 (s2 (s1 a))))))) 127) := rfl
theorem s1_nat {a : Nat} (h : a < 16777216) : s1 (a : Int) = (p1 a : Int) := by
 unfold s1 p1
 rw [show ((a : Int) / 2) = ((a / 2 : Nat) : Int) by omega, show (6148914691236517205 : Int) = ((6148914691236517205 : Nat) : Int) from rfl, u64_and (by omega) (by decide), u64_and (by omega) (by decide)]
 have h1 : (a / 2 &&& 6148914691236517205) ≤ a / 2 := Nat.and_le_left
 have h2 : (a &&& 6148914691236517205) ≤ a := Nat.and_le_left
 rw [← Int.natCast_add, u64_small (by omega)]
theorem s2_nat {a : Nat} (h : a < 67108864) : s2 (a : Int) = (p2 a : Int) := by
 unfold s2 p2
 rw [show ((a : Int) / 4) = ((a / 4 : Nat) : Int) by omega, show (3689348814741910323 : Int) = ((3689348814741910323 : Nat) : Int) from rfl, u64_and (by omega) (by decide), u64_and (by omega) (by decide)]
 have h1 : (a / 4 &&& 3689348814741910323) ≤ a / 4 := Nat.and_le_left
 have h2 : (a &&& 3689348814741910323) ≤ a := Nat.and_le_left
 rw [← Int.natCast_add, u64_small (by omega)]
theorem s3_nat {a : Nat} (h : a < 268435456) : s3 (a : Int) = (p3 a : Int) := by
 unfold s3 p3
 rw [show ((a : Int) / 16 + a) = ((a / 16 + a : Nat) : Int) by omega, u64_small (by omega), show (1085102592571150095 : Int) = ((1085102592571150095 : Nat) : Int) from rfl, u64_and (by omega) (by decide)]
theorem ones_eq {s : Nat} (h : s < 16777216) : bits_OnesCount.f (s : Int) = some (pop 24 s : Int) := by
 rw [ones_steps]
 have h1 : p1 s < 67108864 := by
  unfold p1
  have h1 : (s / 2 &&& 6148914691236517205) ≤ s / 2 := Nat.and_le_left
  have h2 : (s &&& 6148914691236517205) ≤ s := Nat.and_le_left
  omega
 have h2 : p2 (p1 s) < 268435456 := by
  unfold p2
  have h3 : (p1 s / 4 &&& 3689348814741910323) ≤ p1 s / 4 := Nat.and_le_left
  have h4 : (p1 s &&& 3689348814741910323) ≤ p1 s := Nat.and_le_left
  omega
 rw [s1_nat h, s2_nat h1, s3_nat h2]
 obtain ⟨a, b, c, ha, hb, hc, rfl⟩ : ∃ a b c, a < 256 ∧ b < 256 ∧ c < 256 ∧ s = 256 * (256 * c + b) + a := ⟨s % 256, s / 256 % 256, s / 65536, by omega, by omega, by omega, by omega⟩
 rw [p3_three ha hb hc, pop24 _ _ _ ha hb hc]
 have qa := pop_le 8 a
 have qb := pop_le 8 b
 have qc := pop_le 8 c
 generalize pop 8 a = x at *
 generalize pop 8 b = y at *
 generalize pop 8 c = z at *
 have e4 : s4 ((256 * (256 * z + y) + x : Nat) : Int) = ((65536 * z + 256 * (y + z) + (x + y) : Nat) : Int) := by
  unfold s4
  rw [show (((256 * (256 * z + y) + x : Nat) : Int) + ((256 * (256 * z + y) + x : Nat) : Int) / 256) = ((65536 * z + 256 * (y + z) + (x + y) : Nat) : Int) by omega, u64_small (by omega)]
 have e5 : s5 ((65536 * z + 256 * (y + z) + (x + y) : Nat) : Int) = ((65536 * z + 256 * (y + z) + (x + y + z) : Nat) : Int) := by
  unfold s5
  rw [show (((65536 * z + 256 * (y + z) + (x + y) : Nat) : Int) + ((65536 * z + 256 * (y + z) + (x + y) : Nat) : Int) / 65536) = ((65536 * z + 256 * (y + z) + (x + y + z) : Nat) : Int) by omega, u64_small (by omega)]
 have e6 : s6 ((65536 * z + 256 * (y + z) + (x + y + z) : Nat) : Int) = ((65536 * z + 256 * (y + z) + (x + y + z) : Nat) : Int) := by
  unfold s6
  rw [show (((65536 * z + 256 * (y + z) + (x + y + z) : Nat) : Int) + ((65536 * z + 256 * (y + z) + (x + y + z) : Nat) : Int) / 4294967296) = ((65536 * z + 256 * (y + z) + (x + y + z) : Nat) : Int) by omega, u64_small (by omega)]
 rw [e4, e5, e6, wrap64_id (by omega) (by omega), show (127 : Int) = ((127 : Nat) : Int) from rfl, bits_and (by omega) (by decide)]
 congr 2
 rw [show (127 : Nat) = 2 ^ 7 - 1 from rfl, Nat.and_two_pow_sub_one_eq_mod]
 omega
theorem ones_eq' {n s : Nat} (hn : n ≤ 24) (h : s < 2 ^ n) : bits_OnesCount.f (s : Int) = some (pop n s : Int) := by
 rw [ones_eq (Nat.lt_of_lt_of_le h (Nat.pow_le_pow_right (by decide) hn)), pop_big h hn]
theorem wrap64_shift (x q : Int) : wrap64 (x + 18446744073709551616 * q) = wrap64 x := by unfold wrap64; omega
theorem wrap64_rep (x : Int) : ∃ q, wrap64 x = x + 18446744073709551616 * q := by
 refine ⟨-((x + 9223372036854775808) / 18446744073709551616), ?_⟩
 unfold wrap64
 omega
theorem wrap64_wrap (x : Int) : wrap64 (wrap64 x) = wrap64 x := by unfold wrap64; omega
theorem wrap64_add (x y : Int) : wrap64 (wrap64 x + wrap64 y) = wrap64 (x + y) := by unfold wrap64; omega
theorem wrap64_mull (x y : Int) : wrap64 (wrap64 x * y) = wrap64 (x * y) := by
 obtain ⟨q, hq⟩ := wrap64_rep x
 rw [hq, Int.add_mul, Int.mul_assoc, wrap64_shift]
theorem wrap64_mulr (x y : Int) : wrap64 (x * wrap64 y) = wrap64 (x * y) := by
 rw [Int.mul_comm, wrap64_mull, Int.mul_comm]
theorem wrap64_mul (x y : Int) : wrap64 (wrap64 x * wrap64 y) = wrap64 (x * y) := by rw [wrap64_mull, wrap64_mulr]
end Go.Proofs.Ytoohcdfokejkdaa.P
namespace Go.Proofs.Ytoohcdfokejkdaa.P
open Go.RowKit Go.Proofs.YtoohcdfokejkdaaW.PrintWords Go.Proofs.YtoohcdfokejkdaaW.PrintLast Go.Proofs.YtoohcdfokejkdaaW.PrintMore
attribute [local go_sem] max2_int min2_int max_two min_two max_three min_three max_four min_four   -- for this text's walks alone
set_option linter.unusedVariables false
set_option linter.unusedSimpArgs false

end Go.Proofs.Ytoohcdfokejkdaa.P
namespace Go.Proofs.Ytoohcdfokejkdaa.P
open Go.RowKit Go.Proofs.YtoohcdfokejkdaaW.PrintWords Go.Proofs.Ytoohcdfokejkdaa.Sup
set_option linter.unusedVariables false
set_option linter.unusedSimpArgs false

theorem rdL_get {l : List (List Int)} {i : Nat} (h : i < l.length) : rd_L2 l (i : Int) = l[i] := by simp [rd_L2, List.getD_eq_getElem?_getD, List.getElem?_eq_getElem h]
end Go.Proofs.Ytoohcdfokejkdaa.P
namespace Go.Proofs.Ytoohcdfokejkdaa.P
open Go.RowKit Go.Proofs.YtoohcdfokejkdaaW.PrintWords
set_option linter.unusedVariables false
set_option linter.unusedSimpArgs false

/-- An entry of a matrix. -/
def ent (m : List (List Int)) (r k : Nat) : Int := rd (rd_L2 m r) k
theorem rd_set {X : List Int} {i j : Nat} {v : Int} (hi : i < X.length) : rd (X.set i v) j = if j = i then v else rd X j := by
  by_cases e : j = i
  · subst e
    rw [if_pos rfl, rd_get (by simpa using hi)]
    simp
  · rw [if_neg e, rd_nat, rd_nat, List.getD_eq_getElem?_getD, List.getD_eq_getElem?_getD, List.getElem?_set_ne (fun e' => e e'.symm)]
theorem shl_det {n : Nat} (h : n ≤ 16) : shl .i64 1 (n : Int) = ((2 ^ n : Nat) : Int) := shl_pow (by omega)
theorem pow_small {n : Nat} (h : n ≤ 16) : 2 ^ n ≤ 65536 := Nat.pow_le_pow_right (by decide) h
theorem tmod_two (c : Nat) : (Int.tmod (c : Int) 2 = 1) ↔ ¬ c % 2 = 0 := by
  rw [Int.tmod_eq_emod_of_nonneg (by omega)]
  omega
def rowSum (a : Nat → Nat → Int) (n s j : Nat) : Int := sumTo j fun k => if s.testBit k then term a n s k else 0
theorem rowSum_skip {a : Nat → Nat → Int} {n s j : Nat} (h : s.testBit j = true → a (pop n s - 1) j = 0) : rowSum a n s (j + 1) = rowSum a n s j := by
  unfold rowSum
  simp only [sumTo]
  by_cases hb : s.testBit j = true
  · rw [if_pos hb]
    unfold term
    rw [h hb]
    simp
  · rw [if_neg hb, Int.add_zero]
theorem rowSum_next {a : Nat → Nat → Int} {n s j : Nat} (hb : s.testBit j = true) : rowSum a n s (j + 1) = rowSum a n s j + term a n s j := by
  unfold rowSum
  simp only [sumTo]
  rw [if_pos hb]
section
variable {m : List (List Int)} {n : Nat}
theorem impl_det_l1 (hn : n = m.length) (h16 : n ≤ 16) {s : Nat} (hs : s < 2 ^ n) (h0 : s ≠ 0) (row : List Int) (hr : row = rd_L2 m (pop n s - 1 : Nat)) (hl : row.length = n) (res : Int)
    (next : ∀ X : List Int, X.length = 2 ^ n → (∀ t : Nat, t < 2 ^ n → rd X t = if t < s + 1 then wrap64 (Ds (ent m) n t) else 0) → Ev (fun k => impl_determinant.l0 k m X ((s + 1 : Nat) : Int)) res) :
    ∀ (d j : Nat) (X : List Int), n - j = d → j ≤ n → X.length = 2 ^ n → (∀ t : Nat, t < 2 ^ n → t ≠ s → rd X t = if t < s then wrap64 (Ds (ent m) n t) else 0) → rd X s = wrap64 (rowSum (ent m) n s j) →
      Ev (fun k => impl_determinant.l1 k m X s row (n : Int) j) res
  | 0, j, X, hd, hj, hX, hi, hj2 => by
    have hp := pow_small h16
    refine Ev.step (fun _ => impl_determinant.l1.eq_2 ..) ?_
    refine Ev.ff (by omega) ?_
    rw [wsucc (by omega)]
    refine next X hX fun t ht => ?_
    by_cases e : t = s
    · subst e
      rw [if_pos (by omega), hj2, Ds_sum (pop_ne hs h0), show n = j by omega]
      rfl
    · rw [hi t ht e]
      by_cases h : t < s
      · rw [if_pos h, if_pos (by omega)]
      · rw [if_neg h, if_neg (by omega)]
  | d + 1, j, X, hd, hj, hX, hi, hj2 => by
    have hp := pow_small h16
    have ih := impl_det_l1 hn h16 hs h0 row hr hl res next d (j + 1)
    have hw : rd row j = ent m (pop n s - 1) j := by rw [hr]; rfl
    refine Ev.step (fun _ => impl_determinant.l1.eq_2 ..) ?_
    refine Ev.tt (by omega) (Ev.tt (by omega) (Ev.tt (by omega) ?_))
    have skip : (s.testBit j = true → ent m (pop n s - 1) j = 0) → Ev (fun k => impl_determinant.j2 k m X s j (rd row j) row (n : Int) j true) res := by
      intro h
      refine Ev.step (fun _ => impl_determinant.j2.eq_2 ..) ?_
      refine Ev.tt rfl ?_
      rw [wsucc (by omega)]
      exact ih X (by omega) (by omega) hX hi (by rw [hj2, rowSum_skip h])
    by_cases hv : rd row j = 0
    · exact Ev.tt hv (skip fun _ => by rw [← hw]; exact hv)
    · refine Ev.ff hv ?_
      rw [bit_zero (by omega)]
      cases hb : s.testBit j
      · exact skip fun h => by rw [hb] at h; cases h
      · refine Ev.step (fun _ => impl_determinant.j2.eq_2 ..) ?_
        refine Ev.ff (by simp) ?_
        have hdl := del_le s j
        have hdn : Go.bits .andNot .i64 (s : Int) (shl .i64 1 (j : Int)) = ((del s j : Nat) : Int) := by
          rw [shl_det (by omega), bits_andNot (by omega) (by have := pow_small (show j ≤ 16 by omega); omega)]
          rfl
        rw [wsucc (by omega)]
        refine Ev.tt (by omega) ?_
        rw [shr_nat (by omega), u64_small (by have := Nat.div_le_self s (2 ^ (j + 1)); omega)]
        refine Ev.bnd0 (ones_eq' (n := n) (by omega) (Nat.lt_of_le_of_lt (Nat.div_le_self _ _) hs)) ?_
        rw [hdn]
        have hD : rd X (del s j : Nat) = wrap64 (Ds (ent m) n (del s j)) := by
          have := del_lt hb
          rw [hi _ (by omega) (by omega), if_pos this]
        rw [hD, hj2]
        have fin : ∀ v : Int, wrap64 v = wrap64 (rowSum (ent m) n s (j + 1)) → v = wrap64 v → Ev (fun k => impl_determinant.l1 k m (X.set ((s : Int)).toNat v) s row (n : Int) ((j + 1 : Nat) : Int)) res := by
          intro v hv1 hv2
          rw [Int.toNat_natCast]
          refine ih _ (by omega) (by omega) (by rw [List.length_set]; exact hX) (fun t ht hne => ?_) ?_
          · rw [rd_set (by omega), if_neg hne]
            exact hi t ht hne
          · rw [rd_set (by omega), if_pos rfl, hv2, hv1]
        have ht := rowSum_next (a := ent m) (n := n) (s := s) (j := j) hb
        unfold term at ht
        rw [← hw] at ht
        refine Ev.ite (fun ho => ?_) (fun ho => ?_)
        · refine Ev.tt (by omega) (Ev.tt (by omega) (Ev.tt (by omega) (Ev.tt (by omega) (Ev.tt (by omega) ?_))))
          refine fin _ ?_ (wrap64_wrap _).symm
          rw [wrap64_wrap, wrap64_mul, wrap64_add, ht]
          have hsg : sgn (above n s j) = -1 := by unfold sgn; rw [if_neg]; exact (tmod_two _).1 ho
          rw [hsg]
          congr 2
          simp
        · refine Ev.tt (by omega) (Ev.tt (by omega) (Ev.tt (by omega) (Ev.tt (by omega) (Ev.tt (by omega) ?_))))
          refine fin _ ?_ (wrap64_wrap _).symm
          rw [wrap64_wrap, wrap64_mulr, wrap64_add, ht]
          have hsg : sgn (above n s j) = 1 := by unfold sgn; rw [if_pos]; exact Decidable.not_not.1 (fun h => ho ((tmod_two _).2 h))
          rw [hsg]
          congr 2
          simp
theorem impl_det_l0 (hn : n = m.length) (h16 : n ≤ 16) (hrow : ∀ r, r < n → (rd_L2 m (r : Nat)).length = n) : ∀ (d s : Nat) (X : List Int), 2 ^ n - s = d → s ≤ 2 ^ n → s ≠ 0 → X.length = 2 ^ n → (∀ t : Nat, t < 2 ^ n → rd X t = if t < s then wrap64 (Ds (ent m) n t) else 0) →
      Ev (fun k => impl_determinant.l0 k m X s) (wrap64 (Ds (ent m) n (2 ^ n - 1)))
  | 0, s, X, hd, hs, h0, hX, hi => by
    have hp := pow_small h16
    have hp1 : 0 < 2 ^ n := Nat.two_pow_pos n
    refine Ev.step (fun _ => impl_determinant.l0.eq_2 ..) ?_
    refine Ev.ff (by omega) ?_
    rw [hX, show wrap64 (((2 ^ n : Nat) : Int) - 1) = ((2 ^ n - 1 : Nat) : Int) by rw [wrap64_id (by omega) (by omega)]; omega]
    refine Ev.tt (by omega) (Ev.tt (by omega) (Ev.ret ?_))
    rw [hi _ (by omega), if_pos (by omega)]
  | d + 1, s, X, hd, hs, h0, hX, hi => by
    have hp := pow_small h16
    have hsl : s < 2 ^ n := by omega
    have hpn := pop_ne hsl h0
    have hpl := pop_le n s
    refine Ev.step (fun _ => impl_determinant.l0.eq_2 ..) ?_
    refine Ev.tt (by omega) ?_
    rw [u64_small (by omega)]
    refine Ev.bnd0 (ones_eq' (n := n) (by omega) hsl) ?_
    rw [show wrap64 ((pop n s : Int) - 1) = ((pop n s - 1 : Nat) : Int) by rw [wrap64_id (by omega) (by omega)]; omega]
    refine Ev.tt (by omega) (Ev.tt (by omega) ?_)
    have hl := hrow (pop n s - 1) (by omega)
    rw [hl]
    refine impl_det_l1 hn h16 hsl h0 _ rfl hl _ (fun X' hX' hi' => impl_det_l0 hn h16 hrow d (s + 1) X' (by omega) (by omega) (by omega) hX' hi') n 0 X (by omega) (by omega) hX (fun t ht hne => ?_) ?_
    · rw [hi t ht]
    · rw [hi s hsl, if_neg (by omega), show rowSum (ent m) n s 0 = 0 from rfl, wrap64_id (by decide) (by decide)]
theorem impl_det_ev (hn : n = m.length) (h16 : n ≤ 16) (hrow : ∀ r, r < n → (rd_L2 m (r : Nat)).length = n) : Ev (fun k => impl_determinant.f k m) (wrap64 (Ds (ent m) n (2 ^ n - 1))) := by
  have hp := pow_small h16
  have hp1 : 0 < 2 ^ n := Nat.two_pow_pos n
  unfold impl_determinant.f
  rw [← hn, shl_det h16]
  refine Ev.tt (by omega) (Ev.tt (by omega) (Ev.bnd0 rfl (Ev.tt (by rw [List.length_replicate]; omega) ?_)))
  refine impl_det_l0 hn h16 hrow (2 ^ n - 1) 1 _ rfl (by omega) (by omega) (by rw [List.length_set, List.length_replicate]; omega) fun t ht => ?_
  rw [show ((0 : Int)).toNat = 0 from rfl, rd_set (by rw [List.length_replicate]; omega)]
  by_cases e : t = 0
  · subst e
    rw [if_pos rfl, if_pos (by omega), Ds_zero, wrap64_id (by decide) (by decide)]
  · rw [if_neg e, if_neg (by omega), rd_nat, List.getD_eq_getElem?_getD]
    cases h : (List.replicate (((2 ^ n : Nat) : Int)).toNat (0 : Int))[t]? with
    | none => rfl
    | some v => exact (List.mem_replicate.1 (List.mem_of_getElem? h)).2
end
end Go.Proofs.Ytoohcdfokejkdaa.P
