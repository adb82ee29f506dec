/- The statement FnExactNextMaze of the seat, out of its plain form (FnExactNextMaze_pure) and the walk of its Go function. Part 3 of 6: each Go function's walk, then the plain lemmas, then the row. No condition: it holds for every input. -/
import Derived.Test.YtoohcdfokejkdaaBFnExactNextMaze2
namespace Go.Proofs.Ytoohcdfokejkdaa.P
open Go.RowKit Go.Proofs.YtoohcdfokejkdaaW.PrintWords Go.Proofs.YtoohcdfokejkdaaW.PrintLast Go.Proofs.YtoohcdfokejkdaaW.PrintMore
attribute [local go_sem] max2_int min2_int max_two min_two max_three min_three max_four min_four   -- for this text's walks alone
set_option linter.unusedVariables false
set_option linter.unusedSimpArgs false

def impl_CountLoops.f (k : Nat) (a0_0 : Int) (a0_1 : Int) (a0_2 : Int) : Option (Int) := (impl_MazeOk.f a0_0 a0_1 a0_2).bind fun t102 => (if t102 = true then ((impl_CountPassages.f a0_0 a0_1 a0_2).bind fun t103 => ((impl_CountCells.f a0_0 a0_1).bind fun t104 => ((impl_CountParts.f k a0_0 a0_1 a0_2).bind fun t105 => (some (wrap64 ((wrap64 (t103 - t104)) + t105)))))) else (some 0))
def impl_CountLoops.T3 : Bool × List (List Nat × List Nat) := (true, [([], []), ([0], [0]), ([], []), ([2], [2]), ([3, 1], [3]), ([1, 4], [1, 4]), ([], []), ([6, 4], [6]), ([5, 7], [5, 7]), ([8, 7, 0, 1, 2, 3, 4, 5, 6, 7, 8], [8])])
def impl_CountLoops.B3 : List Nat := [0, 1, 0, 4, 15, 31, 0, 95, 255, 511]
theorem impl_CountLoops.tab3 : rtab .any (opsOf Try.f80 3) = impl_CountLoops.T3 := by kernel_rfl
theorem impl_CountLoops.bits3 : waitsOk impl_CountLoops.T3.2 impl_CountLoops.B3 = true := by kernel_rfl
set_option maxHeartbeats 8000000 in
set_option maxRecDepth 100000 in
theorem impl_CountLoops.calls (k : Nat) (a0_0 : Int) (a0_1 : Int) (a0_2 : Int) (r : Int) (w : World) (h : impl_CountLoops.f k a0_0 a0_1 a0_2 = some r) :
  Calls Try.prog 80 #[.agg #[.int .i64 a0_0, .int .i64 a0_1, .int .i64 a0_2]] w fun e w' => e = .returned (.int .i64 r) ∧ Below w.heap.size w w' := by
 have hu42 := Try.underlying42
 have hu40 := Try.underlying40
 have HB := A_ (Below.refl w.heap.size w)
 have H : ((impl_MazeOk.f a0_0 a0_1 a0_2).bind fun t102 => (if t102 = true then ((impl_CountPassages.f a0_0 a0_1 a0_2).bind fun t103 => ((impl_CountCells.f a0_0 a0_1).bind fun t104 => ((impl_CountParts.f k a0_0 a0_1 a0_2).bind fun t105 => (some (wrap64 ((wrap64 (t103 - t104)) + t105)))))) else (some 0))) = some r := h
 clear h
 obtain ⟨t102, A20, H⟩ := oB_ H
 (try dsimp only at H); have A2 := A_ A20; clear A20
 by_cases c3 : t102 = true
 ·subst c3
  rw [if_pos rfl] at H
  obtain ⟨t103, A40, H⟩ := oB_ H
  (try dsimp only at H); have A4 := A_ A40; clear A40
  obtain ⟨t104, A50, H⟩ := oB_ H
  (try dsimp only at H); have A5 := A_ A50; clear A50
  obtain ⟨t105, A60, H⟩ := oB_ H
  (try dsimp only at H); have A6 := A_ A60; clear A60
  obtain rfl := Option.some.inj H
  go_enter Try.func80, Try.ntmps80
  try go_wp2_with (first | ((with_reducible refine gate_dst (N := 1) rfl ?_); refine be_ 1 #[.int .i64 a0_0, .int .i64 a0_1, .int .i64 a0_2] 42 ?_; intro gb101 hg w7 hbox hb; have n0_ := A_ (bs_ HB.1 hb); have n1_ := A_ (hbox); have n2_ := A_ (bS_ HB.out hg); have n3_ := A_ (bS_ HB.out hg); clear HB; have HB := n0_; have BK101 := n1_; have GW101 := n2_; have GE101 := n3_; clear n0_ n1_ n2_ n3_ hb hbox hg; obtain ⟨hcz8_0, hcz8_1, hcz8_2⟩ := kk3_ BK101.1; have hfz8_0 := bf_ BK101.out 0; have hfz8_1 := bf_ BK101.out 1; have hfz8_2 := bf_ BK101.out 2) | ((with_reducible refine gate_callee (f := 69) rfl ?_); refine gl_ 4 Try.func69 #[.agg #[.int .i64 a0_0, .int .i64 a0_1, .int .i64 a0_2]] ?_; (with_reducible refine (impl_MazeOk.calls a0_0 a0_1 a0_2 true _ A2.out).mono ?_); rintro e w9 ⟨rfl, hb⟩; refine ⟨_, rfl, ?_⟩; have n0_ := A_ (blk_below BK101.out hb); have n1_ := A_ (bs_ HB.1 hb); clear BK101 HB; have BK101 := n0_; have HB := n1_; clear n0_ n1_; (try clear hb); (try clear hk)))
  have n0_ := A_ (blk_drew BK101.out); have n1_ := A_ (below_drew1 HB.out); clear BK101 HB; have BK101 := n0_; have HB := n1_; clear n0_ n1_
  refine start_ (n := 10) (S := fun w' => w'.cell? ⟨gb101, 0, none⟩ = some (.int .i64 a0_0) ∧ w'.cell? ⟨gb101, 1, none⟩ = some (.int .i64 a0_1) ∧ w'.cell? ⟨gb101, 2, none⟩ = some (.int .i64 a0_2)) (ds := []) #[false, false, false, false, false, false, false, false, false, false] (by kernel_rfl) rfl rfl ⟨(blk_cell BK101.out 0).trans rfl, (blk_cell BK101.out 1).trans rfl, (blk_cell BK101.out 2).trans rfl⟩ (fun hHeld => ?_); refine with_tabW impl_CountLoops.tab3 impl_CountLoops.bits3 (fun HT_ HW_ => ?_)
  generalize w9.drew = w10 at BK101 HB hHeld ⊢; refine pv_ 2 8 HT_ ?_; refine tv_ 0 6 rfl HT_ HW_ hHeld (by rintro w' ⟨s0, s1, s2⟩; go_simp; with_reducible rfl) ?_
  refine tv_ 3 9 rfl HT_ HW_ hHeld (by rintro w' ⟨s0, s1, s2⟩; go_simp; with_reducible rfl) ?_
  refine tv_ 6 12 rfl HT_ HW_ hHeld (by rintro w' ⟨s0, s1, s2⟩; go_simp; with_reducible rfl) ?_
  refine on_ 1 (some 7) rfl rfl HT_ (by kernel_rfl) (by decide) (fun K hK => ?_)
  refine gs_ Try.func91 #[.agg #[.int .i64 a0_0, .int .i64 a0_1, .int .i64 a0_2]] ?_
  with_reducible refine (impl_CountPassages.calls a0_0 a0_1 a0_2 t103 _ A4.out).mono ?_
  rintro e w11 ⟨rfl, hb⟩
  refine ⟨_, rfl, ?_⟩
  have n0_ := A_ (blk_below BK101.out hb)
  have n1_ := A_ (bs_ HB.1 hb)
  clear BK101 HB; have BK101 := n0_; have HB := n1_; clear n0_ n1_; (try clear hb); (try clear hk)
  refine hK.out _ _ ⟨(blk_cell BK101.out 0).trans rfl, (blk_cell BK101.out 1).trans rfl, (blk_cell BK101.out 2).trans rfl⟩ (fun hHeld => ?_)
  clear hK K
  refine norm_ (a' := ?_) ?_ ?_; rotate_left; (show Act.put _ (some 7) _ = _; simp only [P6_]; rfl)
  refine on_ 4 (some 10) rfl rfl HT_ (by kernel_rfl) (by decide) (fun K hK => ?_)
  refine gs_ Try.func70 #[.agg #[.int .i64 a0_0, .int .i64 a0_1]] ?_
  with_reducible refine (impl_CountCells.calls a0_0 a0_1 t104 _ A5.out).mono ?_
  rintro e w12 ⟨rfl, hb⟩
  refine ⟨_, rfl, ?_⟩
  have n0_ := A_ (blk_below BK101.out hb)
  have n1_ := A_ (bs_ HB.1 hb)
  clear BK101 HB; have BK101 := n0_; have HB := n1_; clear n0_ n1_; (try clear hb); (try clear hk)
  refine hK.out _ _ ⟨(blk_cell BK101.out 0).trans rfl, (blk_cell BK101.out 1).trans rfl, (blk_cell BK101.out 2).trans rfl⟩ (fun hHeld => ?_)
  clear hK K
  refine norm_ (a' := ?_) ?_ ?_; rotate_left; (show Act.put _ (some 10) _ = _; simp only [P6_]; rfl)
  refine pv_ 5 11 HT_ ?_
  refine on_ 7 (some 13) rfl rfl HT_ (by kernel_rfl) (by decide) (fun K hK => ?_)
  refine gs_ Try.func107 #[.agg #[.int .i64 a0_0, .int .i64 a0_1, .int .i64 a0_2]] ?_
  with_reducible refine (impl_CountParts.calls k a0_0 a0_1 a0_2 t105 _ A6.out).mono ?_
  rintro e w13 ⟨rfl, hb⟩
  refine ⟨_, rfl, ?_⟩
  have n0_ := A_ (blk_below BK101.out hb)
  have n1_ := A_ (bs_ HB.1 hb)
  clear BK101 HB; have BK101 := n0_; have HB := n1_; clear n0_ n1_; (try clear hb); (try clear hk)
  refine hK.out _ _ ⟨(blk_cell BK101.out 0).trans rfl, (blk_cell BK101.out 1).trans rfl, (blk_cell BK101.out 2).trans rfl⟩ (fun hHeld => ?_)
  clear hK K
  refine norm_ (a' := ?_) ?_ ?_; rotate_left; (show Act.put _ (some 13) _ = _; simp only [P6_]; rfl)
  refine pv_ 8 14 HT_ ?_; refine pv_ 9 2 HT_ ?_
  refine done_ (done_of HT_.out (by kernel_rfl)) ?_
  try go_wp2
  go_ret
  exact ⟨by rfl, by repeat ((with_reducible exact HB.out))⟩
 ·replace c3 := Bool.eq_false_iff.mpr c3
  subst c3
  have H1 : (some 0) = some r := by rw [if_neg (show ¬ (false = true) by decide)] at H; exact H
  clear H
  have H := H1
  clear H1
  obtain rfl := Option.some.inj H
  go_enter Try.func80, Try.ntmps80
  go_wp2_with (first | ((with_reducible refine gate_dst (N := 1) rfl ?_); refine be_ 1 #[.int .i64 a0_0, .int .i64 a0_1, .int .i64 a0_2] 42 ?_; intro gb101 hg w14 hbox hb; have n0_ := A_ (bs_ HB.1 hb); have n1_ := A_ (hbox); have n2_ := A_ (bS_ HB.out hg); have n3_ := A_ (bS_ HB.out hg); clear HB; have HB := n0_; have BK101 := n1_; have GW101 := n2_; have GE101 := n3_; clear n0_ n1_ n2_ n3_ hb hbox hg; obtain ⟨hcz15_0, hcz15_1, hcz15_2⟩ := kk3_ BK101.1; have hfz15_0 := bf_ BK101.out 0; have hfz15_1 := bf_ BK101.out 1; have hfz15_2 := bf_ BK101.out 2) | ((with_reducible refine gate_callee (f := 69) rfl ?_); refine gl_ 4 Try.func69 #[.agg #[.int .i64 a0_0, .int .i64 a0_1, .int .i64 a0_2]] ?_; (with_reducible refine (impl_MazeOk.calls a0_0 a0_1 a0_2 false _ A2.out).mono ?_); rintro e w16 ⟨rfl, hb⟩; refine ⟨_, rfl, ?_⟩; have n0_ := A_ (blk_below BK101.out hb); have n1_ := A_ (bs_ HB.1 hb); clear BK101 HB; have BK101 := n0_; have HB := n1_; clear n0_ n1_; (try clear hb); (try clear hk)))
  go_ret
  exact ⟨by rfl, by repeat ((with_reducible exact HB.out))⟩

def impl_isGap.f (a0_0 : Int) (a0_1 : Int) (a1 : Int) : Option (Bool) := if a1 ≥ 0 then ((impl_CountGaps.f a0_0 a0_1).bind fun t102 => (some (decide (a1 < t102)))) else (some false)
set_option maxHeartbeats 8000000 in
set_option maxRecDepth 100000 in
theorem impl_isGap.calls (a0_0 : Int) (a0_1 : Int) (a1 : Int) (r : Bool) (w : World) (h : impl_isGap.f a0_0 a0_1 a1 = some r) :
  Calls Try.prog 106 #[.agg #[.int .i64 a0_0, .int .i64 a0_1], .int .i64 a1] w fun e w' => e = .returned (.bool r) ∧ Below w.heap.size w w' := by
 have hu40 := Try.underlying40
 have HB := A_ (Below.refl w.heap.size w)
 have H : (if a1 ≥ 0 then ((impl_CountGaps.f a0_0 a0_1).bind fun t102 => (some (decide (a1 < t102)))) else (some false)) = some r := h
 clear h
 by_cases c3 : a1 ≥ 0
 ·rw [if_pos c3] at H
  have c3b0 : decide (0 ≤ a1) = true := decide_eq_true c3
  clear c3
  obtain ⟨t102, A40, H⟩ := oB_ H
  (try dsimp only at H); have A4 := A_ A40; clear A40
  obtain rfl := Option.some.inj H
  go_enter Try.func106, Try.ntmps106
  go_wp2_with (first | ((with_reducible refine gate_dst (N := 2) rfl ?_); refine be_ 2 #[.int .i64 a0_0, .int .i64 a0_1] 40 ?_; intro gb101 hg w5 hbox hb; have n0_ := A_ (bs_ HB.1 hb); have n1_ := A_ (hbox); have n2_ := A_ (bS_ HB.out hg); have n3_ := A_ (bS_ HB.out hg); clear HB; have HB := n0_; have BK101 := n1_; have GW101 := n2_; have GE101 := n3_; clear n0_ n1_ n2_ n3_ hb hbox hg; obtain ⟨hcz6_0, hcz6_1⟩ := kk2_ BK101.1; have hfz6_0 := bf_ BK101.out 0; have hfz6_1 := bf_ BK101.out 1) | (go_at_call 78; (with_reducible refine (impl_CountGaps.calls a0_0 a0_1 t102 _ A4.out).mono ?_); rintro e w7 ⟨rfl, hb⟩; have n0_ := A_ (blk_below BK101.out hb); have n1_ := A_ (bs_ HB.1 hb); clear BK101 HB; have BK101 := n0_; have HB := n1_; clear n0_ n1_; (try clear hb); (try clear hk)))
  go_ret
  exact ⟨by rfl, by repeat ((with_reducible exact HB.out))⟩
 ·rw [if_neg c3] at H
  have c3b0 : decide (0 ≤ a1) = false := decide_eq_false c3
  clear c3
  obtain rfl := Option.some.inj H
  go_enter Try.func106, Try.ntmps106
  go_wp2_with (((with_reducible refine gate_dst (N := 2) rfl ?_); refine be_ 2 #[.int .i64 a0_0, .int .i64 a0_1] 40 ?_; intro gb101 hg w8 hbox hb; have n0_ := A_ (bs_ HB.1 hb); have n1_ := A_ (hbox); have n2_ := A_ (bS_ HB.out hg); have n3_ := A_ (bS_ HB.out hg); clear HB; have HB := n0_; have BK101 := n1_; have GW101 := n2_; have GE101 := n3_; clear n0_ n1_ n2_ n3_ hb hbox hg))
  go_ret
  exact ⟨by rfl, by repeat ((with_reducible exact HB.out))⟩

def impl_EndsOf.f (a0_0 : Int) (a0_1 : Int) (a1 : Int) : Option (Int × Int) := (impl_isGap.f a0_0 a0_1 a1).bind fun t102 => (if t102 = true then (if a1 ≥ (wrap64 ((wrap64 (a0_0 - 1)) * a0_1)) then (some (wrap64 (a1 - (wrap64 ((wrap64 (a0_0 - 1)) * a0_1))), wrap64 ((wrap64 (a1 - (wrap64 ((wrap64 (a0_0 - 1)) * a0_1)))) + a0_0))) else (if (wrap64 (a0_0 - 1)) = 0 then (none) else (some (wrap64 ((wrap64 ((wrap64 (Int.tdiv a1 (wrap64 (a0_0 - 1)))) * a0_0)) + (Int.tmod a1 (wrap64 (a0_0 - 1)))), wrap64 ((wrap64 ((wrap64 ((wrap64 (Int.tdiv a1 (wrap64 (a0_0 - 1)))) * a0_0)) + (Int.tmod a1 (wrap64 (a0_0 - 1))))) + 1))))) else (some ((-1), (-1))))
set_option maxHeartbeats 8000000 in
set_option maxRecDepth 100000 in
theorem impl_EndsOf.calls (a0_0 : Int) (a0_1 : Int) (a1 : Int) (r1 : Int) (r2 : Int) (w : World) (h : impl_EndsOf.f a0_0 a0_1 a1 = some (r1, r2)) :
  Calls Try.prog 82 #[.agg #[.int .i64 a0_0, .int .i64 a0_1], .int .i64 a1] w fun e w' => e = .returned (.tuple #[.int .i64 r1, .int .i64 r2]) ∧ Below w.heap.size w w' := by
 have hu40 := Try.underlying40
 have HB := A_ (Below.refl w.heap.size w)
 have H : ((impl_isGap.f a0_0 a0_1 a1).bind fun t102 => (if t102 = true then (if a1 ≥ (wrap64 ((wrap64 (a0_0 - 1)) * a0_1)) then (some (wrap64 (a1 - (wrap64 ((wrap64 (a0_0 - 1)) * a0_1))), wrap64 ((wrap64 (a1 - (wrap64 ((wrap64 (a0_0 - 1)) * a0_1)))) + a0_0))) else (if (wrap64 (a0_0 - 1)) = 0 then (none) else (some (wrap64 ((wrap64 ((wrap64 (Int.tdiv a1 (wrap64 (a0_0 - 1)))) * a0_0)) + (Int.tmod a1 (wrap64 (a0_0 - 1)))), wrap64 ((wrap64 ((wrap64 ((wrap64 (Int.tdiv a1 (wrap64 (a0_0 - 1)))) * a0_0)) + (Int.tmod a1 (wrap64 (a0_0 - 1))))) + 1))))) else (some ((-1), (-1))))) = some (r1, r2) := h
 clear h
 obtain ⟨t102, A30, H⟩ := oB_ H
 (try dsimp only at H); have A3 := A_ A30; clear A30
 by_cases c4 : t102 = true
 ·subst c4
  rw [if_pos rfl] at H
  by_cases c5 : a1 ≥ (wrap64 ((wrap64 (a0_0 - 1)) * a0_1))
  ·rw [if_pos c5] at H
   have c5b0 : decide ((wrap64 ((wrap64 (a0_0 - 1)) * a0_1)) ≤ a1) = true := decide_eq_true c5
   clear c5
   simp only [Option.some.injEq, Prod.mk.injEq] at H
   obtain ⟨rfl, rfl⟩ := H
   go_enter Try.func82, Try.ntmps82
   go_wp2_with (first | ((with_reducible refine gate_dst (N := 2) rfl ?_); refine be_ 2 #[.int .i64 a0_0, .int .i64 a0_1] 40 ?_; intro gb101 hg w6 hbox hb; have n0_ := A_ (bs_ HB.1 hb); have n1_ := A_ (hbox); have n2_ := A_ (bS_ HB.out hg); have n3_ := A_ (bS_ HB.out hg); clear HB; have HB := n0_; have BK101 := n1_; have GW101 := n2_; have GE101 := n3_; clear n0_ n1_ n2_ n3_ hb hbox hg; obtain ⟨hcz7_0, hcz7_1⟩ := kk2_ BK101.1; have hfz7_0 := bf_ BK101.out 0; have hfz7_1 := bf_ BK101.out 1) | (go_at_call 106; (with_reducible refine (impl_isGap.calls a0_0 a0_1 a1 true _ A3.out).mono ?_); rintro e w8 ⟨rfl, hb⟩; have n0_ := A_ (blk_below BK101.out hb); have n1_ := A_ (bs_ HB.1 hb); clear BK101 HB; have BK101 := n0_; have HB := n1_; clear n0_ n1_; (try clear hb); (try clear hk); obtain ⟨hcz9_0, hcz9_1⟩ := kk2_ BK101.1; have hfz9_0 := bf_ BK101.out 0; have hfz9_1 := bf_ BK101.out 1))
   repeat (go_quiet (fail); try go_wp2_with (fail))
   go_ret2
   exact ⟨by rfl, by repeat ((with_reducible first | exact HB.out | apply pw_below_drewN))⟩
  ·rw [if_neg c5] at H
   have c5b0 : decide ((wrap64 ((wrap64 (a0_0 - 1)) * a0_1)) ≤ a1) = false := decide_eq_false c5
   clear c5
   by_cases c10 : (wrap64 (a0_0 - 1)) = 0
   ·rw [if_pos c10] at H
    exact absurd H (by simp)
   ·rw [if_neg c10] at H
    have c10b0 : ((wrap64 (a0_0 - 1)) == 0) = false := beq_eq_false_iff_ne.mpr c10
    have c10b1 : ((wrap64 (a0_0 - 1)) != 0) = true := bne_iff_ne.mpr c10
    simp only [Option.some.injEq, Prod.mk.injEq] at H
    obtain ⟨rfl, rfl⟩ := H
    go_enter Try.func82, Try.ntmps82
    go_wp2_with (first | ((with_reducible refine gate_dst (N := 2) rfl ?_); refine be_ 2 #[.int .i64 a0_0, .int .i64 a0_1] 40 ?_; intro gb101 hg w11 hbox hb; have n0_ := A_ (bs_ HB.1 hb); have n1_ := A_ (hbox); have n2_ := A_ (bS_ HB.out hg); have n3_ := A_ (bS_ HB.out hg); clear HB; have HB := n0_; have BK101 := n1_; have GW101 := n2_; have GE101 := n3_; clear n0_ n1_ n2_ n3_ hb hbox hg; obtain ⟨hcz12_0, hcz12_1⟩ := kk2_ BK101.1; have hfz12_0 := bf_ BK101.out 0; have hfz12_1 := bf_ BK101.out 1) | (go_at_call 106; (with_reducible refine (impl_isGap.calls a0_0 a0_1 a1 true _ A3.out).mono ?_); rintro e w13 ⟨rfl, hb⟩; have n0_ := A_ (blk_below BK101.out hb); have n1_ := A_ (bs_ HB.1 hb); clear BK101 HB; have BK101 := n0_; have HB := n1_; clear n0_ n1_; (try clear hb); (try clear hk); obtain ⟨hcz14_0, hcz14_1⟩ := kk2_ BK101.1; have hfz14_0 := bf_ BK101.out 0; have hfz14_1 := bf_ BK101.out 1))
    repeat (go_quiet (fail); try go_wp2_with (fail))
    go_ret2
    exact ⟨by rfl, by repeat ((with_reducible first | exact HB.out | apply pw_below_drewN))⟩
 ·replace c4 := Bool.eq_false_iff.mpr c4
  subst c4
  have H1 : (some ((-1), (-1))) = some (r1, r2) := by rw [if_neg (show ¬ (false = true) by decide)] at H; exact H
  clear H
  have H := H1
  clear H1
  simp only [Option.some.injEq, Prod.mk.injEq] at H
  obtain ⟨rfl, rfl⟩ := H
  go_enter Try.func82, Try.ntmps82
  go_wp2_with (first | ((with_reducible refine gate_dst (N := 2) rfl ?_); refine be_ 2 #[.int .i64 a0_0, .int .i64 a0_1] 40 ?_; intro gb101 hg w15 hbox hb; have n0_ := A_ (bs_ HB.1 hb); have n1_ := A_ (hbox); have n2_ := A_ (bS_ HB.out hg); have n3_ := A_ (bS_ HB.out hg); clear HB; have HB := n0_; have BK101 := n1_; have GW101 := n2_; have GE101 := n3_; clear n0_ n1_ n2_ n3_ hb hbox hg; obtain ⟨hcz16_0, hcz16_1⟩ := kk2_ BK101.1; have hfz16_0 := bf_ BK101.out 0; have hfz16_1 := bf_ BK101.out 1) | (go_at_call 106; (with_reducible refine (impl_isGap.calls a0_0 a0_1 a1 false _ A3.out).mono ?_); rintro e w17 ⟨rfl, hb⟩; have n0_ := A_ (blk_below BK101.out hb); have n1_ := A_ (bs_ HB.1 hb); clear BK101 HB; have BK101 := n0_; have HB := n1_; clear n0_ n1_; (try clear hb); (try clear hk)))
  repeat (go_quiet (fail); try go_wp2_with (fail))
  go_ret2
  exact ⟨by rfl, by repeat ((with_reducible exact HB.out))⟩

end Go.Proofs.Ytoohcdfokejkdaa.P
namespace Go.Proofs.Ytoohcdfokejkdaa.P
open Go.RowKit Go.Proofs.YtoohcdfokejkdaaW.PrintWords Go.Proofs.YtoohcdfokejkdaaW.PrintLast Go.Proofs.YtoohcdfokejkdaaW.PrintMore
attribute [local go_sem] max2_int min2_int max_two min_two max_three min_three max_four min_four   -- for this text's walks alone
set_option linter.unusedVariables false
set_option linter.unusedSimpArgs false

mutual
def impl_CountFixed.j0 : Nat → Int → Int → Bool → Int → Int → Option (Int)
 | 0, _, _, _, _, _ => none
 | k + 1, x1, x2, x48, x102000, x102001 => if x48 = true then (some 0) else ((impl_CountLoops.f k x102000 x102001 x1).bind fun t105 => (if t105 > 0 then (some 0) else ((impl_CountCells.f x102000 x102001).bind fun t106 => (if 0 ≤ t106 then (if (t106 : Int).toNat ≤ 35184372088832 then ((some (List.replicate (t106 : Int).toNat 0 : List Int)).bind fun y107 => (impl_CountFixed.l0 k x1 x2 y107 0 (y107.length : Int) 0 x102000 x102001 x102000 x102001 x1)) else (none)) else (none)))))
def impl_CountFixed.l0 : Nat → Int → Int → List Int → Int → Int → Int → Int → Int → Int → Int → Int → Option (Int)
 | 0, _, _, _, _, _, _, _, _, _, _, _ => none
 | k + 1, x1, x2, x9, x10, x59, x60, x102000, x102001, x105000, x105001, x105002 => if x60 < x59 then ((impl_Reached.f k x105000 x105001 x105002 x60).bind fun t110 => (if 0 < (t110.length : Int) then (if (rd t110 0) < x60 then (if 0 ≤ (rd t110 0) then (if (rd t110 0) < (x9.length : Int) then (if 0 ≤ x60 then (if x60 < (x9.length : Int) then (impl_CountFixed.l0 k x1 x2 (x9.set (x60 : Int).toNat (rd x9 (rd t110 0))) x10 x59 (wrap64 (x60 + 1)) x102000 x102001 x105000 x105001 x105002) else (none)) else (none)) else (none)) else (none)) else (if 0 ≤ x60 then (if x60 < (x9.length : Int) then (impl_CountFixed.l0 k x1 x2 (x9.set (x60 : Int).toNat x10) (wrap64 (x10 + 1)) x59 (wrap64 (x60 + 1)) x102000 x102001 x105000 x105001 x105002) else (none)) else (none))) else (none))) else (if 0 ≤ x10 then (if (x10 : Int).toNat ≤ 11728124029610 then ((some (List.replicate (x10 : Int).toNat [] : List (List Int))).bind fun y117 => (impl_CountFixed.l1 k x1 x2 x9 x10 y117 (y117.length : Int) 0 x102000 x102001)) else (none)) else (none))
def impl_CountFixed.l1 : Nat → Int → Int → List Int → Int → List (List Int) → Int → Int → Int → Int → Option (Int)
 | 0, _, _, _, _, _, _, _, _, _ => none
 | k + 1, x1, x2, x9, x10, x13, x88, x89, x102000, x102001 => if x89 < x88 then (if 0 ≤ x10 then (if (x10 : Int).toNat ≤ 35184372088832 then (if 0 ≤ x89 then (if x89 < (x13.length : Int) then (impl_CountFixed.l1 k x1 x2 x9 x10 (x13.set (x89 : Int).toNat (List.replicate (x10 : Int).toNat 0)) x88 (wrap64 (x89 + 1)) x102000 x102001) else (none)) else (none)) else (none)) else (none)) else (impl_CountFixed.l2 k x1 x2 x9 x13 0 x102000 x102001)
def impl_CountFixed.l2 : Nat → Int → Int → List Int → List (List Int) → Int → Int → Int → Option (Int)
 | 0, _, _, _, _, _, _, _ => none
 | k + 1, x1, x2, x9, x13, x15, x102000, x102001 => (impl_CountGaps.f x102000 x102001).bind fun t124 => (if x15 < t124 then (if 0 ≤ x15 then (if (Go.bits .and .i64 (shr .i64 (Go.bits .or .i64 x1 x2) x15) 1) = 1 then (impl_CountFixed.l2 k x1 x2 x9 x13 (wrap64 (x15 + 1)) x102000 x102001) else ((impl_EndsOf.f x102000 x102001 x15).bind fun bt125 => (if 0 ≤ bt125.1 then (if bt125.1 < (x9.length : Int) then (if 0 ≤ bt125.2 then (if bt125.2 < (x9.length : Int) then (if 0 ≤ (rd x9 bt125.1) then (if (rd x9 bt125.1) < (x13.length : Int) then (if (rd x9 bt125.1) < ((rd_L2 x13 (rd x9 bt125.1)).length : Int) then ((some (x13.set ((rd x9 bt125.1) : Int).toNat ((rd_L2 x13 (rd x9 bt125.1)).set ((rd x9 bt125.1) : Int).toNat (wrap64 ((rd (rd_L2 x13 (rd x9 bt125.1)) (rd x9 bt125.1)) + 1))) : List (List Int))).bind fun y133 => (if 0 ≤ (rd x9 bt125.2) then (if (rd x9 bt125.2) < (x13.length : Int) then (if (rd x9 bt125.2) < ((rd_L2 y133 (rd x9 bt125.2)).length : Int) then ((some (y133.set ((rd x9 bt125.2) : Int).toNat ((rd_L2 y133 (rd x9 bt125.2)).set ((rd x9 bt125.2) : Int).toNat (wrap64 ((rd (rd_L2 y133 (rd x9 bt125.2)) (rd x9 bt125.2)) + 1))) : List (List Int))).bind fun y138 => (if (rd x9 bt125.2) < ((rd_L2 y138 (rd x9 bt125.1)).length : Int) then ((some (y138.set ((rd x9 bt125.1) : Int).toNat ((rd_L2 y138 (rd x9 bt125.1)).set ((rd x9 bt125.2) : Int).toNat (wrap64 ((rd (rd_L2 y138 (rd x9 bt125.1)) (rd x9 bt125.2)) - 1))) : List (List Int))).bind fun y143 => (if (rd x9 bt125.1) < ((rd_L2 y143 (rd x9 bt125.2)).length : Int) then (impl_CountFixed.l2 k x1 x2 x9 (y143.set ((rd x9 bt125.2) : Int).toNat ((rd_L2 y143 (rd x9 bt125.2)).set ((rd x9 bt125.1) : Int).toNat (wrap64 ((rd (rd_L2 y143 (rd x9 bt125.2)) (rd x9 bt125.1)) - 1)))) (wrap64 (x15 + 1)) x102000 x102001) else (none))) else (none))) else (none)) else (none)) else (none))) else (none)) else (none)) else (none)) else (none)) else (none)) else (none)) else (none)))) else (none)) else ((impl_without.f k x13 0).bind fun t149 => ((impl_determinant.f k t149).bind fun t152 => (some t152))))
end
def impl_CountFixed.f (k : Nat) (a0_0 : Int) (a0_1 : Int) (a1 : Int) (a2 : Int) : Option (Int) := (impl_CountGaps.f a0_0 a0_1).bind fun t102 => (if 0 ≤ t102 then ((impl_GridOk.f a0_0 a0_1).bind fun t103 => (if t103 = true then (if a1 < 0 then (impl_CountFixed.j0 k a1 a2 true a0_0 a0_1) else (if a1 > (wrap64 ((shl .i64 1 t102) - 1)) then (impl_CountFixed.j0 k a1 a2 true a0_0 a0_1) else (if a2 < 0 then (impl_CountFixed.j0 k a1 a2 true a0_0 a0_1) else (if a2 > (wrap64 ((shl .i64 1 t102) - 1)) then (impl_CountFixed.j0 k a1 a2 true a0_0 a0_1) else (impl_CountFixed.j0 k a1 a2 ((Go.bits .and .i64 a1 a2) != 0) a0_0 a0_1))))) else (impl_CountFixed.j0 k a1 a2 true a0_0 a0_1))) else (none))
theorem cell_at {w W : World} {n : Nat} (h : World.drewN w n = W) {p : Addr} {v : Option Value} (hc : w.cell? p = v) : W.cell? p = v := by subst h; exact hc
set_option maxHeartbeats 8000000 in
set_option maxRecDepth 100000 in
theorem impl_CountFixed.calls (k : Nat) (a0_0 : Int) (a0_1 : Int) (a1 : Int) (a2 : Int) (r : Int) (w : World) (h : impl_CountFixed.f k a0_0 a0_1 a1 a2 = some r) :
  Calls Try.prog 34 #[.agg #[.int .i64 a0_0, .int .i64 a0_1], .int .i64 a1, .int .i64 a2] w fun e w' => e = .returned (.int .i64 r) ∧ Below w.heap.size w w' := by
 have hu40 := Try.underlying40
 have hu42 := Try.underlying42
 have HB := A_ (Below.refl w.heap.size w)
 have H : ((impl_CountGaps.f a0_0 a0_1).bind fun t102 => (if 0 ≤ t102 then ((impl_GridOk.f a0_0 a0_1).bind fun t103 => (if t103 = true then (if a1 < 0 then (impl_CountFixed.j0 k a1 a2 true a0_0 a0_1) else (if a1 > (wrap64 ((shl .i64 1 t102) - 1)) then (impl_CountFixed.j0 k a1 a2 true a0_0 a0_1) else (if a2 < 0 then (impl_CountFixed.j0 k a1 a2 true a0_0 a0_1) else (if a2 > (wrap64 ((shl .i64 1 t102) - 1)) then (impl_CountFixed.j0 k a1 a2 true a0_0 a0_1) else (impl_CountFixed.j0 k a1 a2 ((Go.bits .and .i64 a1 a2) != 0) a0_0 a0_1))))) else (impl_CountFixed.j0 k a1 a2 true a0_0 a0_1))) else (none))) = some r := h
 clear h
 obtain ⟨t102, A40, H⟩ := oB_ H
 (try dsimp only at H); have A4 := A_ A40; clear A40
 replace H := iN_ H; obtain ⟨c5, H⟩ := H
 have c5b0 := eq_true c5
 have c5b1 : decide (0 ≤ t102) = true := decide_eq_true c5
 clear c5
 obtain ⟨ji6, hji6⟩ : ∃ j_ : Int, (shl .i64 1 t102) = j_ := ⟨_, rfl⟩
 replace H : ((impl_GridOk.f a0_0 a0_1).bind fun t103 => (if t103 = true then (if a1 < 0 then (impl_CountFixed.j0 k a1 a2 true a0_0 a0_1) else (if a1 > (wrap64 ((ji6) - 1)) then (impl_CountFixed.j0 k a1 a2 true a0_0 a0_1) else (if a2 < 0 then (impl_CountFixed.j0 k a1 a2 true a0_0 a0_1) else (if a2 > (wrap64 ((ji6) - 1)) then (impl_CountFixed.j0 k a1 a2 true a0_0 a0_1) else (impl_CountFixed.j0 k a1 a2 ((Go.bits .and .i64 a1 a2) != 0) a0_0 a0_1))))) else (impl_CountFixed.j0 k a1 a2 true a0_0 a0_1))) = some r := by (rw [hji6] at H; exact H)
 (try rw [hji6] at A4)
 have hji6_ : (IntKind.i64.wrap (1 * 2 ^ min t102.toNat 64)) = ji6 := hji6
 have hji6z : t102 ≤ 64 → (IntKind.i64.wrap (1 * 2 ^ t102.toNat)) = ji6 := shl_small hji6
 have hji6u : (IntKind.i64.wrap (2 ^ min t102.toNat 64)) = ji6 := by have h_ := hji6_; rw [Int.one_mul] at h_; exact h_
 have hji6v : t102 ≤ 64 → (IntKind.i64.wrap (2 ^ t102.toNat)) = ji6 := fun hle_ => by have h_ := hji6z hle_; rw [Int.one_mul] at h_; exact h_
 have hji6y : (wrap64 (1 * 2 ^ min t102.toNat 64)) = ji6 := (i64_w _).symm.trans hji6_
 have hji6x : t102 ≤ 64 → (wrap64 (1 * 2 ^ t102.toNat)) = ji6 := fun h_ => (i64_w _).symm.trans (hji6z h_)
 have HC7 := A_ H
 clear H
 go_enter Try.func34, Try.ntmps34
 go_upto_region 2 with (first | ((with_reducible refine gate_dst (N := 3) rfl ?_); refine be_ 3 #[.int .i64 a0_0, .int .i64 a0_1] 40 ?_; intro gb101 hg w8 hbox hb; have n0_ := A_ (bs_ HB.1 hb); have n1_ := A_ (hbox); have n2_ := A_ (bS_ HB.out hg); have n3_ := A_ (bS_ HB.out hg); clear HB; have HB := n0_; have BK101 := n1_; have GW101 := n2_; have GE101 := n3_; clear n0_ n1_ n2_ n3_ hb hbox hg; obtain ⟨hcz9_0, hcz9_1⟩ := kk2_ BK101.1; have hfz9_0 := bf_ BK101.out 0; have hfz9_1 := bf_ BK101.out 1) | (go_at_call 78; (with_reducible refine (impl_CountGaps.calls a0_0 a0_1 t102 _ A4.out).mono ?_); rintro e w10 ⟨rfl, hb⟩; have n0_ := A_ (blk_below BK101.out hb); have n1_ := A_ (bs_ HB.1 hb); clear BK101 HB; have BK101 := n0_; have HB := n1_; clear n0_ n1_; (try clear hb); (try clear hk)))
 repeat (go_quiet (fail); go_upto_region 2 with (fail))
 (try simp only [Act.put, List.setIfInBounds_toArray, List.set_cons_zero, List.set_cons_succ])
 go_cut [48] (fun v48 wc => ∃ (kq : Nat) (x48_6 : Bool), v48 = .bool x48_6 ∧ Aside0 (impl_CountFixed.j0 kq a1 a2 x48_6 a0_0 a0_1 = some r) ∧ Aside0 (kq ≤ k) ∧ Aside0 (wc.heap[gb101]? = some (.cells #[.int .i64 a0_0, .int .i64 a0_1] 40 (0, 0))) ∧ Aside0 (Below w.heap.size w wc))
 case first =>
  have H := HC7.out
  clear HC7
  obtain ⟨t103, A110, H⟩ := oB_ H
  (try dsimp only at H); have A11 := A_ A110; clear A110
  by_cases c12 : t103 = true
  ·subst c12
   rw [if_pos rfl] at H
   by_cases c13 : a1 < 0
   ·rw [if_pos c13] at H
    have c13b0 : decide (a1 < 0) = true := decide_eq_true c13
    clear c13
    (skip)
    have H' := A_ H
    clear H
    obtain ⟨hcz14_0, hcz14_1⟩ := kk2_ BK101.1
    have hfz14_0 := bf_ BK101.out 0
    have hfz14_1 := bf_ BK101.out 1
    go_wp2_with ((go_at_call 79; (with_reducible refine (impl_GridOk.calls a0_0 a0_1 true _ A11.out).mono ?_); rintro e w15 ⟨rfl, hb⟩; have n0_ := A_ (blk_below BK101.out hb); have n1_ := A_ (bs_ HB.1 hb); clear BK101 HB; have BK101 := n0_; have HB := n1_; clear n0_ n1_; (try clear hb); (try clear hk)))
    repeat (go_quiet (fail); try go_wp2_with (fail))
    go_meet
    case rel => exact ⟨_, (true), (by rfl), H', ⟨by omega⟩, ⟨by exact BK101.out⟩, ⟨by repeat ((with_reducible exact HB.out))⟩⟩
   ·rw [if_neg c13] at H
    have c13b0 : decide (a1 < 0) = false := decide_eq_false c13
    clear c13
    (skip)
    by_cases c16 : a1 > (wrap64 ((ji6) - 1))
    ·rw [if_pos c16] at H
     have c16b0 : decide ((wrap64 ((ji6) - 1)) < a1) = true := decide_eq_true c16
     clear c16
     have H' := A_ H
     clear H
     obtain ⟨hcz17_0, hcz17_1⟩ := kk2_ BK101.1
     have hfz17_0 := bf_ BK101.out 0
     have hfz17_1 := bf_ BK101.out 1
     go_wp2_with ((go_at_call 79; (with_reducible refine (impl_GridOk.calls a0_0 a0_1 true _ A11.out).mono ?_); rintro e w18 ⟨rfl, hb⟩; have n0_ := A_ (blk_below BK101.out hb); have n1_ := A_ (bs_ HB.1 hb); clear BK101 HB; have BK101 := n0_; have HB := n1_; clear n0_ n1_; (try clear hb); (try clear hk)))
     repeat (go_quiet (fail); try go_wp2_with (fail))
     go_meet
     case rel => exact ⟨_, (true), (by rfl), H', ⟨by omega⟩, ⟨by exact BK101.out⟩, ⟨by repeat ((with_reducible exact HB.out))⟩⟩
    ·rw [if_neg c16] at H
     have c16b0 : decide ((wrap64 ((ji6) - 1)) < a1) = false := decide_eq_false c16
     clear c16
     by_cases c19 : a2 < 0
     ·rw [if_pos c19] at H
      have c19b0 : decide (a2 < 0) = true := decide_eq_true c19
      clear c19
      have H' := A_ H
      clear H
      obtain ⟨hcz20_0, hcz20_1⟩ := kk2_ BK101.1
      have hfz20_0 := bf_ BK101.out 0
      have hfz20_1 := bf_ BK101.out 1
      go_wp2_with ((go_at_call 79; (with_reducible refine (impl_GridOk.calls a0_0 a0_1 true _ A11.out).mono ?_); rintro e w21 ⟨rfl, hb⟩; have n0_ := A_ (blk_below BK101.out hb); have n1_ := A_ (bs_ HB.1 hb); clear BK101 HB; have BK101 := n0_; have HB := n1_; clear n0_ n1_; (try clear hb); (try clear hk)))
      repeat (go_quiet (fail); try go_wp2_with (fail))
      go_meet
      case rel => exact ⟨_, (true), (by rfl), H', ⟨by omega⟩, ⟨by exact BK101.out⟩, ⟨by repeat ((with_reducible exact HB.out))⟩⟩
     ·rw [if_neg c19] at H
      have c19b0 : decide (a2 < 0) = false := decide_eq_false c19
      clear c19
      by_cases c22 : a2 > (wrap64 ((ji6) - 1))
      ·rw [if_pos c22] at H
       have c22b0 : decide ((wrap64 ((ji6) - 1)) < a2) = true := decide_eq_true c22
       clear c22
       have H' := A_ H
       clear H
       obtain ⟨hcz23_0, hcz23_1⟩ := kk2_ BK101.1
       have hfz23_0 := bf_ BK101.out 0
       have hfz23_1 := bf_ BK101.out 1
       go_wp2_with ((go_at_call 79; (with_reducible refine (impl_GridOk.calls a0_0 a0_1 true _ A11.out).mono ?_); rintro e w24 ⟨rfl, hb⟩; have n0_ := A_ (blk_below BK101.out hb); have n1_ := A_ (bs_ HB.1 hb); clear BK101 HB; have BK101 := n0_; have HB := n1_; clear n0_ n1_; (try clear hb); (try clear hk)))
       repeat (go_quiet (fail); try go_wp2_with (fail))
       go_meet
       case rel => exact ⟨_, (true), (by rfl), H', ⟨by omega⟩, ⟨by exact BK101.out⟩, ⟨by repeat ((with_reducible exact HB.out))⟩⟩
      ·rw [if_neg c22] at H
       have c22b0 : decide ((wrap64 ((ji6) - 1)) < a2) = false := decide_eq_false c22
       clear c22
       have H' := A_ H
       clear H
       obtain ⟨hcz25_0, hcz25_1⟩ := kk2_ BK101.1
       have hfz25_0 := bf_ BK101.out 0
       have hfz25_1 := bf_ BK101.out 1
       go_wp2_with ((go_at_call 79; (with_reducible refine (impl_GridOk.calls a0_0 a0_1 true _ A11.out).mono ?_); rintro e w26 ⟨rfl, hb⟩; have n0_ := A_ (blk_below BK101.out hb); have n1_ := A_ (bs_ HB.1 hb); clear BK101 HB; have BK101 := n0_; have HB := n1_; clear n0_ n1_; (try clear hb); (try clear hk)))
       repeat (go_quiet (fail); try go_wp2_with (fail))
       go_meet
       case rel => exact ⟨_, (((Go.bits .and .i64 a1 a2) != 0)), (by rfl), H', ⟨by omega⟩, ⟨by exact BK101.out⟩, ⟨by repeat ((with_reducible exact HB.out))⟩⟩
  ·replace c12 := Bool.eq_false_iff.mpr c12
   subst c12
   have H1 : (impl_CountFixed.j0 k a1 a2 true a0_0 a0_1) = some r := by rw [if_neg (show ¬ (false = true) by decide)] at H; exact H
   clear H
   have H := H1
   clear H1
   have H' := A_ H
   clear H
   obtain ⟨hcz27_0, hcz27_1⟩ := kk2_ BK101.1
   have hfz27_0 := bf_ BK101.out 0
   have hfz27_1 := bf_ BK101.out 1
   go_wp2_with ((go_at_call 79; (with_reducible refine (impl_GridOk.calls a0_0 a0_1 false _ A11.out).mono ?_); rintro e w28 ⟨rfl, hb⟩; have n0_ := A_ (blk_below BK101.out hb); have n1_ := A_ (bs_ HB.1 hb); clear BK101 HB; have BK101 := n0_; have HB := n1_; clear n0_ n1_; (try clear hb); (try clear hk)))
   repeat (go_quiet (fail); try go_wp2_with (fail))
   go_meet
   case rel => exact ⟨_, (true), (by rfl), H', ⟨by omega⟩, ⟨by exact BK101.out⟩, ⟨by repeat ((with_reducible exact HB.out))⟩⟩
 case rest =>
  clear HC7; try clear c1; try clear c2; try clear p2; try clear c3; try clear c5; try clear c5b0; try clear c5b1; try clear p6; try clear c12; try clear c13; try clear c13b0; try clear c16; try clear c16b0; try clear c19; try clear c19b0; try clear c22; try clear c22b0; try clear hcz14_0; try clear hcz14_1; try clear hcz17_0; try clear hcz17_1; try clear hcz20_0; try clear hcz20_1; try clear hcz23_0; try clear hcz23_1; try clear hcz25_0; try clear hcz25_1; try clear hcz27_0; try clear hcz27_1; try clear hcz9_0; try clear hcz9_1; try clear hfz14_0; try clear hfz14_1; try clear hfz17_0; try clear hfz17_1; try clear hfz20_0; try clear hfz20_1; try clear hfz23_0; try clear hfz23_1; try clear hfz25_0; try clear hfz25_1; try clear hfz27_0; try clear hfz27_1; try clear hfz9_0; try clear hfz9_1
  obtain ⟨kq, x48_6, rfl, HA, HJ6, BK101, HB⟩ := hcut
  cases kq with
  | zero => exact absurd HA.out (by simp [impl_CountFixed.j0])
  | succ kj6 =>
   have H := HA.out
   clear HA
   simp only [impl_CountFixed.j0] at H
   by_cases c29 : x48_6 = true
   ·subst c29
    rw [if_pos rfl] at H
    obtain rfl := Option.some.inj H
    go_wp2
    repeat (go_quiet (fail); try go_wp2)
    go_ret
    exact ⟨by rfl, by repeat ((with_reducible exact HB.out))⟩
   ·replace c29 := Bool.eq_false_iff.mpr c29
    subst c29
    have H1 : ((impl_CountLoops.f kj6 a0_0 a0_1 a1).bind fun t105 => (if t105 > 0 then (some 0) else ((impl_CountCells.f a0_0 a0_1).bind fun t106 => (if 0 ≤ t106 then (if (t106 : Int).toNat ≤ 35184372088832 then ((some (List.replicate (t106 : Int).toNat 0 : List Int)).bind fun y107 => (impl_CountFixed.l0 kj6 a1 a2 y107 0 (y107.length : Int) 0 a0_0 a0_1 a0_0 a0_1 a1)) else (none)) else (none))))) = some r := by rw [if_neg (show ¬ (false = true) by decide)] at H; exact H
    clear H
    have H := H1
    clear H1
    obtain ⟨t105, A300, H⟩ := oB_ H
    (try dsimp only at H); have A30 := A_ A300; clear A300
    by_cases c31 : t105 > 0
    ·rw [if_pos c31] at H
     have c31b0 : decide (0 < t105) = true := decide_eq_true c31
     clear c31
     obtain rfl := Option.some.inj H
     obtain ⟨hcz32_0, hcz32_1⟩ := kk2_ BK101.1
     have hfz32_0 := bf_ BK101.out 0
     have hfz32_1 := bf_ BK101.out 1
     go_wp2_with (first | ((with_reducible refine gate_dst (N := 8) rfl ?_); refine be_ 8 #[.int .i64 0, .int .i64 0, .int .i64 0] 42 ?_; intro gb104 hg w33 hbox hb; have n0_ := A_ (blk_below BK101.out hb); have n1_ := A_ (bs_ HB.1 hb); have n2_ := A_ (hbox); have n3_ := A_ (bS_ HB.out hg); have n4_ := A_ (bS_ HB.out hg); have n5_ := A_ ((by rw [hg]; exact Nat.ne_of_lt (blk_lt (g := gb101) (o := .cells #[.int .i64 a0_0, .int .i64 a0_1] 40 (0, 0)) BK101.out) : gb101 ≠ gb104)); have n6_ := A_ ((by rw [hg]; exact Nat.ne_of_gt (blk_lt (g := gb101) (o := .cells #[.int .i64 a0_0, .int .i64 a0_1] 40 (0, 0)) BK101.out) : gb104 ≠ gb101)); clear BK101 HB; have BK101 := n0_; have HB := n1_; have BK104 := n2_; have GW104 := n3_; have GE104 := n4_; have NB101_104 := n5_; have NB104_101 := n6_; clear n0_ n1_ n2_ n3_ n4_ n5_ n6_ hb hbox hg; have hnb34 := NB104_101.out; have hnc34 := NB101_104.out; obtain ⟨hcz35_0, hcz35_1, hcz35_2⟩ := kk3_ BK104.1; have hfz35_0 := bf_ BK104.out 0; have hfz35_1 := bf_ BK104.out 1; have hfz35_2 := bf_ BK104.out 2) | (go_at_call 80; (with_reducible refine (impl_CountLoops.calls kj6 a0_0 a0_1 a1 t105 _ A30.out).mono ?_); rintro e w36 ⟨rfl, hb⟩; have n0_ := A_ (blk_below (g := gb101) (o := .cells #[.int .i64 a0_0, .int .i64 a0_1] 40 (0, 0)) (by refine blk_far ?_ NB101_104.out _; refine blk_far ?_ NB101_104.out _; refine blk_far ?_ NB101_104.out _; exact BK101.out) hb); have n1_ := A_ (blk_below (g := gb104) (o := .cells #[.int .i64 a0_0, .int .i64 a0_1, .int .i64 a1] 42 (0, 0)) (by refine blk_put (cs := #[.int .i64 a0_0, .int .i64 a0_1, .int .i64 0]) ?_ 2 _ rfl; refine blk_put (cs := #[.int .i64 a0_0, .int .i64 0, .int .i64 0]) ?_ 1 _ rfl; refine blk_put (cs := #[.int .i64 0, .int .i64 0, .int .i64 0]) ?_ 0 _ rfl; exact BK104.out) hb); have n2_ := A_ (below_step (by repeat ((with_reducible first | exact HB.out | refine below_set ?_ GE104.out))) hb); clear BK101 BK104 HB; have BK101 := n0_; have BK104 := n1_; have HB := n2_; clear n0_ n1_ n2_; (try clear hb); (try clear hk)))
     repeat (go_quiet (fail); try go_wp2_with (fail))
     go_ret
     exact ⟨by rfl, by repeat ((with_reducible exact HB.out))⟩
    ·rw [if_neg c31] at H
     have c31b0 : decide (0 < t105) = false := decide_eq_false c31
     clear c31
     obtain ⟨t106, A370, H⟩ := oB_ H
     (try dsimp only at H); have A37 := A_ A370; clear A370
     replace H := iN_ H; obtain ⟨c38, H⟩ := H
     have c38b0 := eq_true c38
     have c38b1 : decide (0 ≤ t106) = true := decide_eq_true c38
     clear c38
     replace H := iN_ H; obtain ⟨c39, H⟩ := H
     have c39b0 := eq_true c39
     have c39b1 : decide ((t106 : Int).toNat ≤ 35184372088832) = true := decide_eq_true c39
     clear c39
     obtain ⟨y107, hy107⟩ : ∃ y_ : List Int, y_ = (List.replicate (t106 : Int).toNat 0) := ⟨_, rfl⟩
     replace H : (impl_CountFixed.l0 kj6 a1 a2 y107 0 (y107.length : Int) 0 a0_0 a0_1 a0_0 a0_1 a1) = some r := by (have H2_ := (Option.bind_some _ _).symm.trans H; rw [hy107]; with_reducible exact H2_)
     have Ny107 := A_ hy107
     clear hy107
     have H' := A_ H
     clear H
     obtain ⟨hcz40_0, hcz40_1⟩ := kk2_ BK101.1
     have hfz40_0 := bf_ BK101.out 0
     have hfz40_1 := bf_ BK101.out 1
     go_wp2_with (first | ((with_reducible refine gate_dst (N := 8) rfl ?_); refine be_ 8 #[.int .i64 0, .int .i64 0, .int .i64 0] 42 ?_; intro gb104 hg w41 hbox hb; have n0_ := A_ (blk_below BK101.out hb); have n1_ := A_ (bs_ HB.1 hb); have n2_ := A_ (hbox); have n3_ := A_ (bS_ HB.out hg); have n4_ := A_ (bS_ HB.out hg); have n5_ := A_ ((by rw [hg]; exact Nat.ne_of_lt (blk_lt (g := gb101) (o := .cells #[.int .i64 a0_0, .int .i64 a0_1] 40 (0, 0)) BK101.out) : gb101 ≠ gb104)); have n6_ := A_ ((by rw [hg]; exact Nat.ne_of_gt (blk_lt (g := gb101) (o := .cells #[.int .i64 a0_0, .int .i64 a0_1] 40 (0, 0)) BK101.out) : gb104 ≠ gb101)); clear BK101 HB; have BK101 := n0_; have HB := n1_; have BK104 := n2_; have GW104 := n3_; have GE104 := n4_; have NB101_104 := n5_; have NB104_101 := n6_; clear n0_ n1_ n2_ n3_ n4_ n5_ n6_ hb hbox hg; have hnb42 := NB104_101.out; have hnc42 := NB101_104.out; obtain ⟨hcz43_0, hcz43_1, hcz43_2⟩ := kk3_ BK104.1; have hfz43_0 := bf_ BK104.out 0; have hfz43_1 := bf_ BK104.out 1; have hfz43_2 := bf_ BK104.out 2) | (go_at_call 80; (with_reducible refine (impl_CountLoops.calls kj6 a0_0 a0_1 a1 t105 _ A30.out).mono ?_); rintro e w44 ⟨rfl, hb⟩; have n0_ := A_ (blk_below (g := gb101) (o := .cells #[.int .i64 a0_0, .int .i64 a0_1] 40 (0, 0)) (by refine blk_far ?_ NB101_104.out _; refine blk_far ?_ NB101_104.out _; refine blk_far ?_ NB101_104.out _; exact BK101.out) hb); have n1_ := A_ (blk_below (g := gb104) (o := .cells #[.int .i64 a0_0, .int .i64 a0_1, .int .i64 a1] 42 (0, 0)) (by refine blk_put (cs := #[.int .i64 a0_0, .int .i64 a0_1, .int .i64 0]) ?_ 2 _ rfl; refine blk_put (cs := #[.int .i64 a0_0, .int .i64 0, .int .i64 0]) ?_ 1 _ rfl; refine blk_put (cs := #[.int .i64 0, .int .i64 0, .int .i64 0]) ?_ 0 _ rfl; exact BK104.out) hb); have n2_ := A_ (below_step (by repeat ((with_reducible first | exact HB.out | refine below_set ?_ GE104.out))) hb); clear BK101 BK104 HB; have BK101 := n0_; have BK104 := n1_; have HB := n2_; clear n0_ n1_ n2_; (try clear hb); (try clear hk); obtain ⟨hcz45_0, hcz45_1⟩ := kk2_ BK101.1; have hfz45_0 := bf_ BK101.out 0; have hfz45_1 := bf_ BK101.out 1) | (go_at_call 70; (with_reducible refine (impl_CountCells.calls a0_0 a0_1 t106 _ A37.out).mono ?_); rintro e w46 ⟨rfl, hb⟩; have n0_ := A_ (blk_below BK101.out hb); have n1_ := A_ (blk_below BK104.out hb); have n2_ := A_ (bs_ HB.1 hb); clear BK101 BK104 HB; have BK101 := n0_; have BK104 := n1_; have HB := n2_; clear n0_ n1_ n2_; (try clear hb); (try clear hk)) | ((with_reducible refine gate_dst (N := 57) rfl ?_); refine Kd.R_make (Kd.int .i64) _ 3 rfl (N := 57) rfl 29 _ _ rfl t106 rfl rfl Try.underlying29 (.int .i64 0) 8 info3 rfl (by decide) (by omega) 0 (ok := fun _ => True) (okp := fun _ => True) rfl (fun _ hk => hk) trivial (oD_) (Nat.le_trans (Nat.mul_le_mul_right _ (oD_ : t106.toNat ≤ 35184372088832)) (by omega)) (Below.refl _ _) (Nat.le_refl _) ?_; intro v108 w47 ho48 hb hg_ hnew_; clear hg_ hnew_; (rw [← Ny107.out] at ho48); have n0_ := A_ (Kd.R_lower ho48 (below_size HB.out)); have n1_ := A_ (blk_below BK101.out hb); have n2_ := A_ (blk_below BK104.out hb); have n3_ := A_ (bs_ HB.1 hb); clear BK101 BK104 HB; have HO109 := n0_; have BK101 := n1_; have BK104 := n2_; have HB := n3_; clear n0_ n1_ n2_ n3_ hb ho48; obtain ⟨Ao49, co49, eo49⟩ := Kd.R_slice HO109.out; subst eo49))
     repeat (go_quiet (fail); try go_wp2_with (fail))
     go_loopg [10, 60] kj6 (fun kq v10 v60 w' => ∃ (x9_2 : List Int) (x10_2 : Int) (x60_2 : Int), v10 = .int .i64 x10_2 ∧ v60 = .int .i64 x60_2 ∧ Aside0 (impl_CountFixed.l0 kq a1 a2 x9_2 x10_2 (y107.length : Int) x60_2 a0_0 a0_1 a0_0 a0_1 a1 = some r) ∧ Aside0 (kq ≤ kj6) ∧ Aside0 (Kd.R (Kd.int .i64) 3 w' w.heap.size (fun _ => True) (.slice Ao49 y107.length co49) x9_2) ∧ Aside0 (w'.heap[gb101]? = some (.cells #[.int .i64 a0_0, .int .i64 a0_1] 40 (0, 0))) ∧ Aside0 (w'.heap[gb104]? = some (.cells #[.int .i64 a0_0, .int .i64 a0_1, .int .i64 a1] 42 (0, 0))) ∧ Aside0 (Below w.heap.size w w'))
     case atStart => exact ⟨(y107), (0), (0), (by rfl), (by rfl), H', ⟨Nat.le_refl _⟩, ⟨by exact HO109.out⟩, ⟨by exact BK101.out⟩, ⟨by exact BK104.out⟩, ⟨by repeat ((with_reducible exact HB.out))⟩⟩
     case round =>
      clear H'; try clear c1; try clear c2; try clear p2; try clear c3; try clear c4; try clear c5; try clear c5b0; try clear c5b1; try clear p6; try clear c12; try clear c13; try clear c13b0; try clear c16; try clear c16b0; try clear c19; try clear c19b0; try clear c22; try clear c22b0; try clear c29; try clear c31; try clear c31b0; try clear c34; try clear c38; try clear c38b0; try clear c38b1; try clear c39; try clear c39b0; try clear c39b1; try clear c42; try clear hcz14_0; try clear hcz14_1; try clear hcz17_0; try clear hcz17_1; try clear hcz20_0; try clear hcz20_1; try clear hcz23_0; try clear hcz23_1; try clear hcz25_0; try clear hcz25_1; try clear hcz27_0; try clear hcz27_1; try clear hcz32_0; try clear hcz32_1; try clear hcz35_0; try clear hcz35_1; try clear hcz35_2; try clear hcz40_0; try clear hcz40_1; try clear hcz43_0; try clear hcz43_1; try clear hcz43_2; try clear hcz45_0; try clear hcz45_1; try clear hcz9_0; try clear hcz9_1; try clear hfz14_0; try clear hfz14_1; try clear hfz17_0; try clear hfz17_1; try clear hfz20_0; try clear hfz20_1; try clear hfz23_0; try clear hfz23_1; try clear hfz25_0; try clear hfz25_1; try clear hfz27_0; try clear hfz27_1; try clear hfz32_0; try clear hfz32_1; try clear hfz35_0; try clear hfz35_1; try clear hfz35_2; try clear hfz40_0; try clear hfz40_1; try clear hfz43_0; try clear hfz43_1; try clear hfz43_2; try clear hfz45_0; try clear hfz45_1; try clear hfz9_0; try clear hfz9_1; try clear p2; try clear p6
      obtain ⟨x9_2, x10_2, x60_2, rfl, rfl, HA, HK2, HO_9, BK101, BK104, HB⟩ := hrel
      have hl9_2 := (Kd.R_reads' HO_9.out).1
      rw [hl9_2] at HO_9
      (try simp only [hl9_2])
      (try simp only [hl9_2] at BK101)
      (try simp only [hl9_2] at BK104)
      cases gk with
      | zero => exact absurd HA.out (by simp [impl_CountFixed.l0])
      | succ k2 =>
       have H := HA.out
       clear HA
       simp only [impl_CountFixed.l0] at H
       by_cases c50 : x60_2 < (y107.length : Int)
       ·rw [if_pos c50] at H
        have c50b0 : decide (x60_2 < (y107.length : Int)) = true := decide_eq_true c50
        (try (have c50b0z_hl13_3 := c50b0; rw [hl13_3] at c50b0z_hl13_3))
        (try (have c50b0z_hl13_4 := c50b0; rw [hl13_4] at c50b0z_hl13_4))
        (try (have c50b0z_hl9_2 := c50b0; rw [hl9_2] at c50b0z_hl9_2))
        (try (have c50b0z_hl9_4 := c50b0; rw [hl9_4] at c50b0z_hl9_4))
        clear c50
        obtain ⟨t110, A510, H⟩ := oB_ H
        (try dsimp only at H); have A51 := A_ A510; clear A510
        replace H := iN_ H; obtain ⟨c52, H⟩ := H
        have c52b0 : decide (0 < (t110.length : Int)) = true := decide_eq_true c52
        have c52b1 : decide (0 < t110.length) = true := decide_eq_true (by omega)
        clear c52
        by_cases c53 : (rd t110 0) < x60_2
        ·rw [if_pos c53] at H
         have c53b0 : decide ((rd t110 0) < x60_2) = true := decide_eq_true c53
         clear c53
         replace H := iN_ H; obtain ⟨c54, H⟩ := H
         have c54b0 : decide (0 ≤ (rd t110 0)) = true := decide_eq_true c54
         clear c54
         replace H := iN_ H; obtain ⟨c55, H⟩ := H
         have c55b0 : decide ((rd t110 0) < (x9_2.length : Int)) = true := decide_eq_true c55
         clear c55
         replace H := iN_ H; obtain ⟨c56, H⟩ := H
         have c56b0 : decide (0 ≤ x60_2) = true := decide_eq_true c56
         clear c56
         replace H := iN_ H; obtain ⟨c57, H⟩ := H
         have c57b0 : decide (x60_2 < (x9_2.length : Int)) = true := decide_eq_true c57
         clear c57
         obtain ⟨y115, hy115⟩ : ∃ y_ : List Int, y_ = (x9_2.set (x60_2 : Int).toNat (rd x9_2 (rd t110 0))) := ⟨_, rfl⟩
         replace H : (impl_CountFixed.l0 k2 a1 a2 y115 x10_2 (y107.length : Int) (wrap64 (x60_2 + 1)) a0_0 a0_1 a0_0 a0_1 a1) = some r := by (rw [hy115]; with_reducible exact H)
         have Ny115 := A_ hy115
         clear hy115
         have H' := A_ H
         clear H
         have hnb59 := NB104_101.out
         have hnc59 := NB101_104.out
         obtain ⟨hcz60_0, hcz60_1, hcz60_2⟩ := kk3_ BK104.1
         have hfz60_0 := bf_ BK104.out 0
         have hfz60_1 := bf_ BK104.out 1
         have hfz60_2 := bf_ BK104.out 2
         go_wp2_with (first | (go_at_call 81; (with_reducible refine (impl_Reached.calls k2 a0_0 a0_1 a1 x60_2 t110 _ A51.out).mono ?_); rintro e w61 ⟨v111, rfl, ho0, hb⟩; have n0_ := A_ (Kd.R_elder' HO_9.out (Kd.R_base ho0) hb); have n1_ := A_ (Kd.R_lower (Kd.R_new' ho0 (Kd.R_lt HO_9.out)) (below_size HB.out)); have n2_ := A_ (blk_below BK101.out hb); have n3_ := A_ (blk_below BK104.out hb); have n4_ := A_ (bs_ HB.1 hb); clear HO_9 BK101 BK104 HB; have HO_9 := n0_; have HO112 := n1_; have BK101 := n2_; have BK104 := n3_; have HB := n4_; clear n0_ n1_ n2_ n3_ n4_; (try clear hb); (try clear hk); (try clear ho0); obtain ⟨Ao62, co62, eo62⟩ := Kd.R_slice HO112.out; subst eo62; have p113 : 0 ≤ (0 : Int) := (by omega); have q113 : 0 < (t110.length : Int) := oD_; obtain ⟨ad113, e113, hx113_0⟩ := Kd.at_int (Kd.R_reads' HO112.out).2.2 0 p113 q113; cases e113; have qi113 : (0 < t110.length) = True := eq_true (by omega); (try rw [show ((0 : Int)).toNat = 0 from rfl] at hx113_0); (try rw [Addr.add_zero'] at hx113_0); replace p113 := eq_true p113; replace q113 := eq_true q113; have p114 : 0 ≤ ((rd t110 0) : Int) := oD_; have q114 : (rd t110 0) < (x9_2.length : Int) := oD_; obtain ⟨ad114, e114, hx114_0⟩ := Kd.at_int (Kd.R_reads' HO_9.out).2.2 (rd t110 0) p114 q114; cases e114; replace p114 := eq_true p114; replace q114 := eq_true q114; have p58 : 0 ≤ (x60_2 : Int) := oD_; have q58 : (x60_2 : Int) < ((x9_2.length : Int) : Int) := oD_; obtain ⟨go58, co58, eo58, gb58, gl58, cl58, HG58⟩ := Kd.R_form HO_9.out (by omega); (cases eo58); have GB58 := A_ gb58; have GG58 := A_ HG58; clear gb58 gl58 HG58; (simp only [add_plain] at hx114_0); obtain ⟨hx58_0, hf58_0⟩ := Kd.R_celln 0 HO_9.out (x60_2 : Int) p58 q58; replace p58 := eq_true p58; replace q58 := eq_true q58; have n_ := A_ (Kd.R_mono (ok' := (fun k_ => some k_ ≠ (.slice (some ad113) t110.length co62 : Value).ownBlock)) HO_9.out (fun k_ hk => hk.2)); clear HO_9; have HO_9 := n_; clear n_; obtain ⟨hy63_, hz63_⟩ := Kd.R_celln 0 HO_9.out (x60_2 : Int) (oD_) (oD_); have HP63 := Kd.R_putg HO_9.out (x60_2 : Int) (rd x9_2 (rd t110 0))) | ((with_reducible refine gate_store (t := 3) (p := 77) rfl ?_); (try (rw [drewN_self w61]; generalize hq_ : World.drewN w61 _ = w61; have n0_ := A_ (Kd.R_at hq_ HO_9.out); have n1_ := A_ (Kd.R_at hq_ HO112.out); have n2_ := A_ (blk_at hq_ BK101.out); have n3_ := A_ (blk_at hq_ BK104.out); have n4_ := A_ (below_at hq_ HB.out); clear hq_ HO_9 HO112 BK101 BK104 HB; have HO_9 := n0_; have HO112 := n1_; have BK101 := n2_; have BK104 := n3_; have HB := n4_; clear n0_ n1_ n2_ n3_ n4_; (try (have n_ := A_ (Kd.R_mono (ok' := (fun k_ => some k_ ≠ (.slice (some ad113) t110.length co62 : Value).ownBlock)) HO_9.out (fun k_ hk => hk.2)); clear HO_9; have HO_9 := n_; clear n_)); (try (obtain ⟨hy63_, hz63_⟩ := Kd.R_celln 0 HO_9.out (x60_2 : Int) (of_decide_eq_true (by fail)) (of_decide_eq_true (by fail)))); (try (have HP63 := Kd.R_putg HO_9.out (x60_2 : Int) (rd x9_2 (rd t110 0)))))); refine store_event (t := 3) (p := 77) (v := ?vo_w64) (w1 := (w61.setCell ⟨go58, (x60_2 : Int).toNat, none⟩ (.int .i64 (rd x9_2 (rd t110 0))))) ?hg ?ho ?hn ?hr ?_; (case ho => rfl); (case hg => rfl); (case hn => rfl); (case hr => (go_simp; done)); intro w64 hw; have hg : w61.grownBy w64 (some go58) := (by rw [hw]; exact HP63.2); have hp_ : Kd.R (Kd.int .i64) 3 w64 w.heap.size (fun k_ => some k_ ≠ (.slice (some ad113) t110.length co62 : Value).ownBlock) (.slice (some ⟨go58, 0, none⟩) x9_2.length co49) y115 := (by rw [hw, Ny115.out]; exact HP63.1); clear HP63; have n0_ := A_ (hp_); have n1_ := A_ (blk_grown (g := gb101) (o := .cells #[.int .i64 a0_0, .int .i64 a0_1] 40 (0, 0)) BK101.out hg (Kd.R_ne HO_9.out BK101.out (by decide))); have n2_ := A_ (blk_grown (g := gb104) (o := .cells #[.int .i64 a0_0, .int .i64 a0_1, .int .i64 a1] 42 (0, 0)) BK104.out hg (Kd.R_ne HO_9.out BK104.out (by decide))); have n3_ := A_ (Kd.R_after (v := (.slice (some ⟨go58, 0, none⟩) x9_2.length co49)) (v1 := (.slice (some ⟨go58, 0, none⟩) x9_2.length co49)) (ok := (fun _ => True)) HO112.out hg (.inl rfl)); have n4_ := A_ ((by rw [hw]; exact below_set (HB.out) GB58.out : Below w.heap.size w w64)); clear HO_9 BK101 BK104 HO112 HB; have HO_9 := n0_; have BK101 := n1_; have BK104 := n2_; have HO112 := n3_; have HB := n4_; clear n0_ n1_ n2_ n3_ n4_ hg hw hp_))
         repeat (go_quiet (fail); try go_wp2_with (fail))
         (try simp only [← hl9_2])
         go_roundg k2
         case measure => have := HJ6.out; have := HK2.out; omega
         case rel => exact ⟨(y115), (x10_2), (wrap64 (x60_2 + 1)), (by rfl), (by rfl), H', ⟨by have := HJ6.out; have := HK2.out; omega⟩, ⟨by (try simp only [hl9_2]); exact Kd.R_mono HO_9.out (fun _ hk => trivial)⟩, ⟨by (try simp only [hl9_2]); exact BK101.out⟩, ⟨by (try simp only [hl9_2]); exact BK104.out⟩, ⟨by repeat ((with_reducible exact HB.out))⟩⟩
        ·rw [if_neg c53] at H
         have c53b0 : decide ((rd t110 0) < x60_2) = false := decide_eq_false c53
         clear c53
         replace H := iN_ H; obtain ⟨c65, H⟩ := H
         have c65b0 : decide (0 ≤ x60_2) = true := decide_eq_true c65
         clear c65
         replace H := iN_ H; obtain ⟨c66, H⟩ := H
         have c66b0 : decide (x60_2 < (x9_2.length : Int)) = true := decide_eq_true c66
         clear c66
         obtain ⟨y116, hy116⟩ : ∃ y_ : List Int, y_ = (x9_2.set (x60_2 : Int).toNat x10_2) := ⟨_, rfl⟩
         replace H : (impl_CountFixed.l0 k2 a1 a2 y116 (wrap64 (x10_2 + 1)) (y107.length : Int) (wrap64 (x60_2 + 1)) a0_0 a0_1 a0_0 a0_1 a1) = some r := by (rw [hy116]; with_reducible exact H)
         have Ny116 := A_ hy116
         clear hy116
         have H' := A_ H
         clear H
         have hnb68 := NB104_101.out
         have hnc68 := NB101_104.out
         obtain ⟨hcz69_0, hcz69_1, hcz69_2⟩ := kk3_ BK104.1
         have hfz69_0 := bf_ BK104.out 0
         have hfz69_1 := bf_ BK104.out 1
         have hfz69_2 := bf_ BK104.out 2
         go_wp2_with (first | (go_at_call 81; (with_reducible refine (impl_Reached.calls k2 a0_0 a0_1 a1 x60_2 t110 _ A51.out).mono ?_); rintro e w70 ⟨v111, rfl, ho0, hb⟩; have n0_ := A_ (Kd.R_elder' HO_9.out (Kd.R_base ho0) hb); have n1_ := A_ (Kd.R_lower (Kd.R_new' ho0 (Kd.R_lt HO_9.out)) (below_size HB.out)); have n2_ := A_ (blk_below BK101.out hb); have n3_ := A_ (blk_below BK104.out hb); have n4_ := A_ (bs_ HB.1 hb); clear HO_9 BK101 BK104 HB; have HO_9 := n0_; have HO112 := n1_; have BK101 := n2_; have BK104 := n3_; have HB := n4_; clear n0_ n1_ n2_ n3_ n4_; (try clear hb); (try clear hk); (try clear ho0); obtain ⟨Ao71, co71, eo71⟩ := Kd.R_slice HO112.out; subst eo71; have p113 : 0 ≤ (0 : Int) := (by omega); have q113 : 0 < (t110.length : Int) := oD_; obtain ⟨ad113, e113, hx113_0⟩ := Kd.at_int (Kd.R_reads' HO112.out).2.2 0 p113 q113; cases e113; have qi113 : (0 < t110.length) = True := eq_true (by omega); (try rw [show ((0 : Int)).toNat = 0 from rfl] at hx113_0); (try rw [Addr.add_zero'] at hx113_0); replace p113 := eq_true p113; replace q113 := eq_true q113; have p67 : 0 ≤ (x60_2 : Int) := oD_; have q67 : (x60_2 : Int) < ((x9_2.length : Int) : Int) := oD_; obtain ⟨go67, co67, eo67, gb67, gl67, cl67, HG67⟩ := Kd.R_form HO_9.out (by omega); (cases eo67); have GB67 := A_ gb67; have GG67 := A_ HG67; clear gb67 gl67 HG67; obtain ⟨hx67_0, hf67_0⟩ := Kd.R_celln 0 HO_9.out (x60_2 : Int) p67 q67; replace p67 := eq_true p67; replace q67 := eq_true q67; have n_ := A_ (Kd.R_mono (ok' := (fun k_ => some k_ ≠ (.slice (some ad113) t110.length co71 : Value).ownBlock)) HO_9.out (fun k_ hk => hk.2)); clear HO_9; have HO_9 := n_; clear n_; obtain ⟨hy72_, hz72_⟩ := Kd.R_celln 0 HO_9.out (x60_2 : Int) (oD_) (oD_); have HP72 := Kd.R_putg HO_9.out (x60_2 : Int) x10_2) | ((with_reducible refine gate_store (t := 3) (p := 81) rfl ?_); (try (rw [drewN_self w70]; generalize hq_ : World.drewN w70 _ = w70; have n0_ := A_ (Kd.R_at hq_ HO_9.out); have n1_ := A_ (Kd.R_at hq_ HO112.out); have n2_ := A_ (blk_at hq_ BK101.out); have n3_ := A_ (blk_at hq_ BK104.out); have n4_ := A_ (below_at hq_ HB.out); clear hq_ HO_9 HO112 BK101 BK104 HB; have HO_9 := n0_; have HO112 := n1_; have BK101 := n2_; have BK104 := n3_; have HB := n4_; clear n0_ n1_ n2_ n3_ n4_; (try (have n_ := A_ (Kd.R_mono (ok' := (fun k_ => some k_ ≠ (.slice (some ad113) t110.length co71 : Value).ownBlock)) HO_9.out (fun k_ hk => hk.2)); clear HO_9; have HO_9 := n_; clear n_)); (try (obtain ⟨hy72_, hz72_⟩ := Kd.R_celln 0 HO_9.out (x60_2 : Int) (of_decide_eq_true (by fail)) (of_decide_eq_true (by fail)))); (try (have HP72 := Kd.R_putg HO_9.out (x60_2 : Int) x10_2)))); refine store_event (t := 3) (p := 81) (v := ?vo_w73) (w1 := (w70.setCell ⟨go67, (x60_2 : Int).toNat, none⟩ (.int .i64 x10_2))) ?hg ?ho ?hn ?hr ?_; (case ho => rfl); (case hg => rfl); (case hn => rfl); (case hr => (go_simp; done)); intro w73 hw; have hg : w70.grownBy w73 (some go67) := (by rw [hw]; exact HP72.2); have hp_ : Kd.R (Kd.int .i64) 3 w73 w.heap.size (fun k_ => some k_ ≠ (.slice (some ad113) t110.length co71 : Value).ownBlock) (.slice (some ⟨go67, 0, none⟩) x9_2.length co49) y116 := (by rw [hw, Ny116.out]; exact HP72.1); clear HP72; have n0_ := A_ (hp_); have n1_ := A_ (blk_grown (g := gb101) (o := .cells #[.int .i64 a0_0, .int .i64 a0_1] 40 (0, 0)) BK101.out hg (Kd.R_ne HO_9.out BK101.out (by decide))); have n2_ := A_ (blk_grown (g := gb104) (o := .cells #[.int .i64 a0_0, .int .i64 a0_1, .int .i64 a1] 42 (0, 0)) BK104.out hg (Kd.R_ne HO_9.out BK104.out (by decide))); have n3_ := A_ (Kd.R_after (v := (.slice (some ⟨go67, 0, none⟩) x9_2.length co49)) (v1 := (.slice (some ⟨go67, 0, none⟩) x9_2.length co49)) (ok := (fun _ => True)) HO112.out hg (.inl rfl)); have n4_ := A_ ((by rw [hw]; exact below_set (HB.out) GB67.out : Below w.heap.size w w73)); clear HO_9 BK101 BK104 HO112 HB; have HO_9 := n0_; have BK101 := n1_; have BK104 := n2_; have HO112 := n3_; have HB := n4_; clear n0_ n1_ n2_ n3_ n4_ hg hw hp_))
         repeat (go_quiet (fail); try go_wp2_with (fail))
         (try simp only [← hl9_2])
         go_roundg k2
         case measure => have := HJ6.out; have := HK2.out; omega
         case rel => exact ⟨(y116), (wrap64 (x10_2 + 1)), (wrap64 (x60_2 + 1)), (by rfl), (by rfl), H', ⟨by have := HJ6.out; have := HK2.out; omega⟩, ⟨by (try simp only [hl9_2]); exact Kd.R_mono HO_9.out (fun _ hk => trivial)⟩, ⟨by (try simp only [hl9_2]); exact BK101.out⟩, ⟨by (try simp only [hl9_2]); exact BK104.out⟩, ⟨by repeat ((with_reducible exact HB.out))⟩⟩
       ·rw [if_neg c50] at H
        have c50b0 : decide (x60_2 < (y107.length : Int)) = false := decide_eq_false c50
        (try (have c50b0z_hl13_3 := c50b0; rw [hl13_3] at c50b0z_hl13_3))
        (try (have c50b0z_hl13_4 := c50b0; rw [hl13_4] at c50b0z_hl13_4))
        (try (have c50b0z_hl9_2 := c50b0; rw [hl9_2] at c50b0z_hl9_2))
        (try (have c50b0z_hl9_4 := c50b0; rw [hl9_4] at c50b0z_hl9_4))
        clear c50
        replace H := iN_ H; obtain ⟨c74, H⟩ := H
        have c74b0 := eq_true c74
        have c74b1 : decide (0 ≤ x10_2) = true := decide_eq_true c74
        clear c74
        replace H := iN_ H; obtain ⟨c75, H⟩ := H
        have c75b0 := eq_true c75
        have c75b1 : decide ((x10_2 : Int).toNat ≤ 11728124029610) = true := decide_eq_true c75
        clear c75
        obtain ⟨y117, hy117⟩ : ∃ y_ : List (List Int), y_ = (List.replicate (x10_2 : Int).toNat []) := ⟨_, rfl⟩
        replace H : (impl_CountFixed.l1 k2 a1 a2 x9_2 x10_2 y117 (y117.length : Int) 0 a0_0 a0_1) = some r := by (have H2_ := (Option.bind_some _ _).symm.trans H; rw [hy117]; with_reducible exact H2_)
        have Ny117 := A_ hy117
        clear hy117
        have H' := A_ H
        clear H
        go_wp2_with (((with_reducible refine gate_dst (N := 86) rfl ?_); refine Kd.S_make (Kd.slice 3 (Kd.int .i64)) _ 29 rfl (N := 86) rfl 24 _ _ rfl x10_2 rfl rfl Try.underlying24 (.slice none 0 0) 24 info29 rfl (by decide) (by omega) [] (ok := fun _ => True) (okp := fun _ => True) ⟨_, rfl, Kd.R_nil _ _ _ _ _⟩ (fun _ hk => hk) trivial (oD_) (Nat.le_trans (Nat.mul_le_mul_right _ (oD_ : x10_2.toNat ≤ 11728124029610)) (by omega)) (Below.refl _ _) (Nat.le_refl _) ?_; intro v118 w76 ho77 hb hg_ hnew_; clear hg_ hnew_; (rw [← Ny117.out] at ho77); have n0_ := A_ (Kd.R_below HO_9.out hb); have n1_ := A_ (Kd.S_lower (Kd.S_new' ho77 (Kd.R_lt HO_9.out)) (below_size HB.out)); have n2_ := A_ (blk_below BK101.out hb); have n3_ := A_ (blk_below BK104.out hb); have n4_ := A_ (bs_ HB.1 hb); clear HO_9 BK101 BK104 HB; have HO_9 := n0_; have HO119 := n1_; have BK101 := n2_; have BK104 := n3_; have HB := n4_; clear n0_ n1_ n2_ n3_ n4_ hb ho77; obtain ⟨Ao78, co78, eo78⟩ := Kd.S_slice HO119.out; subst eo78))
        repeat (go_quiet (fail); try go_wp2_with (fail))
        go_loopg [89] k2 (fun kq v89 w' => ∃ (x13_3 : List (List Int)) (x89_3 : Int), v89 = .int .i64 x89_3 ∧ Aside0 (impl_CountFixed.l1 kq a1 a2 x9_2 x10_2 x13_3 (y117.length : Int) x89_3 a0_0 a0_1 = some r) ∧ Aside0 (kq ≤ k2) ∧ Aside0 (Kd.R (Kd.int .i64) 3 w' w.heap.size (fun _ => True) (.slice Ao49 x9_2.length co49) x9_2) ∧ Aside0 (Kd.S (Kd.slice 3 (Kd.int .i64)) 29 w' w.heap.size (fun k_ => some k_ ≠ ((.slice Ao49 x9_2.length co49) : Value).ownBlock) (.slice Ao78 y117.length co78) x13_3) ∧ Aside0 (w'.heap[gb101]? = some (.cells #[.int .i64 a0_0, .int .i64 a0_1] 40 (0, 0))) ∧ Aside0 (w'.heap[gb104]? = some (.cells #[.int .i64 a0_0, .int .i64 a0_1, .int .i64 a1] 42 (0, 0))) ∧ Aside0 (Below w.heap.size w w'))
        case atStart => exact ⟨(y117), (0), (by rfl), H', ⟨Nat.le_refl _⟩, ⟨by (try simp only [hl9_2]); exact HO_9.out⟩, ⟨by (try simp only [hl9_2]); exact Kd.S_mono HO119.out (fun _ hk => hk.2)⟩, ⟨by (try simp only [hl9_2]); exact BK101.out⟩, ⟨by (try simp only [hl9_2]); exact BK104.out⟩, ⟨by repeat ((with_reducible exact HB.out))⟩⟩
        case round =>
         clear H'; try clear c1; try clear p1; try clear q1; try clear hx1; try clear qi1; try clear c2; try clear p2; try clear c3; try clear c4; try clear c5; try clear c5b0; try clear c5b1; try clear p5; try clear q5; try clear hx5; try clear hf5; try clear c6; try clear p6; try clear q6; try clear hx6; try clear hf6; try clear c7; try clear p11; try clear q11; try clear hx11; try clear qi11; try clear c12; try clear c13; try clear c13b0; try clear c16; try clear c16b0; try clear c19; try clear c19b0; try clear c22; try clear c22b0; try clear c29; try clear c31; try clear c31b0; try clear c34; try clear c38; try clear c38b0; try clear c38b1; try clear c39; try clear c39b0; try clear c39b1; try clear c42; try clear c50; try clear c50b0; try clear c52; try clear c52b0; try clear c52b1; try clear c53; try clear c53b0; try clear c54; try clear c54b0; try clear c55; try clear c55b0; try clear c56; try clear c56b0; try clear c57; try clear c57b0; try clear p58; try clear q58; try clear hx58; try clear hf58; try clear c59; try clear p64; try clear c65; try clear c65b0; try clear c66; try clear c66b0; try clear p67; try clear q67; try clear hx67; try clear hf67; try clear c68; try clear c74; try clear c74b0; try clear c74b1; try clear c75; try clear c75b0; try clear c75b1; try clear hcz14_0; try clear hcz14_1; try clear hcz17_0; try clear hcz17_1; try clear hcz20_0; try clear hcz20_1; try clear hcz23_0; try clear hcz23_1; try clear hcz25_0; try clear hcz25_1; try clear hcz27_0; try clear hcz27_1; try clear hcz32_0; try clear hcz32_1; try clear hcz35_0; try clear hcz35_1; try clear hcz35_2; try clear hcz40_0; try clear hcz40_1; try clear hcz43_0; try clear hcz43_1; try clear hcz43_2; try clear hcz45_0; try clear hcz45_1; try clear hcz60_0; try clear hcz60_1; try clear hcz60_2; try clear hcz69_0; try clear hcz69_1; try clear hcz69_2; try clear hcz9_0; try clear hcz9_1; try clear hfz14_0; try clear hfz14_1; try clear hfz17_0; try clear hfz17_1; try clear hfz20_0; try clear hfz20_1; try clear hfz23_0; try clear hfz23_1; try clear hfz25_0; try clear hfz25_1; try clear hfz27_0; try clear hfz27_1; try clear hfz32_0; try clear hfz32_1; try clear hfz35_0; try clear hfz35_1; try clear hfz35_2; try clear hfz40_0; try clear hfz40_1; try clear hfz43_0; try clear hfz43_1; try clear hfz43_2; try clear hfz45_0; try clear hfz45_1; try clear hfz60_0; try clear hfz60_1; try clear hfz60_2; try clear hfz69_0; try clear hfz69_1; try clear hfz69_2; try clear hfz9_0; try clear hfz9_1; try clear hx113_0; try clear hx114_0; try clear hx58_0; try clear hx67_0; try clear p113; try clear p114; try clear p2; try clear p58; try clear p6; try clear p67; try clear q113; try clear q114; try clear q58; try clear q67
         obtain ⟨x13_3, x89_3, rfl, HA, HK3, HO_9, HO_13, BK101, BK104, HB⟩ := hrel
         have hl13_3 := (Kd.S_reads' HO_13.out).1
         rw [hl13_3] at HO_13
         (try simp only [hl13_3])
         (try simp only [hl13_3] at BK101)
         (try simp only [hl13_3] at BK104)
         (try simp only [hl13_3] at HO_9)
         cases gk with
         | zero => exact absurd HA.out (by simp [impl_CountFixed.l1])
         | succ k3 =>
          have H := HA.out
          clear HA
          simp only [impl_CountFixed.l1] at H
          by_cases c79 : x89_3 < (y117.length : Int)
          ·rw [if_pos c79] at H
           have c79b0 : decide (x89_3 < (y117.length : Int)) = true := decide_eq_true c79
           (try (have c79b0z_hl13_3 := c79b0; rw [hl13_3] at c79b0z_hl13_3))
           (try (have c79b0z_hl13_4 := c79b0; rw [hl13_4] at c79b0z_hl13_4))
           (try (have c79b0z_hl9_2 := c79b0; rw [hl9_2] at c79b0z_hl9_2))
           (try (have c79b0z_hl9_4 := c79b0; rw [hl9_4] at c79b0z_hl9_4))
           clear c79
           replace H := iN_ H; obtain ⟨c80, H⟩ := H
           have c80b0 := eq_true c80
           have c80b1 : decide (0 ≤ x10_2) = true := decide_eq_true c80
           clear c80
           replace H := iN_ H; obtain ⟨c81, H⟩ := H
           have c81b0 := eq_true c81
           have c81b1 : decide ((x10_2 : Int).toNat ≤ 35184372088832) = true := decide_eq_true c81
           clear c81
           obtain ⟨y120, hy120⟩ : ∃ y_ : List Int, y_ = (List.replicate (x10_2 : Int).toNat 0) := ⟨_, rfl⟩
           replace H : (if 0 ≤ x89_3 then (if x89_3 < (x13_3.length : Int) then (impl_CountFixed.l1 k3 a1 a2 x9_2 x10_2 (x13_3.set (x89_3 : Int).toNat y120) (y117.length : Int) (wrap64 (x89_3 + 1)) a0_0 a0_1) else (none)) else (none)) = some r := by (rw [hy120]; with_reducible exact H)
           have Ny120 := A_ hy120
           clear hy120
           replace H := iN_ H; obtain ⟨c82, H⟩ := H
           have c82b0 : decide (0 ≤ x89_3) = true := decide_eq_true c82
           clear c82
           replace H := iN_ H; obtain ⟨c83, H⟩ := H
           have c83b0 : decide (x89_3 < (x13_3.length : Int)) = true := decide_eq_true c83
           clear c83
           obtain ⟨y123, hy123⟩ : ∃ y_ : List (List Int), y_ = (x13_3.set (x89_3 : Int).toNat y120) := ⟨_, rfl⟩
           replace H : (impl_CountFixed.l1 k3 a1 a2 x9_2 x10_2 y123 (y117.length : Int) (wrap64 (x89_3 + 1)) a0_0 a0_1) = some r := by (rw [hy123]; with_reducible exact H)
           have Ny123 := A_ hy123
           clear hy123
           have H' := A_ H
           clear H
           go_wp2_with (first | ((with_reducible refine gate_dst (N := 95) rfl ?_); refine Kd.R_make (Kd.int .i64) _ 3 rfl (N := 95) rfl 29 _ _ rfl x10_2 rfl rfl Try.underlying29 (.int .i64 0) 8 info3 rfl (by decide) (by omega) 0 (ok := fun _ => True) (okp := fun _ => True) rfl (fun _ hk => hk) trivial (oD_) (Nat.le_trans (Nat.mul_le_mul_right _ (oD_ : x10_2.toNat ≤ 35184372088832)) (by omega)) (Below.refl _ _) (Nat.le_refl _) ?_; intro v121 w85 ho86 hb hg_ hnew_; clear hg_ hnew_; (rw [← Ny120.out] at ho86); have n0_ := A_ (Kd.R_elder' HO_9.out (Kd.R_base ho86) hb); have n1_ := A_ (Kd.S_elder' HO_13.out (Kd.R_base ho86) hb); have n2_ := A_ (Kd.R_lower (Kd.R_new' ho86 (Kd.R_lt HO_9.out)) (below_size HB.out)); have n3_ := A_ (blk_below BK101.out hb); have n4_ := A_ (blk_below BK104.out hb); have n5_ := A_ (bs_ HB.1 hb); clear HO_9 HO_13 BK101 BK104 HB; have HO_9 := n0_; have HO_13 := n1_; have HO122 := n2_; have BK101 := n3_; have BK104 := n4_; have HB := n5_; clear n0_ n1_ n2_ n3_ n4_ n5_ hb ho86; have p84 : 0 ≤ (x89_3 : Int) := oD_; have q84 : (x89_3 : Int) < ((x13_3.length : Int) : Int) := oD_; obtain ⟨go84, co84, eo84, gb84, gl84, cl84, HG84⟩ := Kd.S_form HO_13.out (by omega); (cases eo84); have GB84 := A_ gb84; have GG84 := A_ HG84; clear gb84 gl84 HG84; obtain ⟨_, ce84, hcl84, hM84, hcc84, hfr84, _, _⟩ := Kd.S_elem HO_13.out [] (x89_3 : Int) p84 q84; obtain ⟨ve84_0, rfl, ge84_0⟩ := hM84; have hx84_0 := hcc84 0 _ rfl; have hf84_0 := hfr84 0; (try simp only [show ((Kd.slice 3 (Kd.int .i64))).sz = 1 from rfl, Nat.mul_one, Nat.add_zero] at hx84_0); (try simp only [show ((Kd.slice 3 (Kd.int .i64))).sz = 1 from rfl, Nat.mul_one, Nat.add_zero] at hf84_0); (try clear hM84); clear hcl84 hcc84 hfr84; replace p84 := eq_true p84; replace q84 := eq_true q84; have HX87 := A_ (show Kd.S (Kd.slice 3 (Kd.int .i64)) 29 w85 w.heap.size (fun k_ => ((fun k_ => some k_ ≠ (.slice Ao49 x9_2.length co49 : Value).ownBlock)) k_ ∧ ¬ ((fun k_ => some k_ = (v121 : Value).ownBlock)) k_) (.slice (some ⟨go84, 0, none⟩) x13_3.length co78) x13_3 from (by exact Kd.S_mono HO_13.out (fun k_ hk => ⟨hk.1, fun e_ => hk.2 e_⟩))); obtain ⟨oki87, ce87, hcl87, hM87, hcc87, hfr87, hoki87, hH87⟩ := Kd.S_elem HX87.out [] (x89_3 : Int) (oD_) (by have h_ : (x89_3 : Int) < ((x13_3.length : Int) : Int) := oD_; exact h_); obtain ⟨ve87_0, rfl, ge87_0⟩ := hM87; have HP87 := Kd.S_seg hH87 (oD_) (by have h_ : (x89_3 : Int) < ((x13_3.length : Int) : Int) := oD_; exact h_) (seg := [v121]) (j := 0) (show 1 ≤ 1 from by decide) (x' := y120) (Kd.M_row (Kd.R_mono (Kd.R_tight rfl (Kd.R_mono (ok' := fun k_ => ((fun k_ => some k_ ≠ (.slice Ao49 x9_2.length co49 : Value).ownBlock)) k_ ∧ k_ ≠ go84) (Kd.R_apart' (HO122.out) (Kd.S_typed HO_13.out) (by decide)) (fun k_ hk => ⟨hk.1.2, fun e_ => (hk.2) (by rw [e_]; rfl)⟩))) (fun _ h_ => Or.inr (h_)))) (fun _ hk => hk) (fun k_ hk_ => ((Kd.R_mono (ok' := fun k_ => ((fun k_ => some k_ ≠ (.slice Ao49 x9_2.length co49 : Value).ownBlock)) k_ ∧ k_ ≠ go84) (Kd.R_apart' (HO122.out) (Kd.S_typed HO_13.out) (by decide)) (fun k_ hk => ⟨hk.1.2, fun e_ => (hk.2) (by rw [e_]; rfl)⟩))).1 k_ hk_.symm); have hx87_0 := hcc87 0 _ rfl; (try simp only [show ((Kd.slice 3 (Kd.int .i64))).sz = 1 from rfl, Nat.mul_one, Nat.add_zero] at hx87_0); have hf87_0 := hfr87 0; (try simp only [show ((Kd.slice 3 (Kd.int .i64))).sz = 1 from rfl, Nat.mul_one, Nat.add_zero] at hf87_0); (try clear hM87); clear hcl87 hcc87 hfr87 hoki87 hH87; (try simp only [show ((Kd.slice 3 (Kd.int .i64))).sz = 1 from rfl, Nat.mul_one, Nat.add_zero] at HP87)) | ((with_reducible refine gate_store (t := 29) (p := 96) rfl ?_); (try (rw [drewN_self w85]; generalize hq_ : World.drewN w85 _ = w85; have n0_ := A_ (Kd.R_at hq_ HO_9.out); have n1_ := A_ (Kd.S_at hq_ HO_13.out); have n2_ := A_ (blk_at hq_ BK101.out); have n3_ := A_ (blk_at hq_ BK104.out); have n4_ := A_ (below_at hq_ HB.out); clear hq_ HO_9 HO_13 BK101 BK104 HB; have HO_9 := n0_; have HO_13 := n1_; have BK101 := n2_; have BK104 := n3_; have HB := n4_; clear n0_ n1_ n2_ n3_ n4_; (try (have HX87 := A_ (show Kd.S (Kd.slice 3 (Kd.int .i64)) 29 w85 w.heap.size (fun k_ => ((fun k_ => some k_ ≠ (.slice Ao49 x9_2.length co49 : Value).ownBlock)) k_ ∧ ¬ ((fun k_ => some k_ = (v121 : Value).ownBlock)) k_) (.slice (some ⟨go84, 0, none⟩) x13_3.length co78) x13_3 from (by exact Kd.S_mono HO_13.out (fun k_ hk => ⟨hk.1, fun e_ => hk.2 e_⟩))))); (try (obtain ⟨oki87, ce87, hcl87, hM87, hcc87, hfr87, hoki87, hH87⟩ := Kd.S_elem HX87.out [] (x89_3 : Int) (of_decide_eq_true (by fail)) (by have h_ : (x89_3 : Int) < ((x13_3.length : Int) : Int) := of_decide_eq_true (by fail); fail))); (try (obtain ⟨ve87_0, rfl, ge87_0⟩ := hM87)); (try (have HP87 := Kd.S_seg hH87 (of_decide_eq_true (by fail)) (by have h_ : (x89_3 : Int) < ((x13_3.length : Int) : Int) := of_decide_eq_true (by fail); fail) (seg := [v121]) (j := 0) (show 1 ≤ 1 from by decide) (x' := y120) (Kd.M_row (Kd.R_mono (Kd.R_tight rfl (Kd.R_mono (ok' := fun k_ => ((fun k_ => some k_ ≠ (.slice Ao49 x9_2.length co49 : Value).ownBlock)) k_ ∧ k_ ≠ go84) (Kd.R_apart' (HO122.out) (Kd.S_typed HO_13.out) (by decide)) (fun k_ hk => ⟨hk.1.2, fun e_ => (hk.2) (by rw [e_]; rfl)⟩))) (fun _ h_ => Or.inr (h_)))) (fun _ hk => hk) (fun k_ hk_ => ((Kd.R_mono (ok' := fun k_ => ((fun k_ => some k_ ≠ (.slice Ao49 x9_2.length co49 : Value).ownBlock)) k_ ∧ k_ ≠ go84) (Kd.R_apart' (HO122.out) (Kd.S_typed HO_13.out) (by decide)) (fun k_ hk => ⟨hk.1.2, fun e_ => (hk.2) (by rw [e_]; rfl)⟩))).1 k_ hk_.symm))); (try (have hx87_0 := hcc87 0 _ rfl)); (try (try simp only [show ((Kd.slice 3 (Kd.int .i64))).sz = 1 from rfl, Nat.mul_one, Nat.add_zero] at hx87_0)); (try (have hf87_0 := hfr87 0)); (try (try simp only [show ((Kd.slice 3 (Kd.int .i64))).sz = 1 from rfl, Nat.mul_one, Nat.add_zero] at hf87_0)); (try ((try clear hM87); clear hcl87 hcc87 hfr87 hoki87 hH87)); (try (try simp only [show ((Kd.slice 3 (Kd.int .i64))).sz = 1 from rfl, Nat.mul_one, Nat.add_zero] at HP87)))); refine store_event (t := 29) (p := 96) (v := ?vo_w88) (w1 := (w85.setCell ⟨go84, (x89_3 : Int).toNat, none⟩ (v121))) ?hg ?ho ?hn ?hr ?_; (case ho => rfl); (case hg => rfl); (case hn => rfl); (case hr => (have ev_ := ‹Aside0 (Kd.R _ _ _ _ _ v121 _)›; obtain ⟨_, _, ev_⟩ := Kd.R_slice ev_.out; subst ev_; (go_simp; done))); intro w88 hw; have hg : w85.grownBy w88 (some go84) := (by rw [hw]; exact HP87.2); have hp_ : Kd.S (Kd.slice 3 (Kd.int .i64)) 29 w88 w.heap.size (fun k_ => some k_ ≠ (.slice Ao49 x9_2.length co49 : Value).ownBlock) (.slice (some ⟨go84, 0, none⟩) x13_3.length co78) y123 := (by rw [hw, Ny123.out]; exact HP87.1); clear HP87; have n0_ := A_ (Kd.R_over' (v := (.slice (some ⟨go84, 0, none⟩) x13_3.length co78)) HO_9.out (Kd.S_typed HO_13.out) (by decide) hg); have n1_ := A_ (hp_); have n2_ := A_ (blk_grown (g := gb101) (o := .cells #[.int .i64 a0_0, .int .i64 a0_1] 40 (0, 0)) BK101.out hg (Kd.S_ne HO_13.out BK101.out (by decide))); have n3_ := A_ (blk_grown (g := gb104) (o := .cells #[.int .i64 a0_0, .int .i64 a0_1, .int .i64 a1] 42 (0, 0)) BK104.out hg (Kd.S_ne HO_13.out BK104.out (by decide))); have n4_ := A_ ((by rw [hw]; exact below_set (HB.out) GB84.out : Below w.heap.size w w88)); clear HO_9 HO_13 BK101 BK104 HB HO122; have HO_9 := n0_; have HO_13 := n1_; have BK101 := n2_; have BK104 := n3_; have HB := n4_; clear n0_ n1_ n2_ n3_ n4_ hg hw hp_))
           repeat (go_quiet (fail); try go_wp2_with (fail))
           (try simp only [← hl13_3])
           go_roundg k3
           case measure => have := HJ6.out; have := HK2.out; have := HK3.out; omega
           case rel => exact ⟨(y123), (wrap64 (x89_3 + 1)), (by rfl), H', ⟨by have := HJ6.out; have := HK2.out; have := HK3.out; omega⟩, ⟨by (try simp only [hl9_2]); (try simp only [hl13_3]); exact Kd.R_mono HO_9.out (fun _ hk => trivial)⟩, ⟨by (try simp only [hl9_2]); (try simp only [hl13_3]); exact HO_13.out⟩, ⟨by (try simp only [hl9_2]); (try simp only [hl13_3]); exact BK101.out⟩, ⟨by (try simp only [hl9_2]); (try simp only [hl13_3]); exact BK104.out⟩, ⟨by repeat ((with_reducible exact HB.out))⟩⟩
          ·rw [if_neg c79] at H
           have c79b0 : decide (x89_3 < (y117.length : Int)) = false := decide_eq_false c79
           (try (have c79b0z_hl13_3 := c79b0; rw [hl13_3] at c79b0z_hl13_3))
           (try (have c79b0z_hl13_4 := c79b0; rw [hl13_4] at c79b0z_hl13_4))
           (try (have c79b0z_hl9_2 := c79b0; rw [hl9_2] at c79b0z_hl9_2))
           (try (have c79b0z_hl9_4 := c79b0; rw [hl9_4] at c79b0z_hl9_4))
           clear c79
           have H' := A_ H
           clear H
           go_wp2
           repeat (go_quiet (fail); try go_wp2)
           go_loopg [15] k3 (fun kq v15 w' => ∃ (x9_4 : List Int) (x13_4 : List (List Int)) (x15_4 : Int), v15 = .int .i64 x15_4 ∧ Aside0 (impl_CountFixed.l2 kq a1 a2 x9_4 x13_4 x15_4 a0_0 a0_1 = some r) ∧ Aside0 (kq ≤ k3) ∧ Aside0 (Kd.R (Kd.int .i64) 3 w' w.heap.size (fun _ => True) (.slice Ao49 x9_2.length co49) x9_4) ∧ Aside0 (Kd.S (Kd.slice 3 (Kd.int .i64)) 29 w' w.heap.size (fun k_ => some k_ ≠ ((.slice Ao49 x9_2.length co49) : Value).ownBlock) (.slice Ao78 x13_3.length co78) x13_4) ∧ Aside0 (w'.heap[gb101]? = some (.cells #[.int .i64 a0_0, .int .i64 a0_1] 40 (0, 0))) ∧ Aside0 (w'.heap[gb104]? = some (.cells #[.int .i64 a0_0, .int .i64 a0_1, .int .i64 a1] 42 (0, 0))) ∧ Aside0 (Below w.heap.size w w'))
           case atStart => exact ⟨(x9_2), (x13_3), (0), (by rfl), H', ⟨Nat.le_refl _⟩, ⟨by (try simp only [hl9_2]); (try simp only [hl13_3]); exact HO_9.out⟩, ⟨by (try simp only [hl9_2]); (try simp only [hl13_3]); exact HO_13.out⟩, ⟨by (try simp only [hl9_2]); (try simp only [hl13_3]); exact BK101.out⟩, ⟨by (try simp only [hl9_2]); (try simp only [hl13_3]); exact BK104.out⟩, ⟨by repeat ((with_reducible exact HB.out))⟩⟩
           case round =>
            clear H'; try clear c1; try clear p1; try clear q1; try clear hx1; try clear qi1; try clear c2; try clear p2; try clear c3; try clear c4; try clear c5; try clear c5b0; try clear c5b1; try clear p5; try clear q5; try clear hx5; try clear hf5; try clear c6; try clear p6; try clear q6; try clear hx6; try clear hf6; try clear c7; try clear c8; try clear p8; try clear q8; try clear hx8; try clear hf8; try clear p11; try clear q11; try clear hx11; try clear qi11; try clear c12; try clear c13; try clear c13b0; try clear c16; try clear c16b0; try clear c19; try clear c19b0; try clear c22; try clear c22b0; try clear c29; try clear c31; try clear c31b0; try clear c34; try clear c38; try clear c38b0; try clear c38b1; try clear c39; try clear c39b0; try clear c39b1; try clear c42; try clear c50; try clear c50b0; try clear c52; try clear c52b0; try clear c52b1; try clear c53; try clear c53b0; try clear c54; try clear c54b0; try clear c55; try clear c55b0; try clear c56; try clear c56b0; try clear c57; try clear c57b0; try clear p58; try clear q58; try clear hx58; try clear hf58; try clear c59; try clear p64; try clear c65; try clear c65b0; try clear c66; try clear c66b0; try clear p67; try clear q67; try clear hx67; try clear hf67; try clear c68; try clear c74; try clear c74b0; try clear c74b1; try clear c75; try clear c75b0; try clear c75b1; try clear c79; try clear c79b0; try clear c80; try clear c80b0; try clear c80b1; try clear c81; try clear c81b0; try clear c81b1; try clear c82; try clear c82b0; try clear c83; try clear c83b0; try clear c84; try clear p84; try clear q84; try clear hx84; try clear hf84; try clear c87; try clear hx87; try clear hf87; try clear hcz14_0; try clear hcz14_1; try clear hcz17_0; try clear hcz17_1; try clear hcz20_0; try clear hcz20_1; try clear hcz23_0; try clear hcz23_1; try clear hcz25_0; try clear hcz25_1; try clear hcz27_0; try clear hcz27_1; try clear hcz32_0; try clear hcz32_1; try clear hcz35_0; try clear hcz35_1; try clear hcz35_2; try clear hcz40_0; try clear hcz40_1; try clear hcz43_0; try clear hcz43_1; try clear hcz43_2; try clear hcz45_0; try clear hcz45_1; try clear hcz60_0; try clear hcz60_1; try clear hcz60_2; try clear hcz69_0; try clear hcz69_1; try clear hcz69_2; try clear hcz9_0; try clear hcz9_1; try clear hfz14_0; try clear hfz14_1; try clear hfz17_0; try clear hfz17_1; try clear hfz20_0; try clear hfz20_1; try clear hfz23_0; try clear hfz23_1; try clear hfz25_0; try clear hfz25_1; try clear hfz27_0; try clear hfz27_1; try clear hfz32_0; try clear hfz32_1; try clear hfz35_0; try clear hfz35_1; try clear hfz35_2; try clear hfz40_0; try clear hfz40_1; try clear hfz43_0; try clear hfz43_1; try clear hfz43_2; try clear hfz45_0; try clear hfz45_1; try clear hfz60_0; try clear hfz60_1; try clear hfz60_2; try clear hfz69_0; try clear hfz69_1; try clear hfz69_2; try clear hfz9_0; try clear hfz9_1; try clear hx113_0; try clear hx114_0; try clear hx58_0; try clear hx67_0; try clear hx84_0; try clear hx87_0; try clear p1; try clear p11; try clear p113; try clear p114; try clear p2; try clear p5; try clear p58; try clear p6; try clear p64; try clear p67; try clear p84; try clear q1; try clear q11; try clear q113; try clear q114; try clear q5; try clear q58; try clear q6; try clear q67; try clear q84
            obtain ⟨x9_4, x13_4, x15_4, rfl, HA, HK4, HO_9, HO_13, BK101, BK104, HB⟩ := hrel
            have hl9_4 := (Kd.R_reads' HO_9.out).1
            rw [hl9_4] at HO_9
            (try simp only [hl9_4])
            (try simp only [hl9_4] at BK101)
            (try simp only [hl9_4] at BK104)
            (try simp only [hl9_4] at HO_13)
            have hl13_4 := (Kd.S_reads' HO_13.out).1
            rw [hl13_4] at HO_13
            (try simp only [hl13_4])
            (try simp only [hl13_4] at BK101)
            (try simp only [hl13_4] at BK104)
            (try simp only [hl13_4] at HO_9)
            cases gk with
            | zero => exact absurd HA.out (by simp [impl_CountFixed.l2])
            | succ k4 =>
             have H := HA.out
             clear HA
             simp only [impl_CountFixed.l2] at H
             obtain ⟨t124, A890, H⟩ := oB_ H
             (try dsimp only at H); have A89 := A_ A890; clear A890
             by_cases c90 : x15_4 < t124
             ·rw [if_pos c90] at H
              have c90b0 : decide (x15_4 < t124) = true := decide_eq_true c90
              clear c90
              replace H := iN_ H; obtain ⟨c91, H⟩ := H
              have c91b0 := eq_true c91
              have c91b1 : decide (0 ≤ x15_4) = true := decide_eq_true c91
              clear c91
              obtain ⟨ji92, hji92⟩ : ∃ j_ : Int, (shr .i64 (Go.bits .or .i64 a1 a2) x15_4) = j_ := ⟨_, rfl⟩
              replace H : (if (Go.bits .and .i64 (ji92) 1) = 1 then (impl_CountFixed.l2 k4 a1 a2 x9_4 x13_4 (wrap64 (x15_4 + 1)) a0_0 a0_1) else ((impl_EndsOf.f a0_0 a0_1 x15_4).bind fun bt125 => (if 0 ≤ bt125.1 then (if bt125.1 < (x9_4.length : Int) then (if 0 ≤ bt125.2 then (if bt125.2 < (x9_4.length : Int) then (if 0 ≤ (rd x9_4 bt125.1) then (if (rd x9_4 bt125.1) < (x13_4.length : Int) then (if (rd x9_4 bt125.1) < ((rd_L2 x13_4 (rd x9_4 bt125.1)).length : Int) then ((some (x13_4.set ((rd x9_4 bt125.1) : Int).toNat ((rd_L2 x13_4 (rd x9_4 bt125.1)).set ((rd x9_4 bt125.1) : Int).toNat (wrap64 ((rd (rd_L2 x13_4 (rd x9_4 bt125.1)) (rd x9_4 bt125.1)) + 1))) : List (List Int))).bind fun y133 => (if 0 ≤ (rd x9_4 bt125.2) then (if (rd x9_4 bt125.2) < (x13_4.length : Int) then (if (rd x9_4 bt125.2) < ((rd_L2 y133 (rd x9_4 bt125.2)).length : Int) then ((some (y133.set ((rd x9_4 bt125.2) : Int).toNat ((rd_L2 y133 (rd x9_4 bt125.2)).set ((rd x9_4 bt125.2) : Int).toNat (wrap64 ((rd (rd_L2 y133 (rd x9_4 bt125.2)) (rd x9_4 bt125.2)) + 1))) : List (List Int))).bind fun y138 => (if (rd x9_4 bt125.2) < ((rd_L2 y138 (rd x9_4 bt125.1)).length : Int) then ((some (y138.set ((rd x9_4 bt125.1) : Int).toNat ((rd_L2 y138 (rd x9_4 bt125.1)).set ((rd x9_4 bt125.2) : Int).toNat (wrap64 ((rd (rd_L2 y138 (rd x9_4 bt125.1)) (rd x9_4 bt125.2)) - 1))) : List (List Int))).bind fun y143 => (if (rd x9_4 bt125.1) < ((rd_L2 y143 (rd x9_4 bt125.2)).length : Int) then (impl_CountFixed.l2 k4 a1 a2 x9_4 (y143.set ((rd x9_4 bt125.2) : Int).toNat ((rd_L2 y143 (rd x9_4 bt125.2)).set ((rd x9_4 bt125.1) : Int).toNat (wrap64 ((rd (rd_L2 y143 (rd x9_4 bt125.2)) (rd x9_4 bt125.1)) - 1)))) (wrap64 (x15_4 + 1)) a0_0 a0_1) else (none))) else (none))) else (none)) else (none)) else (none))) else (none)) else (none)) else (none)) else (none)) else (none)) else (none)) else (none)))) = some r := by (rw [hji92] at H; exact H)
              (try rw [hji92] at A89)
              have hji92_ : ((Go.bits .or .i64 a1 a2) / 2 ^ min x15_4.toNat 64) = ji92 := hji92
              have hji92z : x15_4 ≤ 64 → ((Go.bits .or .i64 a1 a2) / 2 ^ x15_4.toNat) = ji92 := shr_small hji92
              by_cases c93 : (Go.bits .and .i64 (ji92) 1) = 1
              ·rw [if_pos c93] at H
               have c93b0 : ((Go.bits .and .i64 (ji92) 1) == 1) = true := beq_iff_eq.mpr c93
               have c93b1 : ((Go.bits .and .i64 (ji92) 1) != 1) = false := bne_eq_false_iff_eq.mpr c93
               clear c93
               have H' := A_ H
               clear H
               have hnb94 := NB101_104.out
               have hnc94 := NB104_101.out
               obtain ⟨hcz95_0, hcz95_1⟩ := kk2_ BK101.1
               have hfz95_0 := bf_ BK101.out 0
               have hfz95_1 := bf_ BK101.out 1
               go_wp2_with ((go_at_call 78; (with_reducible refine (impl_CountGaps.calls a0_0 a0_1 t124 _ A89.out).mono ?_); rintro e w96 ⟨rfl, hb⟩; have n0_ := A_ (Kd.R_below HO_9.out hb); have n1_ := A_ (Kd.S_below HO_13.out hb); have n2_ := A_ (blk_below BK101.out hb); have n3_ := A_ (blk_below BK104.out hb); have n4_ := A_ (bs_ HB.1 hb); clear HO_9 HO_13 BK101 BK104 HB; have HO_9 := n0_; have HO_13 := n1_; have BK101 := n2_; have BK104 := n3_; have HB := n4_; clear n0_ n1_ n2_ n3_ n4_; (try clear hb); (try clear hk)))
               repeat (go_quiet (fail); try go_wp2_with (fail))
               (try simp only [← hl9_4, ← hl13_4])
               go_roundg k4
               case measure => have := HJ6.out; have := HK2.out; have := HK3.out; have := HK4.out; omega
               case rel => exact ⟨(x9_4), (x13_4), (wrap64 (x15_4 + 1)), (by rfl), H', ⟨by have := HJ6.out; have := HK2.out; have := HK3.out; have := HK4.out; omega⟩, ⟨by (try simp only [hl9_2]); (try simp only [hl13_3]); (try simp only [hl9_4]); (try simp only [hl13_4]); exact HO_9.out⟩, ⟨by (try simp only [hl9_2]); (try simp only [hl13_3]); (try simp only [hl9_4]); (try simp only [hl13_4]); exact HO_13.out⟩, ⟨by (try simp only [hl9_2]); (try simp only [hl13_3]); (try simp only [hl9_4]); (try simp only [hl13_4]); exact BK101.out⟩, ⟨by (try simp only [hl9_2]); (try simp only [hl13_3]); (try simp only [hl9_4]); (try simp only [hl13_4]); exact BK104.out⟩, ⟨by repeat ((with_reducible exact HB.out))⟩⟩
              ·rw [if_neg c93] at H
               have c93b0 : ((Go.bits .and .i64 (ji92) 1) == 1) = false := beq_eq_false_iff_ne.mpr c93
               have c93b1 : ((Go.bits .and .i64 (ji92) 1) != 1) = true := bne_iff_ne.mpr c93
               obtain ⟨⟨t125, t126⟩, A970, H⟩ := oB_ H
               (try dsimp only at H); have A97 := A_ A970; clear A970
               replace H := iN_ H; obtain ⟨c98, H⟩ := H
               have c98b0 : decide (0 ≤ t125) = true := decide_eq_true c98
               clear c98
               replace H := iN_ H; obtain ⟨c99, H⟩ := H
               have c99b0 : decide (t125 < (x9_4.length : Int)) = true := decide_eq_true c99
               clear c99
               replace H := iN_ H; obtain ⟨c100, H⟩ := H
               have c100b0 : decide (0 ≤ t126) = true := decide_eq_true c100
               clear c100
               replace H := iN_ H; obtain ⟨c101, H⟩ := H
               have c101b0 : decide (t126 < (x9_4.length : Int)) = true := decide_eq_true c101
               clear c101
               replace H := iN_ H; obtain ⟨c102, H⟩ := H
               have c102b0 : decide (0 ≤ (rd x9_4 t125)) = true := decide_eq_true c102
               clear c102
               replace H := iN_ H; obtain ⟨c103, H⟩ := H
               have c103b0 : decide ((rd x9_4 t125) < (x13_4.length : Int)) = true := decide_eq_true c103
               clear c103
               replace H := iN_ H; obtain ⟨c104, H⟩ := H
               have c104b0 : decide ((rd x9_4 t125) < ((rd_L2 x13_4 (rd x9_4 t125)).length : Int)) = true := decide_eq_true c104
               clear c104
               obtain ⟨y131, hy131⟩ : ∃ y_ : List Int, y_ = ((rd_L2 x13_4 (rd x9_4 t125)).set ((rd x9_4 t125) : Int).toNat (wrap64 ((rd (rd_L2 x13_4 (rd x9_4 t125)) (rd x9_4 t125)) + 1))) := ⟨_, rfl⟩
               replace H : ((some (x13_4.set ((rd x9_4 t125) : Int).toNat y131 : List (List Int))).bind fun y133 => (if 0 ≤ (rd x9_4 t126) then (if (rd x9_4 t126) < (x13_4.length : Int) then (if (rd x9_4 t126) < ((rd_L2 y133 (rd x9_4 t126)).length : Int) then ((some (y133.set ((rd x9_4 t126) : Int).toNat ((rd_L2 y133 (rd x9_4 t126)).set ((rd x9_4 t126) : Int).toNat (wrap64 ((rd (rd_L2 y133 (rd x9_4 t126)) (rd x9_4 t126)) + 1))) : List (List Int))).bind fun y138 => (if (rd x9_4 t126) < ((rd_L2 y138 (rd x9_4 t125)).length : Int) then ((some (y138.set ((rd x9_4 t125) : Int).toNat ((rd_L2 y138 (rd x9_4 t125)).set ((rd x9_4 t126) : Int).toNat (wrap64 ((rd (rd_L2 y138 (rd x9_4 t125)) (rd x9_4 t126)) - 1))) : List (List Int))).bind fun y143 => (if (rd x9_4 t125) < ((rd_L2 y143 (rd x9_4 t126)).length : Int) then (impl_CountFixed.l2 k4 a1 a2 x9_4 (y143.set ((rd x9_4 t126) : Int).toNat ((rd_L2 y143 (rd x9_4 t126)).set ((rd x9_4 t125) : Int).toNat (wrap64 ((rd (rd_L2 y143 (rd x9_4 t126)) (rd x9_4 t125)) - 1)))) (wrap64 (x15_4 + 1)) a0_0 a0_1) else (none))) else (none))) else (none)) else (none)) else (none))) = some r := by (rw [hy131]; with_reducible exact H)
               have Ny131 := A_ hy131
               clear hy131
               obtain ⟨y133, hy133⟩ : ∃ y_ : List (List Int), y_ = (x13_4.set ((rd x9_4 t125) : Int).toNat y131) := ⟨_, rfl⟩
               replace H : (if 0 ≤ (rd x9_4 t126) then (if (rd x9_4 t126) < (x13_4.length : Int) then (if (rd x9_4 t126) < ((rd_L2 y133 (rd x9_4 t126)).length : Int) then ((some (y133.set ((rd x9_4 t126) : Int).toNat ((rd_L2 y133 (rd x9_4 t126)).set ((rd x9_4 t126) : Int).toNat (wrap64 ((rd (rd_L2 y133 (rd x9_4 t126)) (rd x9_4 t126)) + 1))) : List (List Int))).bind fun y138 => (if (rd x9_4 t126) < ((rd_L2 y138 (rd x9_4 t125)).length : Int) then ((some (y138.set ((rd x9_4 t125) : Int).toNat ((rd_L2 y138 (rd x9_4 t125)).set ((rd x9_4 t126) : Int).toNat (wrap64 ((rd (rd_L2 y138 (rd x9_4 t125)) (rd x9_4 t126)) - 1))) : List (List Int))).bind fun y143 => (if (rd x9_4 t125) < ((rd_L2 y143 (rd x9_4 t126)).length : Int) then (impl_CountFixed.l2 k4 a1 a2 x9_4 (y143.set ((rd x9_4 t126) : Int).toNat ((rd_L2 y143 (rd x9_4 t126)).set ((rd x9_4 t125) : Int).toNat (wrap64 ((rd (rd_L2 y143 (rd x9_4 t126)) (rd x9_4 t125)) - 1)))) (wrap64 (x15_4 + 1)) a0_0 a0_1) else (none))) else (none))) else (none)) else (none)) else (none)) = some r := by (have H2_ := (Option.bind_some _ _).symm.trans H; rw [hy133]; with_reducible exact H2_)
               have Ny133 := A_ hy133
               clear hy133
               replace H := iN_ H; obtain ⟨c106, H⟩ := H
               have c106b0 : decide (0 ≤ (rd x9_4 t126)) = true := decide_eq_true c106
               clear c106
               replace H := iN_ H; obtain ⟨c107, H⟩ := H
               have c107b0 : decide ((rd x9_4 t126) < (x13_4.length : Int)) = true := decide_eq_true c107
               clear c107
               replace H := iN_ H; obtain ⟨c108, H⟩ := H
               have c108b0 : decide ((rd x9_4 t126) < ((rd_L2 y133 (rd x9_4 t126)).length : Int)) = true := decide_eq_true c108
               clear c108
               obtain ⟨y136, hy136⟩ : ∃ y_ : List Int, y_ = ((rd_L2 y133 (rd x9_4 t126)).set ((rd x9_4 t126) : Int).toNat (wrap64 ((rd (rd_L2 y133 (rd x9_4 t126)) (rd x9_4 t126)) + 1))) := ⟨_, rfl⟩
               replace H : ((some (y133.set ((rd x9_4 t126) : Int).toNat y136 : List (List Int))).bind fun y138 => (if (rd x9_4 t126) < ((rd_L2 y138 (rd x9_4 t125)).length : Int) then ((some (y138.set ((rd x9_4 t125) : Int).toNat ((rd_L2 y138 (rd x9_4 t125)).set ((rd x9_4 t126) : Int).toNat (wrap64 ((rd (rd_L2 y138 (rd x9_4 t125)) (rd x9_4 t126)) - 1))) : List (List Int))).bind fun y143 => (if (rd x9_4 t125) < ((rd_L2 y143 (rd x9_4 t126)).length : Int) then (impl_CountFixed.l2 k4 a1 a2 x9_4 (y143.set ((rd x9_4 t126) : Int).toNat ((rd_L2 y143 (rd x9_4 t126)).set ((rd x9_4 t125) : Int).toNat (wrap64 ((rd (rd_L2 y143 (rd x9_4 t126)) (rd x9_4 t125)) - 1)))) (wrap64 (x15_4 + 1)) a0_0 a0_1) else (none))) else (none))) = some r := by (rw [hy136]; with_reducible exact H)
               have Ny136 := A_ hy136
               clear hy136
               obtain ⟨y138, hy138⟩ : ∃ y_ : List (List Int), y_ = (y133.set ((rd x9_4 t126) : Int).toNat y136) := ⟨_, rfl⟩
               replace H : (if (rd x9_4 t126) < ((rd_L2 y138 (rd x9_4 t125)).length : Int) then ((some (y138.set ((rd x9_4 t125) : Int).toNat ((rd_L2 y138 (rd x9_4 t125)).set ((rd x9_4 t126) : Int).toNat (wrap64 ((rd (rd_L2 y138 (rd x9_4 t125)) (rd x9_4 t126)) - 1))) : List (List Int))).bind fun y143 => (if (rd x9_4 t125) < ((rd_L2 y143 (rd x9_4 t126)).length : Int) then (impl_CountFixed.l2 k4 a1 a2 x9_4 (y143.set ((rd x9_4 t126) : Int).toNat ((rd_L2 y143 (rd x9_4 t126)).set ((rd x9_4 t125) : Int).toNat (wrap64 ((rd (rd_L2 y143 (rd x9_4 t126)) (rd x9_4 t125)) - 1)))) (wrap64 (x15_4 + 1)) a0_0 a0_1) else (none))) else (none)) = some r := by (have H2_ := (Option.bind_some _ _).symm.trans H; rw [hy138]; with_reducible exact H2_)
               have Ny138 := A_ hy138
               clear hy138
               replace H := iN_ H; obtain ⟨c110, H⟩ := H
               have c110b0 : decide ((rd x9_4 t126) < ((rd_L2 y138 (rd x9_4 t125)).length : Int)) = true := decide_eq_true c110
               clear c110
               obtain ⟨y141, hy141⟩ : ∃ y_ : List Int, y_ = ((rd_L2 y138 (rd x9_4 t125)).set ((rd x9_4 t126) : Int).toNat (wrap64 ((rd (rd_L2 y138 (rd x9_4 t125)) (rd x9_4 t126)) - 1))) := ⟨_, rfl⟩
               replace H : ((some (y138.set ((rd x9_4 t125) : Int).toNat y141 : List (List Int))).bind fun y143 => (if (rd x9_4 t125) < ((rd_L2 y143 (rd x9_4 t126)).length : Int) then (impl_CountFixed.l2 k4 a1 a2 x9_4 (y143.set ((rd x9_4 t126) : Int).toNat ((rd_L2 y143 (rd x9_4 t126)).set ((rd x9_4 t125) : Int).toNat (wrap64 ((rd (rd_L2 y143 (rd x9_4 t126)) (rd x9_4 t125)) - 1)))) (wrap64 (x15_4 + 1)) a0_0 a0_1) else (none))) = some r := by (rw [hy141]; with_reducible exact H)
               have Ny141 := A_ hy141
               clear hy141
               obtain ⟨y143, hy143⟩ : ∃ y_ : List (List Int), y_ = (y138.set ((rd x9_4 t125) : Int).toNat y141) := ⟨_, rfl⟩
               replace H : (if (rd x9_4 t125) < ((rd_L2 y143 (rd x9_4 t126)).length : Int) then (impl_CountFixed.l2 k4 a1 a2 x9_4 (y143.set ((rd x9_4 t126) : Int).toNat ((rd_L2 y143 (rd x9_4 t126)).set ((rd x9_4 t125) : Int).toNat (wrap64 ((rd (rd_L2 y143 (rd x9_4 t126)) (rd x9_4 t125)) - 1)))) (wrap64 (x15_4 + 1)) a0_0 a0_1) else (none)) = some r := by (have H2_ := (Option.bind_some _ _).symm.trans H; rw [hy143]; with_reducible exact H2_)
               have Ny143 := A_ hy143
               clear hy143
               replace H := iN_ H; obtain ⟨c112, H⟩ := H
               have c112b0 : decide ((rd x9_4 t125) < ((rd_L2 y143 (rd x9_4 t126)).length : Int)) = true := decide_eq_true c112
               clear c112
               obtain ⟨y146, hy146⟩ : ∃ y_ : List Int, y_ = ((rd_L2 y143 (rd x9_4 t126)).set ((rd x9_4 t125) : Int).toNat (wrap64 ((rd (rd_L2 y143 (rd x9_4 t126)) (rd x9_4 t125)) - 1))) := ⟨_, rfl⟩
               replace H : (impl_CountFixed.l2 k4 a1 a2 x9_4 (y143.set ((rd x9_4 t126) : Int).toNat y146) (wrap64 (x15_4 + 1)) a0_0 a0_1) = some r := by (rw [hy146]; with_reducible exact H)
               have Ny146 := A_ hy146
               clear hy146
               obtain ⟨y148, hy148⟩ : ∃ y_ : List (List Int), y_ = (y143.set ((rd x9_4 t126) : Int).toNat y146) := ⟨_, rfl⟩
               replace H : (impl_CountFixed.l2 k4 a1 a2 x9_4 y148 (wrap64 (x15_4 + 1)) a0_0 a0_1) = some r := by (rw [hy148]; with_reducible exact H)
               have Ny148 := A_ hy148
               clear hy148
               have H' := A_ H
               clear H
               have hnb114 := NB101_104.out
               have hnc114 := NB104_101.out
               obtain ⟨hcz115_0, hcz115_1⟩ := kk2_ BK101.1
               have hfz115_0 := bf_ BK101.out 0
               have hfz115_1 := bf_ BK101.out 1
               go_wp2_with (first | (go_at_call 78; (with_reducible refine (impl_CountGaps.calls a0_0 a0_1 t124 _ A89.out).mono ?_); rintro e w116 ⟨rfl, hb⟩; have n0_ := A_ (Kd.R_below HO_9.out hb); have n1_ := A_ (Kd.S_below HO_13.out hb); have n2_ := A_ (blk_below BK101.out hb); have n3_ := A_ (blk_below BK104.out hb); have n4_ := A_ (bs_ HB.1 hb); clear HO_9 HO_13 BK101 BK104 HB; have HO_9 := n0_; have HO_13 := n1_; have BK101 := n2_; have BK104 := n3_; have HB := n4_; clear n0_ n1_ n2_ n3_ n4_; (try clear hb); (try clear hk); obtain ⟨hcz117_0, hcz117_1⟩ := kk2_ BK101.1; have hfz117_0 := bf_ BK101.out 0; have hfz117_1 := bf_ BK101.out 1) | (go_at_call 82; (with_reducible refine (impl_EndsOf.calls a0_0 a0_1 x15_4 t125 t126 _ A97.out).mono ?_); rintro e w118 ⟨rfl, hb⟩; have n0_ := A_ (Kd.R_below HO_9.out hb); have n1_ := A_ (Kd.S_below HO_13.out hb); have n2_ := A_ (blk_below BK101.out hb); have n3_ := A_ (blk_below BK104.out hb); have n4_ := A_ (bs_ HB.1 hb); clear HO_9 HO_13 BK101 BK104 HB; have HO_9 := n0_; have HO_13 := n1_; have BK101 := n2_; have BK104 := n3_; have HB := n4_; clear n0_ n1_ n2_ n3_ n4_; (try clear hb); (try clear hk); have p127 : 0 ≤ (t125 : Int) := oD_; have q127 : t125 < (x9_4.length : Int) := oD_; obtain ⟨ad127, e127, hx127_0⟩ := Kd.at_int (Kd.R_reads' HO_9.out).2.2 t125 p127 q127; cases e127; replace p127 := eq_true p127; replace q127 := eq_true q127; have p128 : 0 ≤ (t126 : Int) := oD_; have q128 : t126 < (x9_4.length : Int) := oD_; obtain ⟨ad128, e128, hx128_0⟩ := Kd.at_int (Kd.R_reads' HO_9.out).2.2 t126 p128 q128; obtain rfl : ad127 = ad128 := (by injection e128); replace p128 := eq_true p128; replace q128 := eq_true q128; have p129 : 0 ≤ ((rd x9_4 t125) : Int) := oD_; have q129 : (rd x9_4 t125) < (x13_4.length : Int) := oD_; obtain ⟨ad129, A129_0, c129_0, e129, hx129_0, hl129_0, hi129_0⟩ := at_L2 (Kd.S_reads' HO_13.out).2.2 (rd x9_4 t125) p129 q129; cases e129; obtain ⟨ce129, hce129, hMe129, hcc129⟩ := Kd.S_get HO_13.out [] (rd x9_4 t125) p129 (by exact q129); obtain ⟨ve129_0, rfl, ge129_0⟩ := hMe129; have hv129_0 := hcc129 0 _ rfl; rw [Nat.add_zero, show ((Kd.slice 3 (Kd.int .i64))).sz = 1 from rfl, Nat.mul_one] at hv129_0; replace hv129_0 := Option.some.inj (hv129_0.symm.trans hx129_0); rw [hv129_0] at ge129_0; have HL129_0 := A_ (show Kd.R (Kd.int .i64) 3 _ _ _ _ (rd_L2 x13_4 (rd x9_4 t125)) from ge129_0); clear hv129_0 ge129_0; have HX129_0 := A_ hx129_0; clear hcc129 hce129; have HR129_0 := A_ hi129_0; have HC129_0 := A_ hl129_0; clear hi129_0 hl129_0; replace p129 := eq_true p129; replace q129 := eq_true q129; have p130 : 0 ≤ ((rd x9_4 t125) : Int) := oD_; have q130 : (rd x9_4 t125) < ((rd_L2 x13_4 (rd x9_4 t125)).length : Int) := oD_; obtain ⟨ad130, e130, hx130_0⟩ := Kd.at_int HR129_0.out (rd x9_4 t125) p130 q130; cases e130; replace p130 := eq_true p130; replace q130 := eq_true q130; have p105 : 0 ≤ ((rd x9_4 t125) : Int) := oD_; have q105 : ((rd x9_4 t125) : Int) < (((rd_L2 x13_4 (rd x9_4 t125)).length : Int) : Int) := oD_; obtain ⟨go105, co105, eo105, gb105, gl105, cl105, HG105⟩ := Kd.R_form HL129_0.out (by omega); (cases eo105); have GB105 := A_ gb105; have GG105 := A_ HG105; clear gb105 gl105 HG105; (simp only [add_plain] at hx130_0); obtain ⟨hx105_0, hf105_0⟩ := Kd.R_celln 0 HL129_0.out ((rd x9_4 t125) : Int) p105 q105; replace p105 := eq_true p105; replace q105 := eq_true q105; have hq119 : ((rd x9_4 t125) : Int) < (x13_4.length : Int) := (by have h_ : ((rd x9_4 t125) : Int) < ((x13_4.length : Int) : Int) := oD_; exact h_); obtain ⟨oki119, ce119, hcl119, hM119, hcc119, hok119, hbk119⟩ := Kd.S_borrow HO_13.out [] ((rd x9_4 t125) : Int) (oD_) hq119; obtain ⟨ve119_0, rfl, ge119_0⟩ := hM119; have hv119 := hcc119 0 _ rfl; rw [Nat.add_zero, show ((Kd.slice 3 (Kd.int .i64))).sz = 1 from rfl, Nat.mul_one] at hv119; replace hv119 := Option.some.inj (hv119.symm.trans HX129_0.out); subst hv119; clear hcc119 hcl119; replace ge119_0 := (show Kd.R (Kd.int .i64) 3 _ _ _ _ (rd_L2 x13_4 (rd x9_4 t125)) from ge119_0); have HP119 := Kd.R_putg ge119_0 ((rd x9_4 t125) : Int) (wrap64 ((rd (rd_L2 x13_4 (rd x9_4 t125)) (rd x9_4 t125)) + 1))))
               repeat (go_quiet (fail); try go_wp2_with (first | ((with_reducible refine gate_store (t := 3) (p := 133) rfl ?_); (try (rw [drewN_self w118]; generalize hq_ : World.drewN w118 _ = w118; have n0_ := A_ (Kd.R_at hq_ HO_9.out); have n1_ := A_ (Kd.S_at hq_ HO_13.out); have n2_ := A_ (Kd.R_at hq_ HL129_0.out); have n3_ := A_ (blk_at hq_ BK101.out); have n4_ := A_ (blk_at hq_ BK104.out); have n5_ := A_ (below_at hq_ HB.out); have nx0_ := A_ (cell_at hq_ HX129_0.out); clear hq_ HO_9 HO_13 HL129_0 BK101 BK104 HB HX129_0; have HX129_0 := nx0_; clear nx0_; have HO_9 := n0_; have HO_13 := n1_; have HL129_0 := n2_; have BK101 := n3_; have BK104 := n4_; have HB := n5_; clear n0_ n1_ n2_ n3_ n4_ n5_; (try (have hq119 : ((rd x9_4 t125) : Int) < (x13_4.length : Int) := (by have h_ : ((rd x9_4 t125) : Int) < ((x13_4.length : Int) : Int) := oD_; exact h_))); (try (obtain ⟨oki119, ce119, hcl119, hM119, hcc119, hok119, hbk119⟩ := Kd.S_borrow HO_13.out [] ((rd x9_4 t125) : Int) (oD_) hq119)); (try (obtain ⟨ve119_0, rfl, ge119_0⟩ := hM119)); (try (have hv119 := hcc119 0 _ rfl)); (try (rw [Nat.add_zero, show ((Kd.slice 3 (Kd.int .i64))).sz = 1 from rfl, Nat.mul_one] at hv119)); (try (replace hv119 := Option.some.inj (hv119.symm.trans HX129_0.out))); (try (subst hv119)); (try (clear hcc119 hcl119)); (try (replace ge119_0 := (show Kd.R (Kd.int .i64) 3 _ _ _ _ (rd_L2 x13_4 (rd x9_4 t125)) from ge119_0))); (try (obtain ⟨hyr_, hzr_⟩ := Kd.R_celln 0 ge119_0 ((rd x9_4 t125) : Int) (oD_) (oD_))); (try (have HP119 := Kd.R_putg ge119_0 ((rd x9_4 t125) : Int) (wrap64 ((rd (rd_L2 x13_4 (rd x9_4 t125)) (rd x9_4 t125)) + 1)))))); refine store_event (t := 3) (p := 133) (v := ?vo_w120) (w1 := (w118.setCell ⟨go105, ((rd x9_4 t125) : Int).toNat, none⟩ (.int .i64 (wrap64 ((rd (rd_L2 x13_4 (rd x9_4 t125)) (rd x9_4 t125)) + 1))))) ?hg ?ho ?hn ?hr ?_; (case ho => rfl); (case hg => rfl); (case hn => rfl); (case hr => (go_simp; done)); intro w120 hw; have hg : w118.grownBy w120 (some go105) := (by rw [hw]; exact HP119.2); have hz_ : Kd.R (Kd.int .i64) 3 w120 w.heap.size oki119 (.slice (some ⟨go105, 0, none⟩) (rd_L2 x13_4 (rd x9_4 t125)).length c129_0) y131 := (by rw [hw, Ny131.out]; exact HP119.1); have hp_ : Kd.S (Kd.slice 3 (Kd.int .i64)) 29 w120 w.heap.size (fun k_ => some k_ ≠ (.slice (some ad127) x9_4.length co49 : Value).ownBlock) (.slice (some ad129) x13_4.length co78) y133 := (by rw [Ny133.out]; exact hbk119 hg (fun k_ e_ => by injection e_ with e_; subst e_; exact ge119_0.1 _ rfl) (Kd.M_row hz_)); have hm_ := Kd.R_mono hz_ hok119; clear HP119 hbk119; have n0_ := A_ (Kd.R_grown1 HO_9.out rfl hg ((HL129_0.out.1 _ rfl).1)); have n1_ := A_ (hp_); have n2_ := A_ (blk_grown (g := gb101) (o := .cells #[.int .i64 a0_0, .int .i64 a0_1] 40 (0, 0)) BK101.out hg (Kd.R_ne HL129_0.out BK101.out (by decide))); have n3_ := A_ (blk_grown (g := gb104) (o := .cells #[.int .i64 a0_0, .int .i64 a0_1, .int .i64 a1] 42 (0, 0)) BK104.out hg (Kd.R_ne HL129_0.out BK104.out (by decide))); have n4_ := A_ ((by rw [hw]; exact below_set (HB.out) GB105.out : Below w.heap.size w w120)); have n5_ := A_ (hm_); have n6_ := A_ ((Kd.R_reads' hm_).2.1); clear HO_9 HO_13 BK101 BK104 HB HL129_0; have HO_9 := n0_; have HO_13 := n1_; have BK101 := n2_; have BK104 := n3_; have HB := n4_; have HL153 := n5_; have HC132 := n6_; clear n0_ n1_ n2_ n3_ n4_ n5_ n6_ hg hw hp_ hz_ hm_ hok119; have p134 : 0 ≤ ((rd x9_4 t126) : Int) := oD_; have q134 : (rd x9_4 t126) < (y133.length : Int) := (by have h_ : ((rd x9_4 t126) : Int) < ((x13_4.length : Int) : Int) := oD_; (have e_ := (Kd.S_reads' HO_13.out).1; omega)); have ql134 : (((rd x9_4 t126) : Int) < ((x13_4.length : Int) : Int)) = True := eq_true (oD_); obtain ⟨ad134, A134_0, c134_0, e134, hx134_0, hl134_0, hi134_0⟩ := at_L2 (Kd.S_reads' HO_13.out).2.2 (rd x9_4 t126) p134 q134; obtain rfl : ad129 = ad134 := (by injection e134); obtain ⟨ce134, hce134, hMe134, hcc134⟩ := Kd.S_get HO_13.out [] (rd x9_4 t126) p134 (by exact oD_); obtain ⟨ve134_0, rfl, ge134_0⟩ := hMe134; have hv134_0 := hcc134 0 _ rfl; rw [Nat.add_zero, show ((Kd.slice 3 (Kd.int .i64))).sz = 1 from rfl, Nat.mul_one] at hv134_0; replace hv134_0 := Option.some.inj (hv134_0.symm.trans hx134_0); rw [hv134_0] at ge134_0; have HL134_0 := A_ (show Kd.R (Kd.int .i64) 3 _ _ _ _ (rd_L2 y133 (rd x9_4 t126)) from ge134_0); clear hv134_0 ge134_0; have HX134_0 := A_ hx134_0; clear hcc134 hce134; have HR134_0 := A_ hi134_0; have HC134_0 := A_ hl134_0; clear hi134_0 hl134_0; replace p134 := eq_true p134; replace q134 := eq_true q134; have p135 : 0 ≤ ((rd x9_4 t126) : Int) := oD_; have q135 : (rd x9_4 t126) < ((rd_L2 y133 (rd x9_4 t126)).length : Int) := oD_; obtain ⟨ad135, e135, hx135_0⟩ := Kd.at_int HR134_0.out (rd x9_4 t126) p135 q135; cases e135; replace p135 := eq_true p135; replace q135 := eq_true q135; have p109 : 0 ≤ ((rd x9_4 t126) : Int) := oD_; have q109 : ((rd x9_4 t126) : Int) < (((rd_L2 y133 (rd x9_4 t126)).length : Int) : Int) := oD_; obtain ⟨go109, co109, eo109, gb109, gl109, cl109, HG109⟩ := Kd.R_form HL134_0.out (by omega); (cases eo109); have GB109 := A_ gb109; have GG109 := A_ HG109; clear gb109 gl109 HG109; (simp only [add_plain] at hx135_0); obtain ⟨hx109_0, hf109_0⟩ := Kd.R_celln 0 HL134_0.out ((rd x9_4 t126) : Int) p109 q109; replace p109 := eq_true p109; replace q109 := eq_true q109; have hq121 : ((rd x9_4 t126) : Int) < (x13_4.length : Int) := (by have h_ : ((rd x9_4 t126) : Int) < ((x13_4.length : Int) : Int) := oD_; exact h_); obtain ⟨oki121, ce121, hcl121, hM121, hcc121, hok121, hbk121⟩ := Kd.S_borrow HO_13.out [] ((rd x9_4 t126) : Int) (oD_) hq121; obtain ⟨ve121_0, rfl, ge121_0⟩ := hM121; have hv121 := hcc121 0 _ rfl; rw [Nat.add_zero, show ((Kd.slice 3 (Kd.int .i64))).sz = 1 from rfl, Nat.mul_one] at hv121; replace hv121 := Option.some.inj (hv121.symm.trans HX134_0.out); subst hv121; clear hcc121 hcl121; replace ge121_0 := (show Kd.R (Kd.int .i64) 3 _ _ _ _ (rd_L2 y133 (rd x9_4 t126)) from ge121_0); have HP121 := Kd.R_putg ge121_0 ((rd x9_4 t126) : Int) (wrap64 ((rd (rd_L2 y133 (rd x9_4 t126)) (rd x9_4 t126)) + 1))) | ((with_reducible refine gate_store (t := 3) (p := 142) rfl ?_); (try (rw [drewN_self w120]; generalize hq_ : World.drewN w120 _ = w120; have n0_ := A_ (Kd.R_at hq_ HO_9.out); have n1_ := A_ (Kd.S_at hq_ HO_13.out); have n2_ := A_ (Kd.R_at hq_ HL134_0.out); have n3_ := A_ (blk_at hq_ BK101.out); have n4_ := A_ (blk_at hq_ BK104.out); have n5_ := A_ (below_at hq_ HB.out); have nx0_ := A_ (cell_at hq_ HX134_0.out); clear hq_ HO_9 HO_13 HL134_0 BK101 BK104 HB HX134_0; have HX134_0 := nx0_; clear nx0_; have HO_9 := n0_; have HO_13 := n1_; have HL134_0 := n2_; have BK101 := n3_; have BK104 := n4_; have HB := n5_; clear n0_ n1_ n2_ n3_ n4_ n5_; (try (have hq121 : ((rd x9_4 t126) : Int) < (x13_4.length : Int) := (by have h_ : ((rd x9_4 t126) : Int) < ((x13_4.length : Int) : Int) := of_decide_eq_true (by fail); fail))); (try (obtain ⟨oki121, ce121, hcl121, hM121, hcc121, hok121, hbk121⟩ := Kd.S_borrow HO_13.out [] ((rd x9_4 t126) : Int) (of_decide_eq_true (by fail)) hq121)); (try (obtain ⟨ve121_0, rfl, ge121_0⟩ := hM121)); (try (have hv121 := hcc121 0 _ rfl)); (try (rw [Nat.add_zero, show ((Kd.slice 3 (Kd.int .i64))).sz = 1 from rfl, Nat.mul_one] at hv121)); (try (replace hv121 := Option.some.inj (hv121.symm.trans HX134_0.out))); (try (subst hv121)); (try (clear hcc121 hcl121)); (try (replace ge121_0 := (show Kd.R (Kd.int .i64) 3 _ _ _ _ (rd_L2 y133 (rd x9_4 t126)) from ge121_0))); (try (obtain ⟨hyr_, hzr_⟩ := Kd.R_celln 0 ge121_0 ((rd x9_4 t126) : Int) (of_decide_eq_true (by fail)) (of_decide_eq_true (by fail)))); (try (have HP121 := Kd.R_putg ge121_0 ((rd x9_4 t126) : Int) (wrap64 ((rd (rd_L2 y133 (rd x9_4 t126)) (rd x9_4 t126)) + 1)))))); refine store_event (t := 3) (p := 142) (v := ?vo_w122) (w1 := (w120.setCell ⟨go109, ((rd x9_4 t126) : Int).toNat, none⟩ (.int .i64 (wrap64 ((rd (rd_L2 y133 (rd x9_4 t126)) (rd x9_4 t126)) + 1))))) ?hg ?ho ?hn ?hr ?_; (case ho => rfl); (case hg => rfl); (case hn => rfl); (case hr => (go_simp; done)); intro w122 hw; have hg : w120.grownBy w122 (some go109) := (by rw [hw]; exact HP121.2); have hz_ : Kd.R (Kd.int .i64) 3 w122 w.heap.size oki121 (.slice (some ⟨go109, 0, none⟩) (rd_L2 y133 (rd x9_4 t126)).length c134_0) y136 := (by rw [hw, Ny136.out]; exact HP121.1); have hp_ : Kd.S (Kd.slice 3 (Kd.int .i64)) 29 w122 w.heap.size (fun k_ => some k_ ≠ (.slice (some ad127) x9_4.length co49 : Value).ownBlock) (.slice (some ad129) x13_4.length co78) y138 := (by rw [Ny138.out]; exact hbk121 hg (fun k_ e_ => by injection e_ with e_; subst e_; exact ge121_0.1 _ rfl) (Kd.M_row hz_)); have hm_ := Kd.R_mono hz_ hok121; clear HP121 hbk121; have n0_ := A_ (Kd.R_grown1 HO_9.out rfl hg ((HL134_0.out.1 _ rfl).1)); have n1_ := A_ (hp_); have n2_ := A_ (blk_grown (g := gb101) (o := .cells #[.int .i64 a0_0, .int .i64 a0_1] 40 (0, 0)) BK101.out hg (Kd.R_ne HL134_0.out BK101.out (by decide))); have n3_ := A_ (blk_grown (g := gb104) (o := .cells #[.int .i64 a0_0, .int .i64 a0_1, .int .i64 a1] 42 (0, 0)) BK104.out hg (Kd.R_ne HL134_0.out BK104.out (by decide))); have n4_ := A_ ((by rw [hw]; exact below_set (HB.out) GB109.out : Below w.heap.size w w122)); have n5_ := A_ (hm_); have n6_ := A_ ((Kd.R_reads' hm_).2.1); clear HO_9 HO_13 BK101 BK104 HB HL153 HL134_0; have HO_9 := n0_; have HO_13 := n1_; have BK101 := n2_; have BK104 := n3_; have HB := n4_; have HL154 := n5_; have HC137 := n6_; clear n0_ n1_ n2_ n3_ n4_ n5_ n6_ hg hw hp_ hz_ hm_ hok121; have p139 : 0 ≤ ((rd x9_4 t125) : Int) := oD_; have q139 : (rd x9_4 t125) < (y138.length : Int) := (by have h_ : ((rd x9_4 t125) : Int) < ((x13_4.length : Int) : Int) := oD_; (have e_ := (Kd.S_reads' HO_13.out).1; omega)); have ql139 : (((rd x9_4 t125) : Int) < ((x13_4.length : Int) : Int)) = True := eq_true (oD_); obtain ⟨ad139, A139_0, c139_0, e139, hx139_0, hl139_0, hi139_0⟩ := at_L2 (Kd.S_reads' HO_13.out).2.2 (rd x9_4 t125) p139 q139; obtain rfl : ad129 = ad139 := (by injection e139); obtain ⟨ce139, hce139, hMe139, hcc139⟩ := Kd.S_get HO_13.out [] (rd x9_4 t125) p139 (by exact oD_); obtain ⟨ve139_0, rfl, ge139_0⟩ := hMe139; have hv139_0 := hcc139 0 _ rfl; rw [Nat.add_zero, show ((Kd.slice 3 (Kd.int .i64))).sz = 1 from rfl, Nat.mul_one] at hv139_0; replace hv139_0 := Option.some.inj (hv139_0.symm.trans hx139_0); rw [hv139_0] at ge139_0; have HL139_0 := A_ (show Kd.R (Kd.int .i64) 3 _ _ _ _ (rd_L2 y138 (rd x9_4 t125)) from ge139_0); clear hv139_0 ge139_0; have HX139_0 := A_ hx139_0; clear hcc139 hce139; have HR139_0 := A_ hi139_0; have HC139_0 := A_ hl139_0; clear hi139_0 hl139_0; replace p139 := eq_true p139; replace q139 := eq_true q139; have p140 : 0 ≤ ((rd x9_4 t126) : Int) := oD_; have q140 : (rd x9_4 t126) < ((rd_L2 y138 (rd x9_4 t125)).length : Int) := oD_; obtain ⟨ad140, e140, hx140_0⟩ := Kd.at_int HR139_0.out (rd x9_4 t126) p140 q140; cases e140; replace p140 := eq_true p140; replace q140 := eq_true q140; have p111 : 0 ≤ ((rd x9_4 t126) : Int) := oD_; have q111 : ((rd x9_4 t126) : Int) < (((rd_L2 y138 (rd x9_4 t125)).length : Int) : Int) := oD_; obtain ⟨go111, co111, eo111, gb111, gl111, cl111, HG111⟩ := Kd.R_form HL139_0.out (by omega); (cases eo111); have GB111 := A_ gb111; have GG111 := A_ HG111; clear gb111 gl111 HG111; (simp only [add_plain] at hx140_0); obtain ⟨hx111_0, hf111_0⟩ := Kd.R_celln 0 HL139_0.out ((rd x9_4 t126) : Int) p111 q111; replace p111 := eq_true p111; replace q111 := eq_true q111; have hq123 : ((rd x9_4 t125) : Int) < (x13_4.length : Int) := (by have h_ : ((rd x9_4 t125) : Int) < ((x13_4.length : Int) : Int) := oD_; exact h_); obtain ⟨oki123, ce123, hcl123, hM123, hcc123, hok123, hbk123⟩ := Kd.S_borrow HO_13.out [] ((rd x9_4 t125) : Int) (oD_) hq123; obtain ⟨ve123_0, rfl, ge123_0⟩ := hM123; have hv123 := hcc123 0 _ rfl; rw [Nat.add_zero, show ((Kd.slice 3 (Kd.int .i64))).sz = 1 from rfl, Nat.mul_one] at hv123; replace hv123 := Option.some.inj (hv123.symm.trans HX139_0.out); subst hv123; clear hcc123 hcl123; replace ge123_0 := (show Kd.R (Kd.int .i64) 3 _ _ _ _ (rd_L2 y138 (rd x9_4 t125)) from ge123_0); have HP123 := Kd.R_putg ge123_0 ((rd x9_4 t126) : Int) (wrap64 ((rd (rd_L2 y138 (rd x9_4 t125)) (rd x9_4 t126)) - 1))) | ((with_reducible refine gate_store (t := 3) (p := 151) rfl ?_); (try (rw [drewN_self w122]; generalize hq_ : World.drewN w122 _ = w122; have n0_ := A_ (Kd.R_at hq_ HO_9.out); have n1_ := A_ (Kd.S_at hq_ HO_13.out); have n2_ := A_ (Kd.R_at hq_ HL139_0.out); have n3_ := A_ (blk_at hq_ BK101.out); have n4_ := A_ (blk_at hq_ BK104.out); have n5_ := A_ (below_at hq_ HB.out); have nx0_ := A_ (cell_at hq_ HX139_0.out); clear hq_ HO_9 HO_13 HL139_0 BK101 BK104 HB HX139_0; have HX139_0 := nx0_; clear nx0_; have HO_9 := n0_; have HO_13 := n1_; have HL139_0 := n2_; have BK101 := n3_; have BK104 := n4_; have HB := n5_; clear n0_ n1_ n2_ n3_ n4_ n5_; (try (have hq123 : ((rd x9_4 t125) : Int) < (x13_4.length : Int) := (by have h_ : ((rd x9_4 t125) : Int) < ((x13_4.length : Int) : Int) := of_decide_eq_true (by fail); fail))); (try (obtain ⟨oki123, ce123, hcl123, hM123, hcc123, hok123, hbk123⟩ := Kd.S_borrow HO_13.out [] ((rd x9_4 t125) : Int) (of_decide_eq_true (by fail)) hq123)); (try (obtain ⟨ve123_0, rfl, ge123_0⟩ := hM123)); (try (have hv123 := hcc123 0 _ rfl)); (try (rw [Nat.add_zero, show ((Kd.slice 3 (Kd.int .i64))).sz = 1 from rfl, Nat.mul_one] at hv123)); (try (replace hv123 := Option.some.inj (hv123.symm.trans HX139_0.out))); (try (subst hv123)); (try (clear hcc123 hcl123)); (try (replace ge123_0 := (show Kd.R (Kd.int .i64) 3 _ _ _ _ (rd_L2 y138 (rd x9_4 t125)) from ge123_0))); (try (obtain ⟨hyr_, hzr_⟩ := Kd.R_celln 0 ge123_0 ((rd x9_4 t126) : Int) (of_decide_eq_true (by fail)) (of_decide_eq_true (by fail)))); (try (have HP123 := Kd.R_putg ge123_0 ((rd x9_4 t126) : Int) (wrap64 ((rd (rd_L2 y138 (rd x9_4 t125)) (rd x9_4 t126)) - 1)))))); refine store_event (t := 3) (p := 151) (v := ?vo_w124) (w1 := (w122.setCell ⟨go111, ((rd x9_4 t126) : Int).toNat, none⟩ (.int .i64 (wrap64 ((rd (rd_L2 y138 (rd x9_4 t125)) (rd x9_4 t126)) - 1))))) ?hg ?ho ?hn ?hr ?_; (case ho => rfl); (case hg => rfl); (case hn => rfl); (case hr => (go_simp; done)); intro w124 hw; have hg : w122.grownBy w124 (some go111) := (by rw [hw]; exact HP123.2); have hz_ : Kd.R (Kd.int .i64) 3 w124 w.heap.size oki123 (.slice (some ⟨go111, 0, none⟩) (rd_L2 y138 (rd x9_4 t125)).length c139_0) y141 := (by rw [hw, Ny141.out]; exact HP123.1); have hp_ : Kd.S (Kd.slice 3 (Kd.int .i64)) 29 w124 w.heap.size (fun k_ => some k_ ≠ (.slice (some ad127) x9_4.length co49 : Value).ownBlock) (.slice (some ad129) x13_4.length co78) y143 := (by rw [Ny143.out]; exact hbk123 hg (fun k_ e_ => by injection e_ with e_; subst e_; exact ge123_0.1 _ rfl) (Kd.M_row hz_)); have hm_ := Kd.R_mono hz_ hok123; clear HP123 hbk123; have n0_ := A_ (Kd.R_grown1 HO_9.out rfl hg ((HL139_0.out.1 _ rfl).1)); have n1_ := A_ (hp_); have n2_ := A_ (blk_grown (g := gb101) (o := .cells #[.int .i64 a0_0, .int .i64 a0_1] 40 (0, 0)) BK101.out hg (Kd.R_ne HL139_0.out BK101.out (by decide))); have n3_ := A_ (blk_grown (g := gb104) (o := .cells #[.int .i64 a0_0, .int .i64 a0_1, .int .i64 a1] 42 (0, 0)) BK104.out hg (Kd.R_ne HL139_0.out BK104.out (by decide))); have n4_ := A_ ((by rw [hw]; exact below_set (HB.out) GB111.out : Below w.heap.size w w124)); have n5_ := A_ (hm_); have n6_ := A_ ((Kd.R_reads' hm_).2.1); clear HO_9 HO_13 BK101 BK104 HB HL154 HL139_0; have HO_9 := n0_; have HO_13 := n1_; have BK101 := n2_; have BK104 := n3_; have HB := n4_; have HL155 := n5_; have HC142 := n6_; clear n0_ n1_ n2_ n3_ n4_ n5_ n6_ hg hw hp_ hz_ hm_ hok123; have p144 : 0 ≤ ((rd x9_4 t126) : Int) := oD_; have q144 : (rd x9_4 t126) < (y143.length : Int) := (by have h_ : ((rd x9_4 t126) : Int) < ((x13_4.length : Int) : Int) := oD_; (have e_ := (Kd.S_reads' HO_13.out).1; omega)); have ql144 : (((rd x9_4 t126) : Int) < ((x13_4.length : Int) : Int)) = True := eq_true (oD_); obtain ⟨ad144, A144_0, c144_0, e144, hx144_0, hl144_0, hi144_0⟩ := at_L2 (Kd.S_reads' HO_13.out).2.2 (rd x9_4 t126) p144 q144; obtain rfl : ad129 = ad144 := (by injection e144); obtain ⟨ce144, hce144, hMe144, hcc144⟩ := Kd.S_get HO_13.out [] (rd x9_4 t126) p144 (by exact oD_); obtain ⟨ve144_0, rfl, ge144_0⟩ := hMe144; have hv144_0 := hcc144 0 _ rfl; rw [Nat.add_zero, show ((Kd.slice 3 (Kd.int .i64))).sz = 1 from rfl, Nat.mul_one] at hv144_0; replace hv144_0 := Option.some.inj (hv144_0.symm.trans hx144_0); rw [hv144_0] at ge144_0; have HL144_0 := A_ (show Kd.R (Kd.int .i64) 3 _ _ _ _ (rd_L2 y143 (rd x9_4 t126)) from ge144_0); clear hv144_0 ge144_0; have HX144_0 := A_ hx144_0; clear hcc144 hce144; have HR144_0 := A_ hi144_0; have HC144_0 := A_ hl144_0; clear hi144_0 hl144_0; replace p144 := eq_true p144; replace q144 := eq_true q144; have p145 : 0 ≤ ((rd x9_4 t125) : Int) := oD_; have q145 : (rd x9_4 t125) < ((rd_L2 y143 (rd x9_4 t126)).length : Int) := oD_; obtain ⟨ad145, e145, hx145_0⟩ := Kd.at_int HR144_0.out (rd x9_4 t125) p145 q145; cases e145; replace p145 := eq_true p145; replace q145 := eq_true q145; have p113 : 0 ≤ ((rd x9_4 t125) : Int) := oD_; have q113 : ((rd x9_4 t125) : Int) < (((rd_L2 y143 (rd x9_4 t126)).length : Int) : Int) := oD_; obtain ⟨go113, co113, eo113, gb113, gl113, cl113, HG113⟩ := Kd.R_form HL144_0.out (by omega); (cases eo113); have GB113 := A_ gb113; have GG113 := A_ HG113; clear gb113 gl113 HG113; (simp only [add_plain] at hx145_0); obtain ⟨hx113_0, hf113_0⟩ := Kd.R_celln 0 HL144_0.out ((rd x9_4 t125) : Int) p113 q113; replace p113 := eq_true p113; replace q113 := eq_true q113; have hq125 : ((rd x9_4 t126) : Int) < (x13_4.length : Int) := (by have h_ : ((rd x9_4 t126) : Int) < ((x13_4.length : Int) : Int) := oD_; exact h_); obtain ⟨oki125, ce125, hcl125, hM125, hcc125, hok125, hbk125⟩ := Kd.S_borrow HO_13.out [] ((rd x9_4 t126) : Int) (oD_) hq125; obtain ⟨ve125_0, rfl, ge125_0⟩ := hM125; have hv125 := hcc125 0 _ rfl; rw [Nat.add_zero, show ((Kd.slice 3 (Kd.int .i64))).sz = 1 from rfl, Nat.mul_one] at hv125; replace hv125 := Option.some.inj (hv125.symm.trans HX144_0.out); subst hv125; clear hcc125 hcl125; replace ge125_0 := (show Kd.R (Kd.int .i64) 3 _ _ _ _ (rd_L2 y143 (rd x9_4 t126)) from ge125_0); have HP125 := Kd.R_putg ge125_0 ((rd x9_4 t125) : Int) (wrap64 ((rd (rd_L2 y143 (rd x9_4 t126)) (rd x9_4 t125)) - 1))) | ((with_reducible refine gate_store (t := 3) (p := 160) rfl ?_); (try (rw [drewN_self w124]; generalize hq_ : World.drewN w124 _ = w124; have n0_ := A_ (Kd.R_at hq_ HO_9.out); have n1_ := A_ (Kd.S_at hq_ HO_13.out); have n2_ := A_ (Kd.R_at hq_ HL144_0.out); have n3_ := A_ (blk_at hq_ BK101.out); have n4_ := A_ (blk_at hq_ BK104.out); have n5_ := A_ (below_at hq_ HB.out); have nx0_ := A_ (cell_at hq_ HX144_0.out); clear hq_ HO_9 HO_13 HL144_0 BK101 BK104 HB HX144_0; have HX144_0 := nx0_; clear nx0_; have HO_9 := n0_; have HO_13 := n1_; have HL144_0 := n2_; have BK101 := n3_; have BK104 := n4_; have HB := n5_; clear n0_ n1_ n2_ n3_ n4_ n5_; (try (have hq125 : ((rd x9_4 t126) : Int) < (x13_4.length : Int) := (by have h_ : ((rd x9_4 t126) : Int) < ((x13_4.length : Int) : Int) := of_decide_eq_true (by fail); fail))); (try (obtain ⟨oki125, ce125, hcl125, hM125, hcc125, hok125, hbk125⟩ := Kd.S_borrow HO_13.out [] ((rd x9_4 t126) : Int) (of_decide_eq_true (by fail)) hq125)); (try (obtain ⟨ve125_0, rfl, ge125_0⟩ := hM125)); (try (have hv125 := hcc125 0 _ rfl)); (try (rw [Nat.add_zero, show ((Kd.slice 3 (Kd.int .i64))).sz = 1 from rfl, Nat.mul_one] at hv125)); (try (replace hv125 := Option.some.inj (hv125.symm.trans HX144_0.out))); (try (subst hv125)); (try (clear hcc125 hcl125)); (try (replace ge125_0 := (show Kd.R (Kd.int .i64) 3 _ _ _ _ (rd_L2 y143 (rd x9_4 t126)) from ge125_0))); (try (obtain ⟨hyr_, hzr_⟩ := Kd.R_celln 0 ge125_0 ((rd x9_4 t125) : Int) (of_decide_eq_true (by fail)) (of_decide_eq_true (by fail)))); (try (have HP125 := Kd.R_putg ge125_0 ((rd x9_4 t125) : Int) (wrap64 ((rd (rd_L2 y143 (rd x9_4 t126)) (rd x9_4 t125)) - 1)))))); refine store_event (t := 3) (p := 160) (v := ?vo_w126) (w1 := (w124.setCell ⟨go113, ((rd x9_4 t125) : Int).toNat, none⟩ (.int .i64 (wrap64 ((rd (rd_L2 y143 (rd x9_4 t126)) (rd x9_4 t125)) - 1))))) ?hg ?ho ?hn ?hr ?_; (case ho => rfl); (case hg => rfl); (case hn => rfl); (case hr => (go_simp; done)); intro w126 hw; have hg : w124.grownBy w126 (some go113) := (by rw [hw]; exact HP125.2); have hz_ : Kd.R (Kd.int .i64) 3 w126 w.heap.size oki125 (.slice (some ⟨go113, 0, none⟩) (rd_L2 y143 (rd x9_4 t126)).length c144_0) y146 := (by rw [hw, Ny146.out]; exact HP125.1); have hp_ : Kd.S (Kd.slice 3 (Kd.int .i64)) 29 w126 w.heap.size (fun k_ => some k_ ≠ (.slice (some ad127) x9_4.length co49 : Value).ownBlock) (.slice (some ad129) x13_4.length co78) y148 := (by rw [Ny148.out]; exact hbk125 hg (fun k_ e_ => by injection e_ with e_; subst e_; exact ge125_0.1 _ rfl) (Kd.M_row hz_)); have hm_ := Kd.R_mono hz_ hok125; clear HP125 hbk125; have n0_ := A_ (Kd.R_grown1 HO_9.out rfl hg ((HL144_0.out.1 _ rfl).1)); have n1_ := A_ (hp_); have n2_ := A_ (blk_grown (g := gb101) (o := .cells #[.int .i64 a0_0, .int .i64 a0_1] 40 (0, 0)) BK101.out hg (Kd.R_ne HL144_0.out BK101.out (by decide))); have n3_ := A_ (blk_grown (g := gb104) (o := .cells #[.int .i64 a0_0, .int .i64 a0_1, .int .i64 a1] 42 (0, 0)) BK104.out hg (Kd.R_ne HL144_0.out BK104.out (by decide))); have n4_ := A_ ((by rw [hw]; exact below_set (HB.out) GB113.out : Below w.heap.size w w126)); have n5_ := A_ (hm_); have n6_ := A_ ((Kd.R_reads' hm_).2.1); clear HO_9 HO_13 BK101 BK104 HB HL155 HL144_0; have HO_9 := n0_; have HO_13 := n1_; have BK101 := n2_; have BK104 := n3_; have HB := n4_; have HL156 := n5_; have HC147 := n6_; clear n0_ n1_ n2_ n3_ n4_ n5_ n6_ hg hw hp_ hz_ hm_ hok125)))
               (try simp only [← hl9_4, ← hl13_4])
               go_roundg k4
               case measure => have := HJ6.out; have := HK2.out; have := HK3.out; have := HK4.out; omega
               case rel => exact ⟨(x9_4), (y148), (wrap64 (x15_4 + 1)), (by rfl), H', ⟨by have := HJ6.out; have := HK2.out; have := HK3.out; have := HK4.out; omega⟩, ⟨by (try simp only [hl9_2]); (try simp only [hl13_3]); (try simp only [hl9_4]); (try simp only [hl13_4]); exact HO_9.out⟩, ⟨by (try simp only [hl9_2]); (try simp only [hl13_3]); (try simp only [hl9_4]); (try simp only [hl13_4]); exact HO_13.out⟩, ⟨by (try simp only [hl9_2]); (try simp only [hl13_3]); (try simp only [hl9_4]); (try simp only [hl13_4]); exact BK101.out⟩, ⟨by (try simp only [hl9_2]); (try simp only [hl13_3]); (try simp only [hl9_4]); (try simp only [hl13_4]); exact BK104.out⟩, ⟨by repeat ((with_reducible exact HB.out))⟩⟩
             ·rw [if_neg c90] at H
              have c90b0 : decide (x15_4 < t124) = false := decide_eq_false c90
              clear c90
              obtain ⟨t149, A1270, H⟩ := oB_ H
              (try dsimp only at H); have A127 := A_ A1270; clear A1270
              obtain ⟨t152, A1280, H⟩ := oB_ H
              (try dsimp only at H); have A128 := A_ A1280; clear A1280
              obtain rfl := Option.some.inj H
              have hnb129 := NB101_104.out
              have hnc129 := NB104_101.out
              obtain ⟨hcz130_0, hcz130_1⟩ := kk2_ BK101.1
              have hfz130_0 := bf_ BK101.out 0
              have hfz130_1 := bf_ BK101.out 1
              go_wp2_with (first | (go_at_call 78; (with_reducible refine (impl_CountGaps.calls a0_0 a0_1 t124 _ A89.out).mono ?_); rintro e w131 ⟨rfl, hb⟩; have n0_ := A_ (Kd.R_below HO_9.out hb); have n1_ := A_ (Kd.S_below HO_13.out hb); have n2_ := A_ (blk_below BK101.out hb); have n3_ := A_ (blk_below BK104.out hb); have n4_ := A_ (bs_ HB.1 hb); clear HO_9 HO_13 BK101 BK104 HB; have HO_9 := n0_; have HO_13 := n1_; have BK101 := n2_; have BK104 := n3_; have HB := n4_; clear n0_ n1_ n2_ n3_ n4_; (try clear hb); (try clear hk)) | (go_at_call 58; (with_reducible refine (impl_without.calls k4 _ _ x13_4 0 t149 _ ?side1 ?side2 A127.out).mono ?_); (case side1 => repeat (exact (Kd.S_reads' HO_13.out).2.2)); (case side2 => exact (Kd.S_reads' HO_13.out).2.1); rintro e w132 ⟨v150, rfl, ho0, hb⟩; have n0_ := A_ (Kd.R_below HO_9.out hb); have n1_ := A_ (Kd.S_elder' HO_13.out (Kd.S_base ho0) hb); have n2_ := A_ (Kd.S_lower (Kd.S_new' (Kd.S_new' ho0 (Kd.R_lt HO_9.out)) (Kd.S_lt HO_13.out)) (below_size HB.out)); have n3_ := A_ (blk_below BK101.out hb); have n4_ := A_ (blk_below BK104.out hb); have n5_ := A_ (bs_ HB.1 hb); clear HO_9 HO_13 BK101 BK104 HB; have HO_9 := n0_; have HO_13 := n1_; have HO151 := n2_; have BK101 := n3_; have BK104 := n4_; have HB := n5_; clear n0_ n1_ n2_ n3_ n4_ n5_; (try clear hb); (try clear hk); (try clear ho0); obtain ⟨Ao133, co133, eo133⟩ := Kd.S_slice HO151.out; subst eo133) | (go_at_call 57; (with_reducible refine (impl_determinant.calls k4 _ _ t149 t152 _ ?side1 ?side2 A128.out).mono ?_); (case side1 => repeat (exact (Kd.S_reads' HO151.out).2.2)); (case side2 => exact (Kd.S_reads' HO151.out).2.1); rintro e w134 ⟨rfl, hb⟩; have n0_ := A_ (Kd.R_below HO_9.out hb); have n1_ := A_ (Kd.S_below HO_13.out hb); have n2_ := A_ (Kd.S_below HO151.out hb); have n3_ := A_ (blk_below BK101.out hb); have n4_ := A_ (blk_below BK104.out hb); have n5_ := A_ (bs_ HB.1 hb); clear HO_9 HO_13 HO151 BK101 BK104 HB; have HO_9 := n0_; have HO_13 := n1_; have HO151 := n2_; have BK101 := n3_; have BK104 := n4_; have HB := n5_; clear n0_ n1_ n2_ n3_ n4_ n5_; (try clear hb); (try clear hk)))
              repeat (go_quiet (fail); try go_wp2_with (fail))
              go_ret
              exact ⟨by rfl, by repeat ((with_reducible exact HB.out))⟩

end Go.Proofs.Ytoohcdfokejkdaa.P
namespace Go.Proofs.Ytoohcdfokejkdaa.P
open Go.RowKit Go.Proofs.YtoohcdfokejkdaaW.PrintWords Go.Proofs.YtoohcdfokejkdaaW.PrintLast Go.Proofs.YtoohcdfokejkdaaW.PrintMore
attribute [local go_sem] max2_int min2_int max_two min_two max_three min_three max_four min_four   -- for this text's walks alone
set_option linter.unusedVariables false
set_option linter.unusedSimpArgs false

def impl_NumberOf.l0 : Nat → Int → Int → Int → Int → Int → Int → Int → Option (Int)
 | 0, _, _, _, _, _, _, _ => none
 | k + 1, x3, x4, x5, x6, x102000, x102001, x102002 => (impl_CountGaps.f x102000 x102001).bind fun t103 => (if x6 < t103 then ((impl_isOpen.f x102000 x102001 x102002 x6).bind fun t104 => (if t104 = true then (if 0 ≤ x6 then ((impl_CountFixed.f k x102000 x102001 x4 (Go.bits .or .i64 x5 (shl .i64 1 x6))).bind fun t105 => (impl_NumberOf.l0 k (wrap64 (x3 + t105)) (Go.bits .or .i64 x4 (shl .i64 1 x6)) x5 (wrap64 (x6 + 1)) x102000 x102001 x102002)) else (none)) else (if 0 ≤ x6 then (impl_NumberOf.l0 k x3 x4 (Go.bits .or .i64 x5 (shl .i64 1 x6)) (wrap64 (x6 + 1)) x102000 x102001 x102002) else (none)))) else (some x3))
def impl_NumberOf.f (k : Nat) (a0_0 : Int) (a0_1 : Int) (a0_2 : Int) : Option (Int) := (impl_IsPerfect.f k a0_0 a0_1 a0_2).bind fun t102 => (if t102 = true then (impl_NumberOf.l0 k 0 0 0 0 a0_0 a0_1 a0_2) else (some (-1)))
def impl_NumberOf.T8 : Bool × List (List Nat × List Nat) := (true, [([], []), ([], []), ([1], [1]), ([], []), ([], []), ([], []), ([5], [5]), ([4, 6], [4, 6]), ([2, 3, 7], [2, 3, 7]), ([0, 8], [0, 8]), ([9, 8, 0, 1, 2, 3, 4, 5, 6, 7, 8, 9], [0, 9])])
def impl_NumberOf.B8 : List Nat := [0, 0, 2, 0, 0, 0, 32, 112, 254, 511, 1023]
theorem impl_NumberOf.tab8 : rtab .any (opsOf Try.f43 8) = impl_NumberOf.T8 := by kernel_rfl
theorem impl_NumberOf.bits8 : waitsOk impl_NumberOf.T8.2 impl_NumberOf.B8 = true := by kernel_rfl
set_option maxHeartbeats 8000000 in
set_option maxRecDepth 100000 in
theorem impl_NumberOf.calls (k : Nat) (a0_0 : Int) (a0_1 : Int) (a0_2 : Int) (r : Int) (w : World) (h : impl_NumberOf.f k a0_0 a0_1 a0_2 = some r) :
  Calls Try.prog 43 #[.agg #[.int .i64 a0_0, .int .i64 a0_1, .int .i64 a0_2]] w fun e w' => e = .returned (.int .i64 r) ∧ Below w.heap.size w w' := by
 have hu42 := Try.underlying42
 have hu40 := Try.underlying40
 have HB := A_ (Below.refl w.heap.size w)
 have H : ((impl_IsPerfect.f k a0_0 a0_1 a0_2).bind fun t102 => (if t102 = true then (impl_NumberOf.l0 k 0 0 0 0 a0_0 a0_1 a0_2) else (some (-1)))) = some r := h
 clear h
 obtain ⟨t102, A20, H⟩ := oB_ H
 (try dsimp only at H); have A2 := A_ A20; clear A20
 by_cases c3 : t102 = true
 ·subst c3
  rw [if_pos rfl] at H
  have H' := A_ H
  clear H
  go_enter Try.func43, Try.ntmps43
  go_wp2_with (first | ((with_reducible refine gate_dst (N := 1) rfl ?_); refine be_ 1 #[.int .i64 a0_0, .int .i64 a0_1, .int .i64 a0_2] 42 ?_; intro gb101 hg w4 hbox hb; have n0_ := A_ (bs_ HB.1 hb); have n1_ := A_ (hbox); have n2_ := A_ (bS_ HB.out hg); have n3_ := A_ (bS_ HB.out hg); clear HB; have HB := n0_; have BK101 := n1_; have GW101 := n2_; have GE101 := n3_; clear n0_ n1_ n2_ n3_ hb hbox hg; obtain ⟨hcz5_0, hcz5_1, hcz5_2⟩ := kk3_ BK101.1; have hfz5_0 := bf_ BK101.out 0; have hfz5_1 := bf_ BK101.out 1; have hfz5_2 := bf_ BK101.out 2) | ((with_reducible refine gate_callee (f := 51) rfl ?_); refine gl_ 8 Try.func51 #[.agg #[.int .i64 a0_0, .int .i64 a0_1, .int .i64 a0_2]] ?_; (with_reducible refine (impl_IsPerfect.calls k a0_0 a0_1 a0_2 true _ A2.out).mono ?_); rintro e w6 ⟨rfl, hb⟩; refine ⟨_, rfl, ?_⟩; have n0_ := A_ (blk_below BK101.out hb); have n1_ := A_ (bs_ HB.1 hb); clear BK101 HB; have BK101 := n0_; have HB := n1_; clear n0_ n1_; (try clear hb); (try clear hk)))
  go_loopg [3, 4, 5, 6] k (fun kq v3 v4 v5 v6 w' => ∃ (x3_1 : Int) (x4_1 : Int) (x5_1 : Int) (x6_1 : Int), v3 = .int .i64 x3_1 ∧ v4 = .int .i64 x4_1 ∧ v5 = .int .i64 x5_1 ∧ v6 = .int .i64 x6_1 ∧ Aside0 (impl_NumberOf.l0 kq x3_1 x4_1 x5_1 x6_1 a0_0 a0_1 a0_2 = some r) ∧ Aside0 (kq ≤ k) ∧ Aside0 (w'.heap[gb101]? = some (.cells #[.int .i64 a0_0, .int .i64 a0_1, .int .i64 a0_2] 42 (0, 0))) ∧ Aside0 (Below w.heap.size w w'))
  case atStart => exact ⟨(0), (0), (0), (0), (by rfl), (by rfl), (by rfl), (by rfl), H', ⟨Nat.le_refl _⟩, ⟨by exact BK101.out⟩, ⟨by repeat ((with_reducible exact HB.out))⟩⟩
  case round =>
   clear H'; try clear p2; try clear c3; try clear c4; try clear c5; try clear hcz5_0; try clear hcz5_1; try clear hcz5_2; try clear hfz5_0; try clear hfz5_1; try clear hfz5_2
   obtain ⟨x3_1, x4_1, x5_1, x6_1, rfl, rfl, rfl, rfl, HA, HK1, BK101, HB⟩ := hrel
   cases gk with
   | zero => exact absurd HA.out (by simp [impl_NumberOf.l0])
   | succ k1 =>
    have H := HA.out
    clear HA
    simp only [impl_NumberOf.l0] at H
    obtain ⟨t103, A70, H⟩ := oB_ H
    (try dsimp only at H); have A7 := A_ A70; clear A70
    by_cases c8 : x6_1 < t103
    ·rw [if_pos c8] at H
     have c8b0 : decide (x6_1 < t103) = true := decide_eq_true c8
     clear c8
     obtain ⟨t104, A90, H⟩ := oB_ H
     (try dsimp only at H); have A9 := A_ A90; clear A90
     by_cases c10 : t104 = true
     ·subst c10
      rw [if_pos rfl] at H
      replace H := iN_ H; obtain ⟨c11, H⟩ := H
      have c11b0 := eq_true c11
      have c11b1 : decide (0 ≤ x6_1) = true := decide_eq_true c11
      clear c11
      obtain ⟨ji12, hji12⟩ : ∃ j_ : Int, (shl .i64 1 x6_1) = j_ := ⟨_, rfl⟩
      replace H : ((impl_CountFixed.f k1 a0_0 a0_1 x4_1 (Go.bits .or .i64 x5_1 (ji12))).bind fun t105 => (impl_NumberOf.l0 k1 (wrap64 (x3_1 + t105)) (Go.bits .or .i64 x4_1 (ji12)) x5_1 (wrap64 (x6_1 + 1)) a0_0 a0_1 a0_2)) = some r := by (rw [hji12] at H; exact H)
      (try rw [hji12] at A7)
      (try rw [hji12] at A9)
      have hji12_ : (IntKind.i64.wrap (1 * 2 ^ min x6_1.toNat 64)) = ji12 := hji12
      have hji12z : x6_1 ≤ 64 → (IntKind.i64.wrap (1 * 2 ^ x6_1.toNat)) = ji12 := shl_small hji12
      have hji12u : (IntKind.i64.wrap (2 ^ min x6_1.toNat 64)) = ji12 := by have h_ := hji12_; rw [Int.one_mul] at h_; exact h_
      have hji12v : x6_1 ≤ 64 → (IntKind.i64.wrap (2 ^ x6_1.toNat)) = ji12 := fun hle_ => by have h_ := hji12z hle_; rw [Int.one_mul] at h_; exact h_
      have hji12y : (wrap64 (1 * 2 ^ min x6_1.toNat 64)) = ji12 := (i64_w _).symm.trans hji12_
      have hji12x : x6_1 ≤ 64 → (wrap64 (1 * 2 ^ x6_1.toNat)) = ji12 := fun h_ => (i64_w _).symm.trans (hji12z h_)
      obtain ⟨t105, A130, H⟩ := oB_ H
      (try dsimp only at H); have A13 := A_ A130; clear A130
      have c14b0 := eq_true (oD_ : 0 ≤ x6_1)
      have H' := A_ H
      clear H
      obtain ⟨hcz15_0, hcz15_1, hcz15_2⟩ := kk3_ BK101.1
      have hfz15_0 := bf_ BK101.out 0
      have hfz15_1 := bf_ BK101.out 1
      have hfz15_2 := bf_ BK101.out 2
      try go_wp2_with (first | ((with_reducible refine gate_callee (f := 78) rfl ?_); refine gl_ 13 Try.func78 #[.agg #[.int .i64 a0_0, .int .i64 a0_1]] ?_; (with_reducible refine (impl_CountGaps.calls a0_0 a0_1 t103 _ A7.out).mono ?_); rintro e w16 ⟨rfl, hb⟩; refine ⟨_, rfl, ?_⟩; have n0_ := A_ (blk_below BK101.out hb); have n1_ := A_ (bs_ HB.1 hb); clear BK101 HB; have BK101 := n0_; have HB := n1_; clear n0_ n1_; (try clear hb); (try clear hk); obtain ⟨hcz17_0, hcz17_1, hcz17_2⟩ := kk3_ BK101.1; have hfz17_0 := bf_ BK101.out 0; have hfz17_1 := bf_ BK101.out 1; have hfz17_2 := bf_ BK101.out 2) | ((with_reducible refine gate_callee (f := 88) rfl ?_); refine gl_ 19 Try.func88 #[.agg #[.int .i64 a0_0, .int .i64 a0_1, .int .i64 a0_2], .int .i64 x6_1] ?_; (with_reducible refine (impl_isOpen.calls a0_0 a0_1 a0_2 x6_1 true _ A9.out).mono ?_); rintro e w18 ⟨rfl, hb⟩; refine ⟨_, rfl, ?_⟩; have n0_ := A_ (blk_below BK101.out hb); have n1_ := A_ (bs_ HB.1 hb); clear BK101 HB; have BK101 := n0_; have HB := n1_; clear n0_ n1_; (try clear hb); (try clear hk)))
      have n0_ := A_ (blk_drew BK101.out); have n1_ := A_ (below_drew1 HB.out); clear BK101 HB; have BK101 := n0_; have HB := n1_; clear n0_ n1_
      refine start_ (n := 11) (S := fun w' => w'.cell? ⟨gb101, 0, none⟩ = some (.int .i64 a0_0) ∧ w'.cell? ⟨gb101, 1, none⟩ = some (.int .i64 a0_1) ∧ w'.cell? ⟨gb101, 2, none⟩ = some (.int .i64 a0_2)) (ds := []) #[false, false, false, false, false, false, false, false, false, false, false] (by kernel_rfl) rfl rfl ⟨(blk_cell BK101.out 0).trans rfl, (blk_cell BK101.out 1).trans rfl, (blk_cell BK101.out 2).trans rfl⟩ (fun hHeld => ?_); refine with_tabW impl_NumberOf.tab8 impl_NumberOf.bits8 (fun HT_ HW_ => ?_)
      generalize w18.drew = w19 at BK101 HB hHeld ⊢; refine pv_ 0 20 HT_ ?_; refine pv_ 1 21 HT_ ?_; refine pv_ 3 23 HT_ ?_; refine pv_ 4 24 HT_ ?_; refine pv_ 5 25 HT_ ?_; refine pv_ 6 26 HT_ ?_; refine pv_ 7 27 HT_ ?_; refine tv_ 2 22 rfl HT_ HW_ hHeld (by rintro w' ⟨s0, s1, s2⟩; go_simp; with_reducible rfl) ?_
      refine on_ 8 (some 28) rfl rfl HT_ (by kernel_rfl) (by decide) (fun K hK => ?_)
      refine gs_ Try.func34 #[.agg #[.int .i64 a0_0, .int .i64 a0_1], .int .i64 x4_1, .int .i64 (Go.bits .or .i64 x5_1 (ji12))] ?_
      with_reducible refine (impl_CountFixed.calls k1 a0_0 a0_1 x4_1 (Go.bits .or .i64 x5_1 (ji12)) t105 _ A13.out).mono ?_
      rintro e w20 ⟨rfl, hb⟩
      refine ⟨_, rfl, ?_⟩
      have n0_ := A_ (blk_below BK101.out hb)
      have n1_ := A_ (bs_ HB.1 hb)
      clear BK101 HB; have BK101 := n0_; have HB := n1_; clear n0_ n1_; (try clear hb); (try clear hk)
      refine hK.out _ _ ⟨(blk_cell BK101.out 0).trans rfl, (blk_cell BK101.out 1).trans rfl, (blk_cell BK101.out 2).trans rfl⟩ (fun hHeld => ?_)
      clear hK K
      refine norm_ (a' := ?_) ?_ ?_; rotate_left; (show Act.put _ (some 28) _ = _; simp only [P6_]; rfl)
      refine pv_ 9 29 HT_ ?_; refine pv_ 10 3 HT_ ?_
      refine done_ (done_of HT_.out (by kernel_rfl)) ?_
      try go_wp2
      go_roundg k1
      case measure => have := HK1.out; omega
      case rel => exact ⟨(wrap64 (x3_1 + t105)), (Go.bits .or .i64 x4_1 (ji12)), (x5_1), (wrap64 (x6_1 + 1)), (by rfl), (by rfl), (by rfl), (by rfl), H', ⟨by have := HK1.out; omega⟩, ⟨by exact BK101.out⟩, ⟨by repeat ((with_reducible exact HB.out))⟩⟩
     ·replace c10 := Bool.eq_false_iff.mpr c10
      subst c10
      have H1 : (if 0 ≤ x6_1 then (impl_NumberOf.l0 k1 x3_1 x4_1 (Go.bits .or .i64 x5_1 (shl .i64 1 x6_1)) (wrap64 (x6_1 + 1)) a0_0 a0_1 a0_2) else (none)) = some r := by rw [if_neg (show ¬ (false = true) by decide)] at H; exact H
      clear H
      have H := H1
      clear H1
      replace H := iN_ H; obtain ⟨c21, H⟩ := H
      have c21b0 := eq_true c21
      have c21b1 : decide (0 ≤ x6_1) = true := decide_eq_true c21
      clear c21
      obtain ⟨ji22, hji22⟩ : ∃ j_ : Int, (shl .i64 1 x6_1) = j_ := ⟨_, rfl⟩
      replace H : (impl_NumberOf.l0 k1 x3_1 x4_1 (Go.bits .or .i64 x5_1 (ji22)) (wrap64 (x6_1 + 1)) a0_0 a0_1 a0_2) = some r := by (rw [hji22] at H; exact H)
      (try rw [hji22] at A7)
      (try rw [hji22] at A9)
      have hji22_ : (IntKind.i64.wrap (1 * 2 ^ min x6_1.toNat 64)) = ji22 := hji22
      have hji22z : x6_1 ≤ 64 → (IntKind.i64.wrap (1 * 2 ^ x6_1.toNat)) = ji22 := shl_small hji22
      have hji22u : (IntKind.i64.wrap (2 ^ min x6_1.toNat 64)) = ji22 := by have h_ := hji22_; rw [Int.one_mul] at h_; exact h_
      have hji22v : x6_1 ≤ 64 → (IntKind.i64.wrap (2 ^ x6_1.toNat)) = ji22 := fun hle_ => by have h_ := hji22z hle_; rw [Int.one_mul] at h_; exact h_
      have hji22y : (wrap64 (1 * 2 ^ min x6_1.toNat 64)) = ji22 := (i64_w _).symm.trans hji22_
      have hji22x : x6_1 ≤ 64 → (wrap64 (1 * 2 ^ x6_1.toNat)) = ji22 := fun h_ => (i64_w _).symm.trans (hji22z h_)
      have H' := A_ H
      clear H
      obtain ⟨hcz23_0, hcz23_1, hcz23_2⟩ := kk3_ BK101.1
      have hfz23_0 := bf_ BK101.out 0
      have hfz23_1 := bf_ BK101.out 1
      have hfz23_2 := bf_ BK101.out 2
      go_wp2_with (first | ((with_reducible refine gate_callee (f := 78) rfl ?_); refine gl_ 13 Try.func78 #[.agg #[.int .i64 a0_0, .int .i64 a0_1]] ?_; (with_reducible refine (impl_CountGaps.calls a0_0 a0_1 t103 _ A7.out).mono ?_); rintro e w24 ⟨rfl, hb⟩; refine ⟨_, rfl, ?_⟩; have n0_ := A_ (blk_below BK101.out hb); have n1_ := A_ (bs_ HB.1 hb); clear BK101 HB; have BK101 := n0_; have HB := n1_; clear n0_ n1_; (try clear hb); (try clear hk); obtain ⟨hcz25_0, hcz25_1, hcz25_2⟩ := kk3_ BK101.1; have hfz25_0 := bf_ BK101.out 0; have hfz25_1 := bf_ BK101.out 1; have hfz25_2 := bf_ BK101.out 2) | ((with_reducible refine gate_callee (f := 88) rfl ?_); refine gl_ 19 Try.func88 #[.agg #[.int .i64 a0_0, .int .i64 a0_1, .int .i64 a0_2], .int .i64 x6_1] ?_; (with_reducible refine (impl_isOpen.calls a0_0 a0_1 a0_2 x6_1 false _ A9.out).mono ?_); rintro e w26 ⟨rfl, hb⟩; refine ⟨_, rfl, ?_⟩; have n0_ := A_ (blk_below BK101.out hb); have n1_ := A_ (bs_ HB.1 hb); clear BK101 HB; have BK101 := n0_; have HB := n1_; clear n0_ n1_; (try clear hb); (try clear hk)))
      go_roundg k1
      case measure => have := HK1.out; omega
      case rel => exact ⟨(x3_1), (x4_1), (Go.bits .or .i64 x5_1 (ji22)), (wrap64 (x6_1 + 1)), (by rfl), (by rfl), (by rfl), (by rfl), H', ⟨by have := HK1.out; omega⟩, ⟨by exact BK101.out⟩, ⟨by repeat ((with_reducible exact HB.out))⟩⟩
    ·rw [if_neg c8] at H
     have c8b0 : decide (x6_1 < t103) = false := decide_eq_false c8
     clear c8
     obtain rfl := Option.some.inj H
     obtain ⟨hcz27_0, hcz27_1, hcz27_2⟩ := kk3_ BK101.1
     have hfz27_0 := bf_ BK101.out 0
     have hfz27_1 := bf_ BK101.out 1
     have hfz27_2 := bf_ BK101.out 2
     go_wp2_with (((with_reducible refine gate_callee (f := 78) rfl ?_); refine gl_ 13 Try.func78 #[.agg #[.int .i64 a0_0, .int .i64 a0_1]] ?_; (with_reducible refine (impl_CountGaps.calls a0_0 a0_1 t103 _ A7.out).mono ?_); rintro e w28 ⟨rfl, hb⟩; refine ⟨_, rfl, ?_⟩; have n0_ := A_ (blk_below BK101.out hb); have n1_ := A_ (bs_ HB.1 hb); clear BK101 HB; have BK101 := n0_; have HB := n1_; clear n0_ n1_; (try clear hb); (try clear hk)))
     go_ret
     exact ⟨by rfl, by repeat ((with_reducible exact HB.out))⟩
 ·replace c3 := Bool.eq_false_iff.mpr c3
  subst c3
  have H1 : (some (-1)) = some r := by rw [if_neg (show ¬ (false = true) by decide)] at H; exact H
  clear H
  have H := H1
  clear H1
  obtain rfl := Option.some.inj H
  go_enter Try.func43, Try.ntmps43
  go_wp2_with (first | ((with_reducible refine gate_dst (N := 1) rfl ?_); refine be_ 1 #[.int .i64 a0_0, .int .i64 a0_1, .int .i64 a0_2] 42 ?_; intro gb101 hg w29 hbox hb; have n0_ := A_ (bs_ HB.1 hb); have n1_ := A_ (hbox); have n2_ := A_ (bS_ HB.out hg); have n3_ := A_ (bS_ HB.out hg); clear HB; have HB := n0_; have BK101 := n1_; have GW101 := n2_; have GE101 := n3_; clear n0_ n1_ n2_ n3_ hb hbox hg; obtain ⟨hcz30_0, hcz30_1, hcz30_2⟩ := kk3_ BK101.1; have hfz30_0 := bf_ BK101.out 0; have hfz30_1 := bf_ BK101.out 1; have hfz30_2 := bf_ BK101.out 2) | ((with_reducible refine gate_callee (f := 51) rfl ?_); refine gl_ 8 Try.func51 #[.agg #[.int .i64 a0_0, .int .i64 a0_1, .int .i64 a0_2]] ?_; (with_reducible refine (impl_IsPerfect.calls k a0_0 a0_1 a0_2 false _ A2.out).mono ?_); rintro e w31 ⟨rfl, hb⟩; refine ⟨_, rfl, ?_⟩; have n0_ := A_ (blk_below BK101.out hb); have n1_ := A_ (bs_ HB.1 hb); clear BK101 HB; have BK101 := n0_; have HB := n1_; clear n0_ n1_; (try clear hb); (try clear hk)))
  go_ret
  exact ⟨by rfl, by repeat ((with_reducible exact HB.out))⟩

def impl_CountAll.f (k : Nat) (a0_0 : Int) (a0_1 : Int) : Option (Int) := (impl_CountFixed.f k a0_0 a0_1 0 0).bind fun t102 => (some t102)
set_option maxHeartbeats 8000000 in
set_option maxRecDepth 100000 in
theorem impl_CountAll.calls (k : Nat) (a0_0 : Int) (a0_1 : Int) (r : Int) (w : World) (h : impl_CountAll.f k a0_0 a0_1 = some r) :
  Calls Try.prog 40 #[.agg #[.int .i64 a0_0, .int .i64 a0_1]] w fun e w' => e = .returned (.int .i64 r) ∧ Below w.heap.size w w' := by
 have hu40 := Try.underlying40
 have HB := A_ (Below.refl w.heap.size w)
 have H : ((impl_CountFixed.f k a0_0 a0_1 0 0).bind fun t102 => (some t102)) = some r := h
 clear h
 obtain ⟨t102, A20, H⟩ := oB_ H
 (try dsimp only at H); have A2 := A_ A20; clear A20
 obtain rfl := Option.some.inj H
 go_enter Try.func40, Try.ntmps40
 go_wp2_with (first | ((with_reducible refine gate_dst (N := 1) rfl ?_); refine be_ 1 #[.int .i64 a0_0, .int .i64 a0_1] 40 ?_; intro gb101 hg w3 hbox hb; have n0_ := A_ (bs_ HB.1 hb); have n1_ := A_ (hbox); have n2_ := A_ (bS_ HB.out hg); have n3_ := A_ (bS_ HB.out hg); clear HB; have HB := n0_; have BK101 := n1_; have GW101 := n2_; have GE101 := n3_; clear n0_ n1_ n2_ n3_ hb hbox hg; obtain ⟨hcz4_0, hcz4_1⟩ := kk2_ BK101.1; have hfz4_0 := bf_ BK101.out 0; have hfz4_1 := bf_ BK101.out 1) | ((with_reducible refine gate_callee (f := 34) rfl ?_); refine gl_ 4 Try.func34 #[.agg #[.int .i64 a0_0, .int .i64 a0_1], .int .i64 0, .int .i64 0] ?_; (with_reducible refine (impl_CountFixed.calls k a0_0 a0_1 0 0 t102 _ A2.out).mono ?_); rintro e w5 ⟨rfl, hb⟩; refine ⟨_, rfl, ?_⟩; have n0_ := A_ (blk_below BK101.out hb); have n1_ := A_ (bs_ HB.1 hb); clear BK101 HB; have BK101 := n0_; have HB := n1_; clear n0_ n1_; (try clear hb); (try clear hk)))
 go_ret
 exact ⟨by rfl, by repeat ((with_reducible exact HB.out))⟩

end Go.Proofs.Ytoohcdfokejkdaa.P
namespace Go.Proofs.Ytoohcdfokejkdaa.P
open Go.RowKit Go.Proofs.YtoohcdfokejkdaaW.PrintWords Go.Proofs.YtoohcdfokejkdaaW.PrintLast Go.Proofs.YtoohcdfokejkdaaW.PrintMore
attribute [local go_sem] max2_int min2_int max_two min_two max_three min_three max_four min_four   -- for this text's walks alone
set_option linter.unusedVariables false
set_option linter.unusedSimpArgs false

mutual
def impl_MazeAt.j0 : Nat → Int → Bool → Int → Int → Option (Int × Int × Int × Bool)
 | 0, _, _, _, _ => none
 | k + 1, x1, x17, x102000, x102001 => if x17 = true then (some (0, 0, 0, false)) else (impl_MazeAt.l0 k x1 0 0 0 x102000 x102001)
def impl_MazeAt.l0 : Nat → Int → Int → Int → Int → Int → Int → Option (Int × Int × Int × Bool)
 | 0, _, _, _, _, _, _ => none
 | k + 1, x1, x6, x7, x8, x102000, x102001 => (impl_CountGaps.f x102000 x102001).bind fun t104 => (if x8 < t104 then (if 0 ≤ x8 then ((impl_CountFixed.f k x102000 x102001 x6 (Go.bits .or .i64 x7 (shl .i64 1 x8))).bind fun t105 => (if x1 ≥ t105 then (impl_MazeAt.l0 k (wrap64 (x1 - t105)) (Go.bits .or .i64 x6 (shl .i64 1 x8)) x7 (wrap64 (x8 + 1)) x102000 x102001) else (impl_MazeAt.l0 k x1 x6 (Go.bits .or .i64 x7 (shl .i64 1 x8)) (wrap64 (x8 + 1)) x102000 x102001))) else (none)) else (some (x102000, x102001, x6, true)))
end
def impl_MazeAt.f (k : Nat) (a0_0 : Int) (a0_1 : Int) (a1 : Int) : Option (Int × Int × Int × Bool) := if a1 < 0 then (impl_MazeAt.j0 k a1 true a0_0 a0_1) else ((impl_CountAll.f k a0_0 a0_1).bind fun t103 => (impl_MazeAt.j0 k a1 (decide (a1 ≥ t103)) a0_0 a0_1))
def impl_MazeAt.T7 : Bool × List (List Nat × List Nat) := (true, [([], []), ([], []), ([], []), ([], []), ([3], [3]), ([2, 4], [2, 4]), ([0, 1, 5], [0, 1, 5]), ([6, 6, 0, 1, 2, 3, 4, 5, 6], [6])])
def impl_MazeAt.B7 : List Nat := [0, 0, 0, 0, 8, 28, 63, 127]
theorem impl_MazeAt.tab7 : rtab .any (opsOf Try.f44 7) = impl_MazeAt.T7 := by kernel_rfl
theorem impl_MazeAt.bits7 : waitsOk impl_MazeAt.T7.2 impl_MazeAt.B7 = true := by kernel_rfl
set_option maxHeartbeats 8000000 in
set_option maxRecDepth 100000 in
theorem impl_MazeAt.calls (k : Nat) (a0_0 : Int) (a0_1 : Int) (a1 : Int) (r1 : Int) (r2 : Int) (r3 : Int) (r4 : Bool) (w : World) (h : impl_MazeAt.f k a0_0 a0_1 a1 = some (r1, r2, r3, r4)) :
  Calls Try.prog 44 #[.agg #[.int .i64 a0_0, .int .i64 a0_1], .int .i64 a1] w fun e w' => e = .returned (.tuple #[.agg #[.int .i64 r1, .int .i64 r2, .int .i64 r3], .bool r4]) ∧ Below w.heap.size w w' := by
 have hu40 := Try.underlying40
 have hu42 := Try.underlying42
 have HB := A_ (Below.refl w.heap.size w)
 have H : (if a1 < 0 then (impl_MazeAt.j0 k a1 true a0_0 a0_1) else ((impl_CountAll.f k a0_0 a0_1).bind fun t103 => (impl_MazeAt.j0 k a1 (decide (a1 ≥ t103)) a0_0 a0_1))) = some (r1, r2, r3, r4) := h
 clear h
 have HC3 := A_ H
 clear H
 go_enter Try.func44, Try.ntmps44
 go_upto_region 1 with (first | ((with_reducible refine gate_dst (N := 2) rfl ?_); refine be_ 2 #[.int .i64 a0_0, .int .i64 a0_1] 40 ?_; intro gb101 hg w4 hbox hb; have n0_ := A_ (bs_ HB.1 hb); have n1_ := A_ (hbox); have n2_ := A_ (bS_ HB.out hg); have n3_ := A_ (bS_ HB.out hg); clear HB; have HB := n0_; have BK101 := n1_; have GW101 := n2_; have GE101 := n3_; clear n0_ n1_ n2_ n3_ hb hbox hg) | ((with_reducible refine gate_dst (N := 4) rfl ?_); refine be_ 4 #[.int .i64 0, .int .i64 0, .int .i64 0] 42 ?_; intro gb102 hg w5 hbox hb; have n0_ := A_ (blk_below BK101.out hb); have n1_ := A_ (bs_ HB.1 hb); have n2_ := A_ (hbox); have n3_ := A_ (bS_ HB.out hg); have n4_ := A_ (bS_ HB.out hg); have n5_ := A_ ((by rw [hg]; exact Nat.ne_of_lt (blk_lt (g := gb101) (o := .cells #[.int .i64 a0_0, .int .i64 a0_1] 40 (0, 0)) BK101.out) : gb101 ≠ gb102)); have n6_ := A_ ((by rw [hg]; exact Nat.ne_of_gt (blk_lt (g := gb101) (o := .cells #[.int .i64 a0_0, .int .i64 a0_1] 40 (0, 0)) BK101.out) : gb102 ≠ gb101)); clear BK101 HB; have BK101 := n0_; have HB := n1_; have BK102 := n2_; have GW102 := n3_; have GE102 := n4_; have NB101_102 := n5_; have NB102_101 := n6_; clear n0_ n1_ n2_ n3_ n4_ n5_ n6_ hb hbox hg))
 (try simp only [Act.put, List.setIfInBounds_toArray, List.set_cons_zero, List.set_cons_succ])
 go_cut [17] (fun v17 wc => ∃ (kq : Nat) (x17_2 : Bool), v17 = .bool x17_2 ∧ Aside0 (impl_MazeAt.j0 kq a1 x17_2 a0_0 a0_1 = some (r1, r2, r3, r4)) ∧ Aside0 (kq ≤ k) ∧ Aside0 (wc.heap[gb101]? = some (.cells #[.int .i64 a0_0, .int .i64 a0_1] 40 (0, 0))) ∧ Aside0 (wc.heap[gb102]? = some (.cells #[.int .i64 0, .int .i64 0, .int .i64 0] 42 (0, 0))) ∧ Aside0 (Below w.heap.size w wc))
 case first =>
  have H := HC3.out
  clear HC3
  by_cases c6 : a1 < 0
  ·rw [if_pos c6] at H
   have c6b0 : decide (a1 < 0) = true := decide_eq_true c6
   clear c6
   (skip)
   have H' := A_ H
   clear H
   go_wp2
   go_meet
   case rel => exact ⟨_, (true), (by rfl), H', ⟨by omega⟩, ⟨by exact BK101.out⟩, ⟨by exact BK102.out⟩, ⟨by repeat ((with_reducible exact HB.out))⟩⟩
  ·rw [if_neg c6] at H
   have c6b0 : decide (a1 < 0) = false := decide_eq_false c6
   clear c6
   (skip)
   obtain ⟨t103, A70, H⟩ := oB_ H
   (try dsimp only at H); have A7 := A_ A70; clear A70
   have H' := A_ H
   clear H
   have hnb8 := NB101_102.out
   have hnc8 := NB102_101.out
   obtain ⟨hcz9_0, hcz9_1⟩ := kk2_ BK101.1
   have hfz9_0 := bf_ BK101.out 0
   have hfz9_1 := bf_ BK101.out 1
   go_wp2_with ((go_at_call 40; (with_reducible refine (impl_CountAll.calls k a0_0 a0_1 t103 _ A7.out).mono ?_); rintro e w10 ⟨rfl, hb⟩; have n0_ := A_ (blk_below BK101.out hb); have n1_ := A_ (blk_below BK102.out hb); have n2_ := A_ (bs_ HB.1 hb); clear BK101 BK102 HB; have BK101 := n0_; have BK102 := n1_; have HB := n2_; clear n0_ n1_ n2_; (try clear hb); (try clear hk)))
   go_meet
   case rel => exact ⟨_, (decide (a1 ≥ t103)), (by rfl), H', ⟨by omega⟩, ⟨by exact BK101.out⟩, ⟨by exact BK102.out⟩, ⟨by repeat ((with_reducible exact HB.out))⟩⟩
 case rest =>
  clear HC3; try clear p2; try clear c4; try clear c6; try clear c6b0; try clear c8; try clear hcz9_0; try clear hcz9_1; try clear hfz9_0; try clear hfz9_1
  obtain ⟨kq, x17_2, rfl, HA, HJ2, BK101, BK102, HB⟩ := hcut
  cases kq with
  | zero => exact absurd HA.out (by simp [impl_MazeAt.j0])
  | succ kj2 =>
   have H := HA.out
   clear HA
   simp only [impl_MazeAt.j0] at H
   by_cases c11 : x17_2 = true
   ·subst c11
    rw [if_pos rfl] at H
    simp only [Option.some.injEq, Prod.mk.injEq] at H
    obtain ⟨rfl, rfl, rfl, rfl⟩ := H
    have hnb12 := NB102_101.out
    have hnc12 := NB101_102.out
    obtain ⟨hcz13_0, hcz13_1, hcz13_2⟩ := kk3_ BK102.1
    have hfz13_0 := bf_ BK102.out 0
    have hfz13_1 := bf_ BK102.out 1
    have hfz13_2 := bf_ BK102.out 2
    go_wp2
    refine bodyPost_ret (results_ct rfl _ _ gb102 42 #[.int .i64 0, .int .i64 0, .int .i64 0] (0, 0) _ rfl (by refine blk_put (cs := #[.int .i64 0, .int .i64 0, .int .i64 0]) ?_ 2 _ rfl; refine blk_put (cs := #[.int .i64 0, .int .i64 0, .int .i64 0]) ?_ 1 _ rfl; refine blk_put (cs := #[.int .i64 0, .int .i64 0, .int .i64 0]) ?_ 0 _ rfl; exact BK102.out) Try.underlying42 rfl (by kernel_rfl)) rfl ?_
    exact ⟨by rfl, by repeat ((with_reducible first | exact HB.out | refine below_set ?_ GE102.out))⟩
   ·replace c11 := Bool.eq_false_iff.mpr c11
    subst c11
    have H1 : (impl_MazeAt.l0 kj2 a1 0 0 0 a0_0 a0_1) = some (r1, r2, r3, r4) := by rw [if_neg (show ¬ (false = true) by decide)] at H; exact H
    clear H
    have H := H1
    clear H1
    have H' := A_ H
    clear H
    go_wp2
    go_loopg [1, 6, 7, 8] kj2 (fun kq v1 v6 v7 v8 w' => ∃ (x1_2 : Int) (x6_2 : Int) (x7_2 : Int) (x8_2 : Int), v1 = .int .i64 x1_2 ∧ v6 = .int .i64 x6_2 ∧ v7 = .int .i64 x7_2 ∧ v8 = .int .i64 x8_2 ∧ Aside0 (impl_MazeAt.l0 kq x1_2 x6_2 x7_2 x8_2 a0_0 a0_1 = some (r1, r2, r3, r4)) ∧ Aside0 (kq ≤ kj2) ∧ Aside0 (w'.heap[gb101]? = some (.cells #[.int .i64 a0_0, .int .i64 a0_1] 40 (0, 0))) ∧ Aside0 (w'.heap[gb102]? = some (.cells #[.int .i64 0, .int .i64 0, .int .i64 0] 42 (0, 0))) ∧ Aside0 (Below w.heap.size w w'))
    case atStart => exact ⟨(a1), (0), (0), (0), (by rfl), (by rfl), (by rfl), (by rfl), H', ⟨Nat.le_refl _⟩, ⟨by exact BK101.out⟩, ⟨by exact BK102.out⟩, ⟨by repeat ((with_reducible exact HB.out))⟩⟩
    case round =>
     clear H'; try clear c1; try clear p2; try clear c4; try clear c6; try clear c6b0; try clear c8; try clear c11; try clear c12; try clear hcz13_0; try clear hcz13_1; try clear hcz13_2; try clear hcz9_0; try clear hcz9_1; try clear hfz13_0; try clear hfz13_1; try clear hfz13_2; try clear hfz9_0; try clear hfz9_1; try clear p2
     obtain ⟨x1_2, x6_2, x7_2, x8_2, rfl, rfl, rfl, rfl, HA, HK2, BK101, BK102, HB⟩ := hrel
     cases gk with
     | zero => exact absurd HA.out (by simp [impl_MazeAt.l0])
     | succ k2 =>
      have H := HA.out
      clear HA
      simp only [impl_MazeAt.l0] at H
      obtain ⟨t104, A140, H⟩ := oB_ H
      (try dsimp only at H); have A14 := A_ A140; clear A140
      by_cases c15 : x8_2 < t104
      ·rw [if_pos c15] at H
       have c15b0 : decide (x8_2 < t104) = true := decide_eq_true c15
       clear c15
       replace H := iN_ H; obtain ⟨c16, H⟩ := H
       have c16b0 := eq_true c16
       have c16b1 : decide (0 ≤ x8_2) = true := decide_eq_true c16
       clear c16
       obtain ⟨ji17, hji17⟩ : ∃ j_ : Int, (shl .i64 1 x8_2) = j_ := ⟨_, rfl⟩
       replace H : ((impl_CountFixed.f k2 a0_0 a0_1 x6_2 (Go.bits .or .i64 x7_2 (ji17))).bind fun t105 => (if x1_2 ≥ t105 then (impl_MazeAt.l0 k2 (wrap64 (x1_2 - t105)) (Go.bits .or .i64 x6_2 (ji17)) x7_2 (wrap64 (x8_2 + 1)) a0_0 a0_1) else (impl_MazeAt.l0 k2 x1_2 x6_2 (Go.bits .or .i64 x7_2 (ji17)) (wrap64 (x8_2 + 1)) a0_0 a0_1))) = some (r1, r2, r3, r4) := by (rw [hji17] at H; exact H)
       (try rw [hji17] at A14)
       have hji17_ : (IntKind.i64.wrap (1 * 2 ^ min x8_2.toNat 64)) = ji17 := hji17
       have hji17z : x8_2 ≤ 64 → (IntKind.i64.wrap (1 * 2 ^ x8_2.toNat)) = ji17 := shl_small hji17
       have hji17u : (IntKind.i64.wrap (2 ^ min x8_2.toNat 64)) = ji17 := by have h_ := hji17_; rw [Int.one_mul] at h_; exact h_
       have hji17v : x8_2 ≤ 64 → (IntKind.i64.wrap (2 ^ x8_2.toNat)) = ji17 := fun hle_ => by have h_ := hji17z hle_; rw [Int.one_mul] at h_; exact h_
       have hji17y : (wrap64 (1 * 2 ^ min x8_2.toNat 64)) = ji17 := (i64_w _).symm.trans hji17_
       have hji17x : x8_2 ≤ 64 → (wrap64 (1 * 2 ^ x8_2.toNat)) = ji17 := fun h_ => (i64_w _).symm.trans (hji17z h_)
       obtain ⟨t105, A180, H⟩ := oB_ H
       (try dsimp only at H); have A18 := A_ A180; clear A180
       by_cases c19 : x1_2 ≥ t105
       ·rw [if_pos c19] at H
        have c19b0 : decide (t105 ≤ x1_2) = true := decide_eq_true c19
        clear c19
        have c20b0 := eq_true (oD_ : 0 ≤ x8_2)
        have H' := A_ H
        clear H
        have hnb21 := NB101_102.out
        have hnc21 := NB102_101.out
        obtain ⟨hcz22_0, hcz22_1⟩ := kk2_ BK101.1
        have hfz22_0 := bf_ BK101.out 0
        have hfz22_1 := bf_ BK101.out 1
        try go_wp2_with (((with_reducible refine gate_callee (f := 78) rfl ?_); refine gl_ 21 Try.func78 #[.agg #[.int .i64 a0_0, .int .i64 a0_1]] ?_; (with_reducible refine (impl_CountGaps.calls a0_0 a0_1 t104 _ A14.out).mono ?_); rintro e w23 ⟨rfl, hb⟩; refine ⟨_, rfl, ?_⟩; have n0_ := A_ (blk_below BK101.out hb); have n1_ := A_ (blk_below BK102.out hb); have n2_ := A_ (bs_ HB.1 hb); clear BK101 BK102 HB; have BK101 := n0_; have BK102 := n1_; have HB := n2_; clear n0_ n1_ n2_; (try clear hb); (try clear hk)))
        have n0_ := A_ (blk_drew BK101.out); have n1_ := A_ (blk_drew BK102.out); have n2_ := A_ (below_drew1 HB.out); clear BK101 BK102 HB; have BK101 := n0_; have BK102 := n1_; have HB := n2_; clear n0_ n1_ n2_
        refine start_ (n := 8) (S := fun w' => w'.cell? ⟨gb101, 0, none⟩ = some (.int .i64 a0_0) ∧ w'.cell? ⟨gb101, 1, none⟩ = some (.int .i64 a0_1)) (ds := []) #[false, false, false, false, false, false, false, false] (by kernel_rfl) rfl rfl ⟨(blk_cell BK101.out 0).trans rfl, (blk_cell BK101.out 1).trans rfl⟩ (fun hHeld => ?_); refine with_tabW impl_MazeAt.tab7 impl_MazeAt.bits7 (fun HT_ HW_ => ?_)
        generalize w23.drew = w24 at BK101 BK102 HB hHeld ⊢; refine pv_ 1 26 HT_ ?_; refine pv_ 2 27 HT_ ?_; refine pv_ 3 28 HT_ ?_; refine pv_ 4 29 HT_ ?_; refine pv_ 5 30 HT_ ?_; refine tv_ 0 25 rfl HT_ HW_ hHeld (by rintro w' ⟨s0, s1⟩; go_simp; with_reducible rfl) ?_
        refine on_ 6 (some 31) rfl rfl HT_ (by kernel_rfl) (by decide) (fun K hK => ?_)
        refine gs_ Try.func34 #[.agg #[.int .i64 a0_0, .int .i64 a0_1], .int .i64 x6_2, .int .i64 (Go.bits .or .i64 x7_2 (ji17))] ?_
        with_reducible refine (impl_CountFixed.calls k2 a0_0 a0_1 x6_2 (Go.bits .or .i64 x7_2 (ji17)) t105 _ A18.out).mono ?_
        rintro e w25 ⟨rfl, hb⟩
        refine ⟨_, rfl, ?_⟩
        have n0_ := A_ (blk_below BK101.out hb)
        have n1_ := A_ (blk_below BK102.out hb)
        have n2_ := A_ (bs_ HB.1 hb)
        clear BK101 BK102 HB; have BK101 := n0_; have BK102 := n1_; have HB := n2_; clear n0_ n1_ n2_; (try clear hb); (try clear hk)
        refine hK.out _ _ ⟨(blk_cell BK101.out 0).trans rfl, (blk_cell BK101.out 1).trans rfl⟩ (fun hHeld => ?_)
        clear hK K
        refine norm_ (a' := ?_) ?_ ?_; rotate_left; (show Act.put _ (some 31) _ = _; simp only [P6_]; rfl)
        refine pv_ 7 9 HT_ ?_
        refine done_ (done_of HT_.out (by kernel_rfl)) ?_
        try go_wp2
        go_roundg k2
        case measure => have := HJ2.out; have := HK2.out; omega
        case rel => exact ⟨(wrap64 (x1_2 - t105)), (Go.bits .or .i64 x6_2 (ji17)), (x7_2), (wrap64 (x8_2 + 1)), (by rfl), (by rfl), (by rfl), (by rfl), H', ⟨by have := HJ2.out; have := HK2.out; omega⟩, ⟨by exact BK101.out⟩, ⟨by exact BK102.out⟩, ⟨by repeat ((with_reducible exact HB.out))⟩⟩
       ·rw [if_neg c19] at H
        have c19b0 : decide (t105 ≤ x1_2) = false := decide_eq_false c19
        clear c19
        have c26b0 := eq_true (oD_ : 0 ≤ x8_2)
        have H' := A_ H
        clear H
        have hnb27 := NB101_102.out
        have hnc27 := NB102_101.out
        obtain ⟨hcz28_0, hcz28_1⟩ := kk2_ BK101.1
        have hfz28_0 := bf_ BK101.out 0
        have hfz28_1 := bf_ BK101.out 1
        try go_wp2_with (((with_reducible refine gate_callee (f := 78) rfl ?_); refine gl_ 21 Try.func78 #[.agg #[.int .i64 a0_0, .int .i64 a0_1]] ?_; (with_reducible refine (impl_CountGaps.calls a0_0 a0_1 t104 _ A14.out).mono ?_); rintro e w29 ⟨rfl, hb⟩; refine ⟨_, rfl, ?_⟩; have n0_ := A_ (blk_below BK101.out hb); have n1_ := A_ (blk_below BK102.out hb); have n2_ := A_ (bs_ HB.1 hb); clear BK101 BK102 HB; have BK101 := n0_; have BK102 := n1_; have HB := n2_; clear n0_ n1_ n2_; (try clear hb); (try clear hk)))
        have n0_ := A_ (blk_drew BK101.out); have n1_ := A_ (blk_drew BK102.out); have n2_ := A_ (below_drew1 HB.out); clear BK101 BK102 HB; have BK101 := n0_; have BK102 := n1_; have HB := n2_; clear n0_ n1_ n2_
        refine start_ (n := 8) (S := fun w' => w'.cell? ⟨gb101, 0, none⟩ = some (.int .i64 a0_0) ∧ w'.cell? ⟨gb101, 1, none⟩ = some (.int .i64 a0_1)) (ds := []) #[false, false, false, false, false, false, false, false] (by kernel_rfl) rfl rfl ⟨(blk_cell BK101.out 0).trans rfl, (blk_cell BK101.out 1).trans rfl⟩ (fun hHeld => ?_); refine with_tabW impl_MazeAt.tab7 impl_MazeAt.bits7 (fun HT_ HW_ => ?_)
        generalize w29.drew = w30 at BK101 BK102 HB hHeld ⊢; refine pv_ 1 26 HT_ ?_; refine pv_ 2 27 HT_ ?_; refine pv_ 3 28 HT_ ?_; refine pv_ 4 29 HT_ ?_; refine pv_ 5 30 HT_ ?_; refine tv_ 0 25 rfl HT_ HW_ hHeld (by rintro w' ⟨s0, s1⟩; go_simp; with_reducible rfl) ?_
        refine on_ 6 (some 31) rfl rfl HT_ (by kernel_rfl) (by decide) (fun K hK => ?_)
        refine gs_ Try.func34 #[.agg #[.int .i64 a0_0, .int .i64 a0_1], .int .i64 x6_2, .int .i64 (Go.bits .or .i64 x7_2 (ji17))] ?_
        with_reducible refine (impl_CountFixed.calls k2 a0_0 a0_1 x6_2 (Go.bits .or .i64 x7_2 (ji17)) t105 _ A18.out).mono ?_
        rintro e w31 ⟨rfl, hb⟩
        refine ⟨_, rfl, ?_⟩
        have n0_ := A_ (blk_below BK101.out hb)
        have n1_ := A_ (blk_below BK102.out hb)
        have n2_ := A_ (bs_ HB.1 hb)
        clear BK101 BK102 HB; have BK101 := n0_; have BK102 := n1_; have HB := n2_; clear n0_ n1_ n2_; (try clear hb); (try clear hk)
        refine hK.out _ _ ⟨(blk_cell BK101.out 0).trans rfl, (blk_cell BK101.out 1).trans rfl⟩ (fun hHeld => ?_)
        clear hK K
        refine norm_ (a' := ?_) ?_ ?_; rotate_left; (show Act.put _ (some 31) _ = _; simp only [P6_]; rfl)
        refine pv_ 7 9 HT_ ?_
        refine done_ (done_of HT_.out (by kernel_rfl)) ?_
        try go_wp2
        go_roundg k2
        case measure => have := HJ2.out; have := HK2.out; omega
        case rel => exact ⟨(x1_2), (x6_2), (Go.bits .or .i64 x7_2 (ji17)), (wrap64 (x8_2 + 1)), (by rfl), (by rfl), (by rfl), (by rfl), H', ⟨by have := HJ2.out; have := HK2.out; omega⟩, ⟨by exact BK101.out⟩, ⟨by exact BK102.out⟩, ⟨by repeat ((with_reducible exact HB.out))⟩⟩
      ·rw [if_neg c15] at H
       have c15b0 : decide (x8_2 < t104) = false := decide_eq_false c15
       clear c15
       simp only [Option.some.injEq, Prod.mk.injEq] at H
       obtain ⟨rfl, rfl, rfl, rfl⟩ := H
       have hnb32 := NB101_102.out
       have hnc32 := NB102_101.out
       obtain ⟨hcz33_0, hcz33_1⟩ := kk2_ BK101.1
       have hfz33_0 := bf_ BK101.out 0
       have hfz33_1 := bf_ BK101.out 1
       go_wp2_with (((with_reducible refine gate_callee (f := 78) rfl ?_); refine gl_ 21 Try.func78 #[.agg #[.int .i64 a0_0, .int .i64 a0_1]] ?_; (with_reducible refine (impl_CountGaps.calls a0_0 a0_1 t104 _ A14.out).mono ?_); rintro e w34 ⟨rfl, hb⟩; refine ⟨_, rfl, ?_⟩; have n0_ := A_ (blk_below BK101.out hb); have n1_ := A_ (blk_below BK102.out hb); have n2_ := A_ (bs_ HB.1 hb); clear BK101 BK102 HB; have BK101 := n0_; have BK102 := n1_; have HB := n2_; clear n0_ n1_ n2_; (try clear hb); (try clear hk); obtain ⟨hcz35_0, hcz35_1⟩ := kk2_ BK101.1; have hfz35_0 := bf_ BK101.out 0; have hfz35_1 := bf_ BK101.out 1; obtain ⟨hcz36_0, hcz36_1, hcz36_2⟩ := kk3_ BK102.1; have hfz36_0 := bf_ BK102.out 0; have hfz36_1 := bf_ BK102.out 1; have hfz36_2 := bf_ BK102.out 2))
       refine bodyPost_ret (results_ct rfl _ _ gb102 42 #[.int .i64 a0_0, .int .i64 a0_1, .int .i64 x6_2] (0, 0) _ rfl (by refine blk_put (cs := #[.int .i64 a0_0, .int .i64 a0_1, .int .i64 0]) ?_ 2 _ rfl; refine blk_put (cs := #[.int .i64 a0_0, .int .i64 0, .int .i64 0]) ?_ 1 _ rfl; refine blk_put (cs := #[.int .i64 0, .int .i64 0, .int .i64 0]) ?_ 0 _ rfl; exact BK102.out) Try.underlying42 rfl (by kernel_rfl)) rfl ?_
       exact ⟨by rfl, by repeat ((with_reducible first | exact HB.out | refine below_set ?_ GE102.out))⟩

end Go.Proofs.Ytoohcdfokejkdaa.P
namespace Go.Proofs.Ytoohcdfokejkdaa.P
open Go.RowKit Go.Proofs.YtoohcdfokejkdaaW.PrintWords Go.Proofs.YtoohcdfokejkdaaW.PrintLast Go.Proofs.YtoohcdfokejkdaaW.PrintMore
attribute [local go_sem] max2_int min2_int max_two min_two max_three min_three max_four min_four   -- for this text's walks alone
set_option linter.unusedVariables false
set_option linter.unusedSimpArgs false

def impl_NextMaze.f (k : Nat) (a0_0 : Int) (a0_1 : Int) (a0_2 : Int) : Option (Int × Int × Int × Bool) := (impl_IsPerfect.f k a0_0 a0_1 a0_2).bind fun t103 => (if t103 = true then ((impl_NumberOf.f k a0_0 a0_1 a0_2).bind fun t104 => ((impl_MazeAt.f k a0_0 a0_1 (wrap64 (t104 + 1))).bind fun bt105 => (if bt105.2.2.2 = true then (some (bt105.1, bt105.2.1, bt105.2.2.1, true)) else (some (a0_0, a0_1, a0_2, false))))) else (some (a0_0, a0_1, a0_2, false)))
def impl_NextMaze.T3 : Bool × List (List Nat × List Nat) := (true, [([], []), ([0], [0]), ([], []), ([2], [2]), ([3], [3]), ([1, 4, 3], [1, 4]), ([5], [5]), ([6], [6]), ([6], [6]), ([], []), ([9, 7, 5, 0, 1, 2, 3, 4, 5, 6, 7, 9], [7, 9]), ([8, 10, 0, 1, 2, 3, 4, 5, 6, 7, 8, 9, 10], [8])])
def impl_NextMaze.B3 : List Nat := [0, 1, 0, 4, 12, 31, 63, 127, 127, 0, 767, 2047]
theorem impl_NextMaze.tab3 : rtab .any (opsOf Try.f45 3) = impl_NextMaze.T3 := by kernel_rfl
theorem impl_NextMaze.bits3 : waitsOk impl_NextMaze.T3.2 impl_NextMaze.B3 = true := by kernel_rfl
set_option maxHeartbeats 8000000 in
set_option maxRecDepth 100000 in
theorem impl_NextMaze.calls (k : Nat) (a0_0 : Int) (a0_1 : Int) (a0_2 : Int) (r1 : Int) (r2 : Int) (r3 : Int) (r4 : Bool) (w : World) (h : impl_NextMaze.f k a0_0 a0_1 a0_2 = some (r1, r2, r3, r4)) :
  Calls Try.prog 45 #[.agg #[.int .i64 a0_0, .int .i64 a0_1, .int .i64 a0_2]] w fun e w' => e = .returned (.tuple #[.agg #[.int .i64 r1, .int .i64 r2, .int .i64 r3], .bool r4]) ∧ Below w.heap.size w w' := by
 have hu42 := Try.underlying42
 have hu40 := Try.underlying40
 have HB := A_ (Below.refl w.heap.size w)
 have H : ((impl_IsPerfect.f k a0_0 a0_1 a0_2).bind fun t103 => (if t103 = true then ((impl_NumberOf.f k a0_0 a0_1 a0_2).bind fun t104 => ((impl_MazeAt.f k a0_0 a0_1 (wrap64 (t104 + 1))).bind fun bt105 => (if bt105.2.2.2 = true then (some (bt105.1, bt105.2.1, bt105.2.2.1, true)) else (some (a0_0, a0_1, a0_2, false))))) else (some (a0_0, a0_1, a0_2, false)))) = some (r1, r2, r3, r4) := h
 clear h
 obtain ⟨t103, A20, H⟩ := oB_ H
 (try dsimp only at H); have A2 := A_ A20; clear A20
 by_cases c3 : t103 = true
 ·subst c3
  rw [if_pos rfl] at H
  obtain ⟨t104, A40, H⟩ := oB_ H
  (try dsimp only at H); have A4 := A_ A40; clear A40
  obtain ⟨⟨t105, t106, t107, t108⟩, A50, H⟩ := oB_ H
  (try dsimp only at H); have A5 := A_ A50; clear A50
  by_cases c6 : t108 = true
  ·subst c6
   rw [if_pos rfl] at H
   simp only [Option.some.injEq, Prod.mk.injEq] at H
   obtain ⟨rfl, rfl, rfl, rfl⟩ := H
   go_enter Try.func45, Try.ntmps45
   try go_wp2_with (first | ((with_reducible refine gate_dst (N := 1) rfl ?_); refine be_ 1 #[.int .i64 a0_0, .int .i64 a0_1, .int .i64 a0_2] 42 ?_; intro gb101 hg w7 hbox hb; have n0_ := A_ (bs_ HB.1 hb); have n1_ := A_ (hbox); have n2_ := A_ (bS_ HB.out hg); have n3_ := A_ (bS_ HB.out hg); clear HB; have HB := n0_; have BK101 := n1_; have GW101 := n2_; have GE101 := n3_; clear n0_ n1_ n2_ n3_ hb hbox hg) | ((with_reducible refine gate_dst (N := 2) rfl ?_); refine be_ 2 #[.int .i64 0, .int .i64 0, .int .i64 0] 42 ?_; intro gb102 hg w8 hbox hb; have n0_ := A_ (blk_below BK101.out hb); have n1_ := A_ (bs_ HB.1 hb); have n2_ := A_ (hbox); have n3_ := A_ (bS_ HB.out hg); have n4_ := A_ (bS_ HB.out hg); have n5_ := A_ ((by rw [hg]; exact Nat.ne_of_lt (blk_lt (g := gb101) (o := .cells #[.int .i64 a0_0, .int .i64 a0_1, .int .i64 a0_2] 42 (0, 0)) BK101.out) : gb101 ≠ gb102)); have n6_ := A_ ((by rw [hg]; exact Nat.ne_of_gt (blk_lt (g := gb101) (o := .cells #[.int .i64 a0_0, .int .i64 a0_1, .int .i64 a0_2] 42 (0, 0)) BK101.out) : gb102 ≠ gb101)); clear BK101 HB; have BK101 := n0_; have HB := n1_; have BK102 := n2_; have GW102 := n3_; have GE102 := n4_; have NB101_102 := n5_; have NB102_101 := n6_; clear n0_ n1_ n2_ n3_ n4_ n5_ n6_ hb hbox hg; have hnb9 := NB101_102.out; have hnc9 := NB102_101.out; obtain ⟨hcz10_0, hcz10_1, hcz10_2⟩ := kk3_ BK101.1; have hfz10_0 := bf_ BK101.out 0; have hfz10_1 := bf_ BK101.out 1; have hfz10_2 := bf_ BK101.out 2) | ((with_reducible refine gate_callee (f := 51) rfl ?_); refine gl_ 7 Try.func51 #[.agg #[.int .i64 a0_0, .int .i64 a0_1, .int .i64 a0_2]] ?_; (with_reducible refine (impl_IsPerfect.calls k a0_0 a0_1 a0_2 true _ A2.out).mono ?_); rintro e w11 ⟨rfl, hb⟩; refine ⟨_, rfl, ?_⟩; have n0_ := A_ (blk_below BK101.out hb); have n1_ := A_ (blk_below BK102.out hb); have n2_ := A_ (bs_ HB.1 hb); clear BK101 BK102 HB; have BK101 := n0_; have BK102 := n1_; have HB := n2_; clear n0_ n1_ n2_; (try clear hb); (try clear hk)))
   have n0_ := A_ (blk_drew BK101.out); have n1_ := A_ (blk_drew BK102.out); have n2_ := A_ (below_drew1 HB.out); clear BK101 BK102 HB; have BK101 := n0_; have BK102 := n1_; have HB := n2_; clear n0_ n1_ n2_
   refine start_ (n := 12) (S := fun w' => w'.cell? ⟨gb101, 0, none⟩ = some (.int .i64 a0_0) ∧ w'.cell? ⟨gb101, 1, none⟩ = some (.int .i64 a0_1) ∧ w'.cell? ⟨gb101, 2, none⟩ = some (.int .i64 a0_2)) (ds := []) #[false, false, false, false, false, false, false, false, false, false, false, false] (by kernel_rfl) rfl rfl ⟨(blk_cell BK101.out 0).trans rfl, (blk_cell BK101.out 1).trans rfl, (blk_cell BK101.out 2).trans rfl⟩ (fun hHeld => ?_); refine with_tabW impl_NextMaze.tab3 impl_NextMaze.bits3 (fun HT_ HW_ => ?_)
   generalize w11.drew = w12 at BK101 BK102 HB hHeld ⊢; refine pv_ 0 11 HT_ ?_; refine tv_ 1 12 rfl HT_ HW_ hHeld (by rintro w' ⟨s0, s1, s2⟩; go_simp; with_reducible rfl) ?_
   refine tv_ 2 13 rfl HT_ HW_ hHeld (by rintro w' ⟨s0, s1, s2⟩; go_simp; with_reducible rfl) ?_
   refine join_ (σ := Nat) 2 #[true, true, true, true, true, true, true, true, true, true, false, false] (fun s_ => [(14, .int .i64 t104), (16, .tuple #[.agg #[.int .i64 t105, .int .i64 t106, .int .i64 t107], .bool true]), (4, .pointer (some ⟨s_, 0, none⟩)), (15, .int .i64 (wrap64 (t104 + 1))), (10, .tuple #[.agg #[.int .i64 t105, .int .i64 t106, .int .i64 t107], .bool true]), (17, .agg #[.int .i64 t105, .int .i64 t106, .int .i64 t107]), (18, .bool true)]) (fun s_ w' => (w'.cell? ⟨gb101, 0, none⟩ = some (.int .i64 a0_0) ∧ w'.cell? ⟨gb101, 1, none⟩ = some (.int .i64 a0_1) ∧ w'.cell? ⟨gb101, 2, none⟩ = some (.int .i64 a0_2)) ∧ (w'.heap[gb101]? = some (.cells #[.int .i64 a0_0, .int .i64 a0_1, .int .i64 a0_2] 42 (0, 0))) ∧ (w'.heap[gb102]? = some (.cells #[.int .i64 0, .int .i64 0, .int .i64 0] 42 (0, 0))) ∧ (w'.heap[s_]? = some (.cells #[.int .i64 0, .int .i64 0, .int .i64 0] 42 (0, 0))) ∧ (w.heap.size ≤ s_) ∧ (w.heap.size ≤ s_) ∧ (gb101 ≠ s_) ∧ (s_ ≠ gb101) ∧ (gb102 ≠ s_) ∧ (s_ ≠ gb102) ∧ (Below w.heap.size w w')) ?_ ?_
   rotate_left
   ·intro hCont
    refine two_ (i := 3) (j := 9) (Ni := some 14) (Nj := some 4) #[true, true, true, true, false, false, false, false, false, false, false, false] #[true, true, true, false, false, false, false, false, false, true, false, false] rfl rfl rfl rfl (two_of HT_.out (by kernel_rfl)) (by decide) (by decide) (fun K hK => ?_) (fun K hK => ?_)
    ·skip
     refine gs_ Try.func43 #[.agg #[.int .i64 a0_0, .int .i64 a0_1, .int .i64 a0_2]] ?_
     with_reducible refine (impl_NumberOf.calls k a0_0 a0_1 a0_2 t104 _ A4.out).mono ?_
     rintro e w13 ⟨rfl, hb⟩
     refine ⟨_, rfl, ?_⟩
     have n0_ := A_ (blk_below BK101.out hb)
     have n1_ := A_ (blk_below BK102.out hb)
     have n2_ := A_ (bs_ HB.1 hb)
     clear BK101 BK102 HB; have BK101 := n0_; have BK102 := n1_; have HB := n2_; clear n0_ n1_ n2_; (try clear hb); (try clear hk)
     refine hK.out _ _ ⟨(blk_cell BK101.out 0).trans rfl, (blk_cell BK101.out 1).trans rfl, (blk_cell BK101.out 2).trans rfl⟩ (fun hHeld => ?_)
     clear hK K
     refine norm_ (a' := ?_) ?_ ?_; rotate_left; (show Act.put _ (some 14) _ = _; simp only [P6_]; rfl)
     refine pv_ 4 15 HT_ ?_
     refine two_ (i := 5) (j := 9) (Ni := some 16) (Nj := some 4) #[true, true, true, true, true, true, false, false, false, false, false, false] #[true, true, true, true, true, false, false, false, false, true, false, false] rfl rfl rfl rfl (two_of HT_.out (by kernel_rfl)) (by decide) (by decide) (fun K hK => ?_) (fun K hK => ?_)
     ·skip
      refine gs_ Try.func44 #[.agg #[.int .i64 a0_0, .int .i64 a0_1], .int .i64 (wrap64 (t104 + 1))] ?_
      with_reducible refine (impl_MazeAt.calls k a0_0 a0_1 (wrap64 (t104 + 1)) t105 t106 t107 true _ A5.out).mono ?_
      rintro e w14 ⟨rfl, hb⟩
      refine ⟨_, rfl, ?_⟩
      have n0_ := A_ (blk_below BK101.out hb)
      have n1_ := A_ (blk_below BK102.out hb)
      have n2_ := A_ (bs_ HB.1 hb)
      clear BK101 BK102 HB; have BK101 := n0_; have BK102 := n1_; have HB := n2_; clear n0_ n1_ n2_; (try clear hb); (try clear hk)
      refine hK.out _ _ ⟨(blk_cell BK101.out 0).trans rfl, (blk_cell BK101.out 1).trans rfl, (blk_cell BK101.out 2).trans rfl⟩ (fun hHeld => ?_)
      clear hK K
      refine norm_ (a' := ?_) ?_ ?_; rotate_left; (show Act.put _ (some 16) _ = _; simp only [P6_]; rfl)
      refine pv_ 6 10 HT_ ?_; refine pv_ 7 17 HT_ ?_; refine pv_ 8 18 HT_ ?_
      refine on_ 9 (some 4) rfl rfl HT_ (by kernel_rfl) (by decide) (fun K hK => ?_)
      refine box_step ?hg (N := 4) ?hd (cs := #[.int .i64 0, .int .i64 0, .int .i64 0]) (t := 42) ?hr ?_; (case hd => rfl); (case hg => rfl); (case hr => (go_simp; done))
      intro gb109 hg w15 hbox hb
      have n0_ := A_ (blk_below BK101.out hb)
      have n1_ := A_ (blk_below BK102.out hb)
      have n2_ := A_ (bs_ HB.1 hb)
      have n3_ := A_ (hbox)
      have n4_ := A_ (bS_ HB.out hg)
      have n5_ := A_ (bS_ HB.out hg)
      have n6_ := A_ ((by rw [hg]; exact Nat.ne_of_lt (blk_lt (g := gb101) (o := .cells #[.int .i64 a0_0, .int .i64 a0_1, .int .i64 a0_2] 42 (0, 0)) BK101.out) : gb101 ≠ gb109))
      have n7_ := A_ ((by rw [hg]; exact Nat.ne_of_gt (blk_lt (g := gb101) (o := .cells #[.int .i64 a0_0, .int .i64 a0_1, .int .i64 a0_2] 42 (0, 0)) BK101.out) : gb109 ≠ gb101))
      have n8_ := A_ ((by rw [hg]; exact Nat.ne_of_lt (blk_lt (g := gb102) (o := .cells #[.int .i64 0, .int .i64 0, .int .i64 0] 42 (0, 0)) BK102.out) : gb102 ≠ gb109))
      have n9_ := A_ ((by rw [hg]; exact Nat.ne_of_gt (blk_lt (g := gb102) (o := .cells #[.int .i64 0, .int .i64 0, .int .i64 0] 42 (0, 0)) BK102.out) : gb109 ≠ gb102))
      clear BK101 BK102 HB; have BK101 := n0_; have BK102 := n1_; have HB := n2_; have BK109 := n3_; have GW109 := n4_; have GE109 := n5_; have NB101_109 := n6_; have NB109_101 := n7_; have NB102_109 := n8_; have NB109_102 := n9_; clear n0_ n1_ n2_ n3_ n4_ n5_ n6_ n7_ n8_ n9_ hb hbox hg
      refine hK.out _ _ ⟨(blk_cell BK101.out 0).trans rfl, (blk_cell BK101.out 1).trans rfl, (blk_cell BK101.out 2).trans rfl⟩ (fun hHeld => ?_)
      clear hK K
      refine norm_ (a' := ?_) ?_ ?_; rotate_left; (show Act.put _ (some 4) _ = _; simp only [P6_]; rfl)
      exact norm_ (by simp only [putAll, Act.put, List.setIfInBounds_toArray, List.set_cons_zero, List.set_cons_succ]) (hCont (gb109) _ ⟨hHeld, BK101.out, BK102.out, BK109.out, GW109.out, GE109.out, NB101_109.out, NB109_101.out, NB102_109.out, NB109_102.out, HB.out⟩)
     ·skip
      refine box_step ?hg (N := 4) ?hd (cs := #[.int .i64 0, .int .i64 0, .int .i64 0]) (t := 42) ?hr ?_; (case hd => rfl); (case hg => rfl); (case hr => (go_simp; done))
      intro gb109 hg w14 hbox hb
      have n0_ := A_ (blk_below BK101.out hb)
      have n1_ := A_ (blk_below BK102.out hb)
      have n2_ := A_ (bs_ HB.1 hb)
      have n3_ := A_ (hbox)
      have n4_ := A_ (bS_ HB.out hg)
      have n5_ := A_ (bS_ HB.out hg)
      have n6_ := A_ ((by rw [hg]; exact Nat.ne_of_lt (blk_lt (g := gb101) (o := .cells #[.int .i64 a0_0, .int .i64 a0_1, .int .i64 a0_2] 42 (0, 0)) BK101.out) : gb101 ≠ gb109))
      have n7_ := A_ ((by rw [hg]; exact Nat.ne_of_gt (blk_lt (g := gb101) (o := .cells #[.int .i64 a0_0, .int .i64 a0_1, .int .i64 a0_2] 42 (0, 0)) BK101.out) : gb109 ≠ gb101))
      have n8_ := A_ ((by rw [hg]; exact Nat.ne_of_lt (blk_lt (g := gb102) (o := .cells #[.int .i64 0, .int .i64 0, .int .i64 0] 42 (0, 0)) BK102.out) : gb102 ≠ gb109))
      have n9_ := A_ ((by rw [hg]; exact Nat.ne_of_gt (blk_lt (g := gb102) (o := .cells #[.int .i64 0, .int .i64 0, .int .i64 0] 42 (0, 0)) BK102.out) : gb109 ≠ gb102))
      clear BK101 BK102 HB; have BK101 := n0_; have BK102 := n1_; have HB := n2_; have BK109 := n3_; have GW109 := n4_; have GE109 := n5_; have NB101_109 := n6_; have NB109_101 := n7_; have NB102_109 := n8_; have NB109_102 := n9_; clear n0_ n1_ n2_ n3_ n4_ n5_ n6_ n7_ n8_ n9_ hb hbox hg
      refine hK.out _ _ ⟨(blk_cell BK101.out 0).trans rfl, (blk_cell BK101.out 1).trans rfl, (blk_cell BK101.out 2).trans rfl⟩ (fun hHeld => ?_)
      clear hK K
      refine norm_ (a' := ?_) ?_ ?_; rotate_left; (show Act.put _ (some 4) _ = _; simp only [P6_]; rfl)
      refine on_ 5 (some 16) rfl rfl HT_ (by kernel_rfl) (by decide) (fun K hK => ?_)
      refine gs_ Try.func44 #[.agg #[.int .i64 a0_0, .int .i64 a0_1], .int .i64 (wrap64 (t104 + 1))] ?_
      with_reducible refine (impl_MazeAt.calls k a0_0 a0_1 (wrap64 (t104 + 1)) t105 t106 t107 true _ A5.out).mono ?_
      rintro e w15 ⟨rfl, hb⟩
      refine ⟨_, rfl, ?_⟩
      have n0_ := A_ (blk_below BK101.out hb)
      have n1_ := A_ (blk_below BK102.out hb)
      have n2_ := A_ (blk_below BK109.out hb)
      have n3_ := A_ (bs_ HB.1 hb)
      clear BK101 BK102 BK109 HB; have BK101 := n0_; have BK102 := n1_; have BK109 := n2_; have HB := n3_; clear n0_ n1_ n2_ n3_; (try clear hb); (try clear hk)
      refine hK.out _ _ ⟨(blk_cell BK101.out 0).trans rfl, (blk_cell BK101.out 1).trans rfl, (blk_cell BK101.out 2).trans rfl⟩ (fun hHeld => ?_)
      clear hK K
      refine norm_ (a' := ?_) ?_ ?_; rotate_left; (show Act.put _ (some 16) _ = _; simp only [P6_]; rfl)
      refine pv_ 6 10 HT_ ?_; refine pv_ 7 17 HT_ ?_; refine pv_ 8 18 HT_ ?_
      exact norm_ (by simp only [putAll, Act.put, List.setIfInBounds_toArray, List.set_cons_zero, List.set_cons_succ]) (hCont (gb109) _ ⟨hHeld, BK101.out, BK102.out, BK109.out, GW109.out, GE109.out, NB101_109.out, NB109_101.out, NB102_109.out, NB109_102.out, HB.out⟩)
    ·skip
     refine box_step ?hg (N := 4) ?hd (cs := #[.int .i64 0, .int .i64 0, .int .i64 0]) (t := 42) ?hr ?_; (case hd => rfl); (case hg => rfl); (case hr => (go_simp; done))
     intro gb109 hg w13 hbox hb
     have n0_ := A_ (blk_below BK101.out hb)
     have n1_ := A_ (blk_below BK102.out hb)
     have n2_ := A_ (bs_ HB.1 hb)
     have n3_ := A_ (hbox)
     have n4_ := A_ (bS_ HB.out hg)
     have n5_ := A_ (bS_ HB.out hg)
     have n6_ := A_ ((by rw [hg]; exact Nat.ne_of_lt (blk_lt (g := gb101) (o := .cells #[.int .i64 a0_0, .int .i64 a0_1, .int .i64 a0_2] 42 (0, 0)) BK101.out) : gb101 ≠ gb109))
     have n7_ := A_ ((by rw [hg]; exact Nat.ne_of_gt (blk_lt (g := gb101) (o := .cells #[.int .i64 a0_0, .int .i64 a0_1, .int .i64 a0_2] 42 (0, 0)) BK101.out) : gb109 ≠ gb101))
     have n8_ := A_ ((by rw [hg]; exact Nat.ne_of_lt (blk_lt (g := gb102) (o := .cells #[.int .i64 0, .int .i64 0, .int .i64 0] 42 (0, 0)) BK102.out) : gb102 ≠ gb109))
     have n9_ := A_ ((by rw [hg]; exact Nat.ne_of_gt (blk_lt (g := gb102) (o := .cells #[.int .i64 0, .int .i64 0, .int .i64 0] 42 (0, 0)) BK102.out) : gb109 ≠ gb102))
     clear BK101 BK102 HB; have BK101 := n0_; have BK102 := n1_; have HB := n2_; have BK109 := n3_; have GW109 := n4_; have GE109 := n5_; have NB101_109 := n6_; have NB109_101 := n7_; have NB102_109 := n8_; have NB109_102 := n9_; clear n0_ n1_ n2_ n3_ n4_ n5_ n6_ n7_ n8_ n9_ hb hbox hg
     refine hK.out _ _ ⟨(blk_cell BK101.out 0).trans rfl, (blk_cell BK101.out 1).trans rfl, (blk_cell BK101.out 2).trans rfl⟩ (fun hHeld => ?_)
     clear hK K
     refine norm_ (a' := ?_) ?_ ?_; rotate_left; (show Act.put _ (some 4) _ = _; simp only [P6_]; rfl)
     refine on_ 3 (some 14) rfl rfl HT_ (by kernel_rfl) (by decide) (fun K hK => ?_)
     refine gs_ Try.func43 #[.agg #[.int .i64 a0_0, .int .i64 a0_1, .int .i64 a0_2]] ?_
     with_reducible refine (impl_NumberOf.calls k a0_0 a0_1 a0_2 t104 _ A4.out).mono ?_
     rintro e w14 ⟨rfl, hb⟩
     refine ⟨_, rfl, ?_⟩
     have n0_ := A_ (blk_below BK101.out hb)
     have n1_ := A_ (blk_below BK102.out hb)
     have n2_ := A_ (blk_below BK109.out hb)
     have n3_ := A_ (bs_ HB.1 hb)
     clear BK101 BK102 BK109 HB; have BK101 := n0_; have BK102 := n1_; have BK109 := n2_; have HB := n3_; clear n0_ n1_ n2_ n3_; (try clear hb); (try clear hk)
     refine hK.out _ _ ⟨(blk_cell BK101.out 0).trans rfl, (blk_cell BK101.out 1).trans rfl, (blk_cell BK101.out 2).trans rfl⟩ (fun hHeld => ?_)
     clear hK K
     refine norm_ (a' := ?_) ?_ ?_; rotate_left; (show Act.put _ (some 14) _ = _; simp only [P6_]; rfl)
     refine pv_ 4 15 HT_ ?_
     refine on_ 5 (some 16) rfl rfl HT_ (by kernel_rfl) (by decide) (fun K hK => ?_)
     refine gs_ Try.func44 #[.agg #[.int .i64 a0_0, .int .i64 a0_1], .int .i64 (wrap64 (t104 + 1))] ?_
     with_reducible refine (impl_MazeAt.calls k a0_0 a0_1 (wrap64 (t104 + 1)) t105 t106 t107 true _ A5.out).mono ?_
     rintro e w15 ⟨rfl, hb⟩
     refine ⟨_, rfl, ?_⟩
     have n0_ := A_ (blk_below BK101.out hb)
     have n1_ := A_ (blk_below BK102.out hb)
     have n2_ := A_ (blk_below BK109.out hb)
     have n3_ := A_ (bs_ HB.1 hb)
     clear BK101 BK102 BK109 HB; have BK101 := n0_; have BK102 := n1_; have BK109 := n2_; have HB := n3_; clear n0_ n1_ n2_ n3_; (try clear hb); (try clear hk)
     refine hK.out _ _ ⟨(blk_cell BK101.out 0).trans rfl, (blk_cell BK101.out 1).trans rfl, (blk_cell BK101.out 2).trans rfl⟩ (fun hHeld => ?_)
     clear hK K
     refine norm_ (a' := ?_) ?_ ?_; rotate_left; (show Act.put _ (some 16) _ = _; simp only [P6_]; rfl)
     refine pv_ 6 10 HT_ ?_; refine pv_ 7 17 HT_ ?_; refine pv_ 8 18 HT_ ?_
     exact norm_ (by simp only [putAll, Act.put, List.setIfInBounds_toArray, List.set_cons_zero, List.set_cons_succ]) (hCont (gb109) _ ⟨hHeld, BK101.out, BK102.out, BK109.out, GW109.out, GE109.out, NB101_109.out, NB109_101.out, NB102_109.out, NB109_102.out, HB.out⟩)
   rintro gb109 w16 ⟨hS_, h0_, h1_, h2_, h3_, h4_, h5_, h6_, h7_, h8_, h9_⟩
   have n0_ : Aside0 (w16.heap[gb101]? = some (.cells #[.int .i64 a0_0, .int .i64 a0_1, .int .i64 a0_2] 42 (0, 0))) := ⟨h0_⟩
   have n1_ : Aside0 (w16.heap[gb102]? = some (.cells #[.int .i64 0, .int .i64 0, .int .i64 0] 42 (0, 0))) := ⟨h1_⟩
   have n2_ : Aside0 (w16.heap[gb109]? = some (.cells #[.int .i64 0, .int .i64 0, .int .i64 0] 42 (0, 0))) := ⟨h2_⟩
   have n3_ : Aside0 (w.heap.size ≤ gb109) := ⟨h3_⟩
   have n4_ : Aside0 (w.heap.size ≤ gb109) := ⟨h4_⟩
   have n5_ : Aside0 (gb101 ≠ gb109) := ⟨h5_⟩
   have n6_ : Aside0 (gb109 ≠ gb101) := ⟨h6_⟩
   have n7_ : Aside0 (gb102 ≠ gb109) := ⟨h7_⟩
   have n8_ : Aside0 (gb109 ≠ gb102) := ⟨h8_⟩
   have n9_ : Aside0 (Below w.heap.size w w16) := ⟨h9_⟩
   clear BK101 BK102 HB h0_ h1_ h2_ h3_ h4_ h5_ h6_ h7_ h8_ h9_; have BK101 := n0_; have BK102 := n1_; have BK109 := n2_; have GW109 := n3_; have GE109 := n4_; have NB101_109 := n5_; have NB109_101 := n6_; have NB102_109 := n7_; have NB109_102 := n8_; have HB := n9_; clear n0_ n1_ n2_ n3_ n4_ n5_ n6_ n7_ n8_ n9_
   have hHeld : w16.cell? ⟨gb101, 0, none⟩ = some (.int .i64 a0_0) ∧ w16.cell? ⟨gb101, 1, none⟩ = some (.int .i64 a0_1) ∧ w16.cell? ⟨gb101, 2, none⟩ = some (.int .i64 a0_2) := hS_
   refine norm_ (a' := ?_) ?_ ?_
   rotate_left
   ·simp only [putAll, Act.put, List.setIfInBounds_toArray, List.set_cons_zero, List.set_cons_succ]
    rfl
   refine one_ (i := 10) (N := none) #[true, true, true, true, true, true, true, true, true, true, true, false] rfl rfl (one_of HT_.out (by kernel_rfl)) (by decide) (fun K hK => ?_)
   have hs17 : w16.cell? ⟨gb109, 0, none⟩ = some (.int .i64 0) := (blk_cell BK109.out 0).trans rfl
   have hfs17 := bf_ BK109.out 0
   have hns17_0 := NB101_109.out
   have hns17_1 := NB102_109.out
   have hms17_0 := NB109_101.out
   have hms17_1 := NB109_102.out
   have hs18 : w16.cell? ⟨gb109, 1, none⟩ = some (.int .i64 0) := (blk_cell BK109.out 1).trans rfl
   have hfs18 := bf_ BK109.out 1
   have hns18_0 := NB101_109.out
   have hns18_1 := NB102_109.out
   have hms18_0 := NB109_101.out
   have hms18_1 := NB109_102.out
   have hs19 : w16.cell? ⟨gb109, 2, none⟩ = some (.int .i64 0) := (blk_cell BK109.out 2).trans rfl
   have hfs19 := bf_ BK109.out 2
   have hns19_0 := NB101_109.out
   have hns19_1 := NB102_109.out
   have hms19_0 := NB109_101.out
   have hms19_1 := NB109_102.out
   refine skip_ (w1 := ?_) (by rfl) rfl ?_ ?_
   rotate_left
   ·go_simp
    rfl
   refine hK.out _ _ ⟨((cell_far (p := ⟨gb109, _, none⟩) NB101_109.out _).trans (((cell_far (p := ⟨gb109, _, none⟩) NB101_109.out _).trans (((cell_far (p := ⟨gb109, _, none⟩) NB101_109.out _).trans (hHeld.1)))))), ((cell_far (p := ⟨gb109, _, none⟩) NB101_109.out _).trans (((cell_far (p := ⟨gb109, _, none⟩) NB101_109.out _).trans (((cell_far (p := ⟨gb109, _, none⟩) NB101_109.out _).trans (hHeld.2.1)))))), ((cell_far (p := ⟨gb109, _, none⟩) NB101_109.out _).trans (((cell_far (p := ⟨gb109, _, none⟩) NB101_109.out _).trans (((cell_far (p := ⟨gb109, _, none⟩) NB101_109.out _).trans (hHeld.2.2))))))⟩ (fun hHeld => ?_)
   clear hK K; refine pv_ 11 5 HT_ ?_
   refine done_ (done_of HT_.out (by kernel_rfl)) ?_
   have hnb20 := NB109_101.out
   have hnc20 := NB101_109.out
   have hnb21 := NB109_102.out
   have hnc21 := NB102_109.out
   obtain ⟨hcz22_0, hcz22_1, hcz22_2⟩ := kk3_ BK109.1
   have hfz22_0 := bf_ BK109.out 0
   have hfz22_1 := bf_ BK109.out 1
   have hfz22_2 := bf_ BK109.out 2
   obtain ⟨hcz23_0, hcz23_1, hcz23_2⟩ := kk3_ BK102.1
   have hfz23_0 := bf_ BK102.out 0
   have hfz23_1 := bf_ BK102.out 1
   have hfz23_2 := bf_ BK102.out 2
   try go_wp2
   refine bodyPost_ret (results_ct rfl _ _ gb102 42 #[.int .i64 t105, .int .i64 t106, .int .i64 t107] (0, 0) _ rfl (by refine blk_put (cs := #[.int .i64 t105, .int .i64 t106, .int .i64 0]) ?_ 2 _ rfl; refine blk_put (cs := #[.int .i64 t105, .int .i64 0, .int .i64 0]) ?_ 1 _ rfl; refine blk_put (cs := #[.int .i64 0, .int .i64 0, .int .i64 0]) ?_ 0 _ rfl; refine blk_far ?_ NB102_109.out _; refine blk_far ?_ NB102_109.out _; refine blk_far ?_ NB102_109.out _; exact BK102.out) Try.underlying42 rfl (by kernel_rfl)) rfl ?_
   exact ⟨by rfl, by repeat ((with_reducible first | exact HB.out | refine below_set ?_ GE102.out | refine below_set ?_ GE109.out))⟩
  ·replace c6 := Bool.eq_false_iff.mpr c6
   subst c6
   have H1 : (some (a0_0, a0_1, a0_2, false)) = some (r1, r2, r3, r4) := by rw [if_neg (show ¬ (false = true) by decide)] at H; exact H
   clear H
   have H := H1
   clear H1
   simp only [Option.some.injEq, Prod.mk.injEq] at H
   obtain ⟨rfl, rfl, rfl, rfl⟩ := H
   go_enter Try.func45, Try.ntmps45
   try go_wp2_with (first | ((with_reducible refine gate_dst (N := 1) rfl ?_); refine be_ 1 #[.int .i64 a0_0, .int .i64 a0_1, .int .i64 a0_2] 42 ?_; intro gb101 hg w24 hbox hb; have n0_ := A_ (bs_ HB.1 hb); have n1_ := A_ (hbox); have n2_ := A_ (bS_ HB.out hg); have n3_ := A_ (bS_ HB.out hg); clear HB; have HB := n0_; have BK101 := n1_; have GW101 := n2_; have GE101 := n3_; clear n0_ n1_ n2_ n3_ hb hbox hg) | ((with_reducible refine gate_dst (N := 2) rfl ?_); refine be_ 2 #[.int .i64 0, .int .i64 0, .int .i64 0] 42 ?_; intro gb102 hg w25 hbox hb; have n0_ := A_ (blk_below BK101.out hb); have n1_ := A_ (bs_ HB.1 hb); have n2_ := A_ (hbox); have n3_ := A_ (bS_ HB.out hg); have n4_ := A_ (bS_ HB.out hg); have n5_ := A_ ((by rw [hg]; exact Nat.ne_of_lt (blk_lt (g := gb101) (o := .cells #[.int .i64 a0_0, .int .i64 a0_1, .int .i64 a0_2] 42 (0, 0)) BK101.out) : gb101 ≠ gb102)); have n6_ := A_ ((by rw [hg]; exact Nat.ne_of_gt (blk_lt (g := gb101) (o := .cells #[.int .i64 a0_0, .int .i64 a0_1, .int .i64 a0_2] 42 (0, 0)) BK101.out) : gb102 ≠ gb101)); clear BK101 HB; have BK101 := n0_; have HB := n1_; have BK102 := n2_; have GW102 := n3_; have GE102 := n4_; have NB101_102 := n5_; have NB102_101 := n6_; clear n0_ n1_ n2_ n3_ n4_ n5_ n6_ hb hbox hg; have hnb26 := NB101_102.out; have hnc26 := NB102_101.out; obtain ⟨hcz27_0, hcz27_1, hcz27_2⟩ := kk3_ BK101.1; have hfz27_0 := bf_ BK101.out 0; have hfz27_1 := bf_ BK101.out 1; have hfz27_2 := bf_ BK101.out 2) | ((with_reducible refine gate_callee (f := 51) rfl ?_); refine gl_ 7 Try.func51 #[.agg #[.int .i64 a0_0, .int .i64 a0_1, .int .i64 a0_2]] ?_; (with_reducible refine (impl_IsPerfect.calls k a0_0 a0_1 a0_2 true _ A2.out).mono ?_); rintro e w28 ⟨rfl, hb⟩; refine ⟨_, rfl, ?_⟩; have n0_ := A_ (blk_below BK101.out hb); have n1_ := A_ (blk_below BK102.out hb); have n2_ := A_ (bs_ HB.1 hb); clear BK101 BK102 HB; have BK101 := n0_; have BK102 := n1_; have HB := n2_; clear n0_ n1_ n2_; (try clear hb); (try clear hk)))
   have n0_ := A_ (blk_drew BK101.out); have n1_ := A_ (blk_drew BK102.out); have n2_ := A_ (below_drew1 HB.out); clear BK101 BK102 HB; have BK101 := n0_; have BK102 := n1_; have HB := n2_; clear n0_ n1_ n2_
   refine start_ (n := 12) (S := fun w' => w'.cell? ⟨gb101, 0, none⟩ = some (.int .i64 a0_0) ∧ w'.cell? ⟨gb101, 1, none⟩ = some (.int .i64 a0_1) ∧ w'.cell? ⟨gb101, 2, none⟩ = some (.int .i64 a0_2)) (ds := []) #[false, false, false, false, false, false, false, false, false, false, false, false] (by kernel_rfl) rfl rfl ⟨(blk_cell BK101.out 0).trans rfl, (blk_cell BK101.out 1).trans rfl, (blk_cell BK101.out 2).trans rfl⟩ (fun hHeld => ?_); refine with_tabW impl_NextMaze.tab3 impl_NextMaze.bits3 (fun HT_ HW_ => ?_)
   generalize w28.drew = w29 at BK101 BK102 HB hHeld ⊢; refine pv_ 0 11 HT_ ?_; refine tv_ 1 12 rfl HT_ HW_ hHeld (by rintro w' ⟨s0, s1, s2⟩; go_simp; with_reducible rfl) ?_
   refine tv_ 2 13 rfl HT_ HW_ hHeld (by rintro w' ⟨s0, s1, s2⟩; go_simp; with_reducible rfl) ?_
   refine join_ (σ := Nat) 2 #[true, true, true, true, true, true, true, true, true, true, false, false] (fun s_ => [(14, .int .i64 t104), (16, .tuple #[.agg #[.int .i64 t105, .int .i64 t106, .int .i64 t107], .bool false]), (4, .pointer (some ⟨s_, 0, none⟩)), (15, .int .i64 (wrap64 (t104 + 1))), (10, .tuple #[.agg #[.int .i64 t105, .int .i64 t106, .int .i64 t107], .bool false]), (17, .agg #[.int .i64 t105, .int .i64 t106, .int .i64 t107]), (18, .bool false)]) (fun s_ w' => (w'.cell? ⟨gb101, 0, none⟩ = some (.int .i64 a0_0) ∧ w'.cell? ⟨gb101, 1, none⟩ = some (.int .i64 a0_1) ∧ w'.cell? ⟨gb101, 2, none⟩ = some (.int .i64 a0_2)) ∧ (w'.heap[gb101]? = some (.cells #[.int .i64 a0_0, .int .i64 a0_1, .int .i64 a0_2] 42 (0, 0))) ∧ (w'.heap[gb102]? = some (.cells #[.int .i64 0, .int .i64 0, .int .i64 0] 42 (0, 0))) ∧ (w'.heap[s_]? = some (.cells #[.int .i64 0, .int .i64 0, .int .i64 0] 42 (0, 0))) ∧ (w.heap.size ≤ s_) ∧ (w.heap.size ≤ s_) ∧ (gb101 ≠ s_) ∧ (s_ ≠ gb101) ∧ (gb102 ≠ s_) ∧ (s_ ≠ gb102) ∧ (Below w.heap.size w w')) ?_ ?_
   rotate_left
   ·intro hCont
    refine two_ (i := 3) (j := 9) (Ni := some 14) (Nj := some 4) #[true, true, true, true, false, false, false, false, false, false, false, false] #[true, true, true, false, false, false, false, false, false, true, false, false] rfl rfl rfl rfl (two_of HT_.out (by kernel_rfl)) (by decide) (by decide) (fun K hK => ?_) (fun K hK => ?_)
    ·skip
     refine gs_ Try.func43 #[.agg #[.int .i64 a0_0, .int .i64 a0_1, .int .i64 a0_2]] ?_
     with_reducible refine (impl_NumberOf.calls k a0_0 a0_1 a0_2 t104 _ A4.out).mono ?_
     rintro e w30 ⟨rfl, hb⟩
     refine ⟨_, rfl, ?_⟩
     have n0_ := A_ (blk_below BK101.out hb)
     have n1_ := A_ (blk_below BK102.out hb)
     have n2_ := A_ (bs_ HB.1 hb)
     clear BK101 BK102 HB; have BK101 := n0_; have BK102 := n1_; have HB := n2_; clear n0_ n1_ n2_; (try clear hb); (try clear hk)
     refine hK.out _ _ ⟨(blk_cell BK101.out 0).trans rfl, (blk_cell BK101.out 1).trans rfl, (blk_cell BK101.out 2).trans rfl⟩ (fun hHeld => ?_)
     clear hK K
     refine norm_ (a' := ?_) ?_ ?_; rotate_left; (show Act.put _ (some 14) _ = _; simp only [P6_]; rfl)
     refine pv_ 4 15 HT_ ?_
     refine two_ (i := 5) (j := 9) (Ni := some 16) (Nj := some 4) #[true, true, true, true, true, true, false, false, false, false, false, false] #[true, true, true, true, true, false, false, false, false, true, false, false] rfl rfl rfl rfl (two_of HT_.out (by kernel_rfl)) (by decide) (by decide) (fun K hK => ?_) (fun K hK => ?_)
     ·skip
      refine gs_ Try.func44 #[.agg #[.int .i64 a0_0, .int .i64 a0_1], .int .i64 (wrap64 (t104 + 1))] ?_
      with_reducible refine (impl_MazeAt.calls k a0_0 a0_1 (wrap64 (t104 + 1)) t105 t106 t107 false _ A5.out).mono ?_
      rintro e w31 ⟨rfl, hb⟩
      refine ⟨_, rfl, ?_⟩
      have n0_ := A_ (blk_below BK101.out hb)
      have n1_ := A_ (blk_below BK102.out hb)
      have n2_ := A_ (bs_ HB.1 hb)
      clear BK101 BK102 HB; have BK101 := n0_; have BK102 := n1_; have HB := n2_; clear n0_ n1_ n2_; (try clear hb); (try clear hk)
      refine hK.out _ _ ⟨(blk_cell BK101.out 0).trans rfl, (blk_cell BK101.out 1).trans rfl, (blk_cell BK101.out 2).trans rfl⟩ (fun hHeld => ?_)
      clear hK K
      refine norm_ (a' := ?_) ?_ ?_; rotate_left; (show Act.put _ (some 16) _ = _; simp only [P6_]; rfl)
      refine pv_ 6 10 HT_ ?_; refine pv_ 7 17 HT_ ?_; refine pv_ 8 18 HT_ ?_
      refine on_ 9 (some 4) rfl rfl HT_ (by kernel_rfl) (by decide) (fun K hK => ?_)
      refine box_step ?hg (N := 4) ?hd (cs := #[.int .i64 0, .int .i64 0, .int .i64 0]) (t := 42) ?hr ?_; (case hd => rfl); (case hg => rfl); (case hr => (go_simp; done))
      intro gb109 hg w32 hbox hb
      have n0_ := A_ (blk_below BK101.out hb)
      have n1_ := A_ (blk_below BK102.out hb)
      have n2_ := A_ (bs_ HB.1 hb)
      have n3_ := A_ (hbox)
      have n4_ := A_ (bS_ HB.out hg)
      have n5_ := A_ (bS_ HB.out hg)
      have n6_ := A_ ((by rw [hg]; exact Nat.ne_of_lt (blk_lt (g := gb101) (o := .cells #[.int .i64 a0_0, .int .i64 a0_1, .int .i64 a0_2] 42 (0, 0)) BK101.out) : gb101 ≠ gb109))
      have n7_ := A_ ((by rw [hg]; exact Nat.ne_of_gt (blk_lt (g := gb101) (o := .cells #[.int .i64 a0_0, .int .i64 a0_1, .int .i64 a0_2] 42 (0, 0)) BK101.out) : gb109 ≠ gb101))
      have n8_ := A_ ((by rw [hg]; exact Nat.ne_of_lt (blk_lt (g := gb102) (o := .cells #[.int .i64 0, .int .i64 0, .int .i64 0] 42 (0, 0)) BK102.out) : gb102 ≠ gb109))
      have n9_ := A_ ((by rw [hg]; exact Nat.ne_of_gt (blk_lt (g := gb102) (o := .cells #[.int .i64 0, .int .i64 0, .int .i64 0] 42 (0, 0)) BK102.out) : gb109 ≠ gb102))
      clear BK101 BK102 HB; have BK101 := n0_; have BK102 := n1_; have HB := n2_; have BK109 := n3_; have GW109 := n4_; have GE109 := n5_; have NB101_109 := n6_; have NB109_101 := n7_; have NB102_109 := n8_; have NB109_102 := n9_; clear n0_ n1_ n2_ n3_ n4_ n5_ n6_ n7_ n8_ n9_ hb hbox hg
      refine hK.out _ _ ⟨(blk_cell BK101.out 0).trans rfl, (blk_cell BK101.out 1).trans rfl, (blk_cell BK101.out 2).trans rfl⟩ (fun hHeld => ?_)
      clear hK K
      refine norm_ (a' := ?_) ?_ ?_; rotate_left; (show Act.put _ (some 4) _ = _; simp only [P6_]; rfl)
      exact norm_ (by simp only [putAll, Act.put, List.setIfInBounds_toArray, List.set_cons_zero, List.set_cons_succ]) (hCont (gb109) _ ⟨hHeld, BK101.out, BK102.out, BK109.out, GW109.out, GE109.out, NB101_109.out, NB109_101.out, NB102_109.out, NB109_102.out, HB.out⟩)
     ·skip
      refine box_step ?hg (N := 4) ?hd (cs := #[.int .i64 0, .int .i64 0, .int .i64 0]) (t := 42) ?hr ?_; (case hd => rfl); (case hg => rfl); (case hr => (go_simp; done))
      intro gb109 hg w31 hbox hb
      have n0_ := A_ (blk_below BK101.out hb)
      have n1_ := A_ (blk_below BK102.out hb)
      have n2_ := A_ (bs_ HB.1 hb)
      have n3_ := A_ (hbox)
      have n4_ := A_ (bS_ HB.out hg)
      have n5_ := A_ (bS_ HB.out hg)
      have n6_ := A_ ((by rw [hg]; exact Nat.ne_of_lt (blk_lt (g := gb101) (o := .cells #[.int .i64 a0_0, .int .i64 a0_1, .int .i64 a0_2] 42 (0, 0)) BK101.out) : gb101 ≠ gb109))
      have n7_ := A_ ((by rw [hg]; exact Nat.ne_of_gt (blk_lt (g := gb101) (o := .cells #[.int .i64 a0_0, .int .i64 a0_1, .int .i64 a0_2] 42 (0, 0)) BK101.out) : gb109 ≠ gb101))
      have n8_ := A_ ((by rw [hg]; exact Nat.ne_of_lt (blk_lt (g := gb102) (o := .cells #[.int .i64 0, .int .i64 0, .int .i64 0] 42 (0, 0)) BK102.out) : gb102 ≠ gb109))
      have n9_ := A_ ((by rw [hg]; exact Nat.ne_of_gt (blk_lt (g := gb102) (o := .cells #[.int .i64 0, .int .i64 0, .int .i64 0] 42 (0, 0)) BK102.out) : gb109 ≠ gb102))
      clear BK101 BK102 HB; have BK101 := n0_; have BK102 := n1_; have HB := n2_; have BK109 := n3_; have GW109 := n4_; have GE109 := n5_; have NB101_109 := n6_; have NB109_101 := n7_; have NB102_109 := n8_; have NB109_102 := n9_; clear n0_ n1_ n2_ n3_ n4_ n5_ n6_ n7_ n8_ n9_ hb hbox hg
      refine hK.out _ _ ⟨(blk_cell BK101.out 0).trans rfl, (blk_cell BK101.out 1).trans rfl, (blk_cell BK101.out 2).trans rfl⟩ (fun hHeld => ?_)
      clear hK K
      refine norm_ (a' := ?_) ?_ ?_; rotate_left; (show Act.put _ (some 4) _ = _; simp only [P6_]; rfl)
      refine on_ 5 (some 16) rfl rfl HT_ (by kernel_rfl) (by decide) (fun K hK => ?_)
      refine gs_ Try.func44 #[.agg #[.int .i64 a0_0, .int .i64 a0_1], .int .i64 (wrap64 (t104 + 1))] ?_
      with_reducible refine (impl_MazeAt.calls k a0_0 a0_1 (wrap64 (t104 + 1)) t105 t106 t107 false _ A5.out).mono ?_
      rintro e w32 ⟨rfl, hb⟩
      refine ⟨_, rfl, ?_⟩
      have n0_ := A_ (blk_below BK101.out hb)
      have n1_ := A_ (blk_below BK102.out hb)
      have n2_ := A_ (blk_below BK109.out hb)
      have n3_ := A_ (bs_ HB.1 hb)
      clear BK101 BK102 BK109 HB; have BK101 := n0_; have BK102 := n1_; have BK109 := n2_; have HB := n3_; clear n0_ n1_ n2_ n3_; (try clear hb); (try clear hk)
      refine hK.out _ _ ⟨(blk_cell BK101.out 0).trans rfl, (blk_cell BK101.out 1).trans rfl, (blk_cell BK101.out 2).trans rfl⟩ (fun hHeld => ?_)
      clear hK K
      refine norm_ (a' := ?_) ?_ ?_; rotate_left; (show Act.put _ (some 16) _ = _; simp only [P6_]; rfl)
      refine pv_ 6 10 HT_ ?_; refine pv_ 7 17 HT_ ?_; refine pv_ 8 18 HT_ ?_
      exact norm_ (by simp only [putAll, Act.put, List.setIfInBounds_toArray, List.set_cons_zero, List.set_cons_succ]) (hCont (gb109) _ ⟨hHeld, BK101.out, BK102.out, BK109.out, GW109.out, GE109.out, NB101_109.out, NB109_101.out, NB102_109.out, NB109_102.out, HB.out⟩)
    ·skip
     refine box_step ?hg (N := 4) ?hd (cs := #[.int .i64 0, .int .i64 0, .int .i64 0]) (t := 42) ?hr ?_; (case hd => rfl); (case hg => rfl); (case hr => (go_simp; done))
     intro gb109 hg w30 hbox hb
     have n0_ := A_ (blk_below BK101.out hb)
     have n1_ := A_ (blk_below BK102.out hb)
     have n2_ := A_ (bs_ HB.1 hb)
     have n3_ := A_ (hbox)
     have n4_ := A_ (bS_ HB.out hg)
     have n5_ := A_ (bS_ HB.out hg)
     have n6_ := A_ ((by rw [hg]; exact Nat.ne_of_lt (blk_lt (g := gb101) (o := .cells #[.int .i64 a0_0, .int .i64 a0_1, .int .i64 a0_2] 42 (0, 0)) BK101.out) : gb101 ≠ gb109))
     have n7_ := A_ ((by rw [hg]; exact Nat.ne_of_gt (blk_lt (g := gb101) (o := .cells #[.int .i64 a0_0, .int .i64 a0_1, .int .i64 a0_2] 42 (0, 0)) BK101.out) : gb109 ≠ gb101))
     have n8_ := A_ ((by rw [hg]; exact Nat.ne_of_lt (blk_lt (g := gb102) (o := .cells #[.int .i64 0, .int .i64 0, .int .i64 0] 42 (0, 0)) BK102.out) : gb102 ≠ gb109))
     have n9_ := A_ ((by rw [hg]; exact Nat.ne_of_gt (blk_lt (g := gb102) (o := .cells #[.int .i64 0, .int .i64 0, .int .i64 0] 42 (0, 0)) BK102.out) : gb109 ≠ gb102))
     clear BK101 BK102 HB; have BK101 := n0_; have BK102 := n1_; have HB := n2_; have BK109 := n3_; have GW109 := n4_; have GE109 := n5_; have NB101_109 := n6_; have NB109_101 := n7_; have NB102_109 := n8_; have NB109_102 := n9_; clear n0_ n1_ n2_ n3_ n4_ n5_ n6_ n7_ n8_ n9_ hb hbox hg
     refine hK.out _ _ ⟨(blk_cell BK101.out 0).trans rfl, (blk_cell BK101.out 1).trans rfl, (blk_cell BK101.out 2).trans rfl⟩ (fun hHeld => ?_)
     clear hK K
     refine norm_ (a' := ?_) ?_ ?_; rotate_left; (show Act.put _ (some 4) _ = _; simp only [P6_]; rfl)
     refine on_ 3 (some 14) rfl rfl HT_ (by kernel_rfl) (by decide) (fun K hK => ?_)
     refine gs_ Try.func43 #[.agg #[.int .i64 a0_0, .int .i64 a0_1, .int .i64 a0_2]] ?_
     with_reducible refine (impl_NumberOf.calls k a0_0 a0_1 a0_2 t104 _ A4.out).mono ?_
     rintro e w31 ⟨rfl, hb⟩
     refine ⟨_, rfl, ?_⟩
     have n0_ := A_ (blk_below BK101.out hb)
     have n1_ := A_ (blk_below BK102.out hb)
     have n2_ := A_ (blk_below BK109.out hb)
     have n3_ := A_ (bs_ HB.1 hb)
     clear BK101 BK102 BK109 HB; have BK101 := n0_; have BK102 := n1_; have BK109 := n2_; have HB := n3_; clear n0_ n1_ n2_ n3_; (try clear hb); (try clear hk)
     refine hK.out _ _ ⟨(blk_cell BK101.out 0).trans rfl, (blk_cell BK101.out 1).trans rfl, (blk_cell BK101.out 2).trans rfl⟩ (fun hHeld => ?_)
     clear hK K
     refine norm_ (a' := ?_) ?_ ?_; rotate_left; (show Act.put _ (some 14) _ = _; simp only [P6_]; rfl)
     refine pv_ 4 15 HT_ ?_
     refine on_ 5 (some 16) rfl rfl HT_ (by kernel_rfl) (by decide) (fun K hK => ?_)
     refine gs_ Try.func44 #[.agg #[.int .i64 a0_0, .int .i64 a0_1], .int .i64 (wrap64 (t104 + 1))] ?_
     with_reducible refine (impl_MazeAt.calls k a0_0 a0_1 (wrap64 (t104 + 1)) t105 t106 t107 false _ A5.out).mono ?_
     rintro e w32 ⟨rfl, hb⟩
     refine ⟨_, rfl, ?_⟩
     have n0_ := A_ (blk_below BK101.out hb)
     have n1_ := A_ (blk_below BK102.out hb)
     have n2_ := A_ (blk_below BK109.out hb)
     have n3_ := A_ (bs_ HB.1 hb)
     clear BK101 BK102 BK109 HB; have BK101 := n0_; have BK102 := n1_; have BK109 := n2_; have HB := n3_; clear n0_ n1_ n2_ n3_; (try clear hb); (try clear hk)
     refine hK.out _ _ ⟨(blk_cell BK101.out 0).trans rfl, (blk_cell BK101.out 1).trans rfl, (blk_cell BK101.out 2).trans rfl⟩ (fun hHeld => ?_)
     clear hK K
     refine norm_ (a' := ?_) ?_ ?_; rotate_left; (show Act.put _ (some 16) _ = _; simp only [P6_]; rfl)
     refine pv_ 6 10 HT_ ?_; refine pv_ 7 17 HT_ ?_; refine pv_ 8 18 HT_ ?_
     exact norm_ (by simp only [putAll, Act.put, List.setIfInBounds_toArray, List.set_cons_zero, List.set_cons_succ]) (hCont (gb109) _ ⟨hHeld, BK101.out, BK102.out, BK109.out, GW109.out, GE109.out, NB101_109.out, NB109_101.out, NB102_109.out, NB109_102.out, HB.out⟩)
   rintro gb109 w33 ⟨hS_, h0_, h1_, h2_, h3_, h4_, h5_, h6_, h7_, h8_, h9_⟩
   have n0_ : Aside0 (w33.heap[gb101]? = some (.cells #[.int .i64 a0_0, .int .i64 a0_1, .int .i64 a0_2] 42 (0, 0))) := ⟨h0_⟩
   have n1_ : Aside0 (w33.heap[gb102]? = some (.cells #[.int .i64 0, .int .i64 0, .int .i64 0] 42 (0, 0))) := ⟨h1_⟩
   have n2_ : Aside0 (w33.heap[gb109]? = some (.cells #[.int .i64 0, .int .i64 0, .int .i64 0] 42 (0, 0))) := ⟨h2_⟩
   have n3_ : Aside0 (w.heap.size ≤ gb109) := ⟨h3_⟩
   have n4_ : Aside0 (w.heap.size ≤ gb109) := ⟨h4_⟩
   have n5_ : Aside0 (gb101 ≠ gb109) := ⟨h5_⟩
   have n6_ : Aside0 (gb109 ≠ gb101) := ⟨h6_⟩
   have n7_ : Aside0 (gb102 ≠ gb109) := ⟨h7_⟩
   have n8_ : Aside0 (gb109 ≠ gb102) := ⟨h8_⟩
   have n9_ : Aside0 (Below w.heap.size w w33) := ⟨h9_⟩
   clear BK101 BK102 HB h0_ h1_ h2_ h3_ h4_ h5_ h6_ h7_ h8_ h9_; have BK101 := n0_; have BK102 := n1_; have BK109 := n2_; have GW109 := n3_; have GE109 := n4_; have NB101_109 := n5_; have NB109_101 := n6_; have NB102_109 := n7_; have NB109_102 := n8_; have HB := n9_; clear n0_ n1_ n2_ n3_ n4_ n5_ n6_ n7_ n8_ n9_
   have hHeld : w33.cell? ⟨gb101, 0, none⟩ = some (.int .i64 a0_0) ∧ w33.cell? ⟨gb101, 1, none⟩ = some (.int .i64 a0_1) ∧ w33.cell? ⟨gb101, 2, none⟩ = some (.int .i64 a0_2) := hS_
   refine norm_ (a' := ?_) ?_ ?_
   rotate_left
   ·simp only [putAll, Act.put, List.setIfInBounds_toArray, List.set_cons_zero, List.set_cons_succ]
    rfl
   refine one_ (i := 10) (N := none) #[true, true, true, true, true, true, true, true, true, true, true, false] rfl rfl (one_of HT_.out (by kernel_rfl)) (by decide) (fun K hK => ?_)
   have hs34 : w33.cell? ⟨gb109, 0, none⟩ = some (.int .i64 0) := (blk_cell BK109.out 0).trans rfl
   have hfs34 := bf_ BK109.out 0
   have hns34_0 := NB101_109.out
   have hns34_1 := NB102_109.out
   have hms34_0 := NB109_101.out
   have hms34_1 := NB109_102.out
   have hs35 : w33.cell? ⟨gb109, 1, none⟩ = some (.int .i64 0) := (blk_cell BK109.out 1).trans rfl
   have hfs35 := bf_ BK109.out 1
   have hns35_0 := NB101_109.out
   have hns35_1 := NB102_109.out
   have hms35_0 := NB109_101.out
   have hms35_1 := NB109_102.out
   have hs36 : w33.cell? ⟨gb109, 2, none⟩ = some (.int .i64 0) := (blk_cell BK109.out 2).trans rfl
   have hfs36 := bf_ BK109.out 2
   have hns36_0 := NB101_109.out
   have hns36_1 := NB102_109.out
   have hms36_0 := NB109_101.out
   have hms36_1 := NB109_102.out
   refine skip_ (w1 := ?_) (by rfl) rfl ?_ ?_
   rotate_left
   ·go_simp
    rfl
   refine hK.out _ _ ⟨((cell_far (p := ⟨gb109, _, none⟩) NB101_109.out _).trans (((cell_far (p := ⟨gb109, _, none⟩) NB101_109.out _).trans (((cell_far (p := ⟨gb109, _, none⟩) NB101_109.out _).trans (hHeld.1)))))), ((cell_far (p := ⟨gb109, _, none⟩) NB101_109.out _).trans (((cell_far (p := ⟨gb109, _, none⟩) NB101_109.out _).trans (((cell_far (p := ⟨gb109, _, none⟩) NB101_109.out _).trans (hHeld.2.1)))))), ((cell_far (p := ⟨gb109, _, none⟩) NB101_109.out _).trans (((cell_far (p := ⟨gb109, _, none⟩) NB101_109.out _).trans (((cell_far (p := ⟨gb109, _, none⟩) NB101_109.out _).trans (hHeld.2.2))))))⟩ (fun hHeld => ?_)
   clear hK K; refine pv_ 11 5 HT_ ?_
   refine done_ (done_of HT_.out (by kernel_rfl)) ?_
   have hnb37 := NB101_109.out
   have hnc37 := NB109_101.out
   obtain ⟨hcz38_0, hcz38_1, hcz38_2⟩ := kk3_ BK101.1
   have hfz38_0 := bf_ BK101.out 0
   have hfz38_1 := bf_ BK101.out 1
   have hfz38_2 := bf_ BK101.out 2
   have hnb39 := NB102_109.out
   have hnc39 := NB109_102.out
   obtain ⟨hcz40_0, hcz40_1, hcz40_2⟩ := kk3_ BK102.1
   have hfz40_0 := bf_ BK102.out 0
   have hfz40_1 := bf_ BK102.out 1
   have hfz40_2 := bf_ BK102.out 2
   try go_wp2
   refine bodyPost_ret (results_ct rfl _ _ gb102 42 #[.int .i64 a0_0, .int .i64 a0_1, .int .i64 a0_2] (0, 0) _ rfl (by refine blk_put (cs := #[.int .i64 a0_0, .int .i64 a0_1, .int .i64 0]) ?_ 2 _ rfl; refine blk_put (cs := #[.int .i64 a0_0, .int .i64 0, .int .i64 0]) ?_ 1 _ rfl; refine blk_put (cs := #[.int .i64 0, .int .i64 0, .int .i64 0]) ?_ 0 _ rfl; refine blk_far ?_ NB102_109.out _; refine blk_far ?_ NB102_109.out _; refine blk_far ?_ NB102_109.out _; exact BK102.out) Try.underlying42 rfl (by kernel_rfl)) rfl ?_
   exact ⟨by rfl, by repeat ((with_reducible first | exact HB.out | refine below_set ?_ GE102.out | refine below_set ?_ GE109.out))⟩
 ·replace c3 := Bool.eq_false_iff.mpr c3
  subst c3
  have H1 : (some (a0_0, a0_1, a0_2, false)) = some (r1, r2, r3, r4) := by rw [if_neg (show ¬ (false = true) by decide)] at H; exact H
  clear H
  have H := H1
  clear H1
  simp only [Option.some.injEq, Prod.mk.injEq] at H
  obtain ⟨rfl, rfl, rfl, rfl⟩ := H
  go_enter Try.func45, Try.ntmps45
  go_wp2_with (first | ((with_reducible refine gate_dst (N := 1) rfl ?_); refine be_ 1 #[.int .i64 a0_0, .int .i64 a0_1, .int .i64 a0_2] 42 ?_; intro gb101 hg w41 hbox hb; have n0_ := A_ (bs_ HB.1 hb); have n1_ := A_ (hbox); have n2_ := A_ (bS_ HB.out hg); have n3_ := A_ (bS_ HB.out hg); clear HB; have HB := n0_; have BK101 := n1_; have GW101 := n2_; have GE101 := n3_; clear n0_ n1_ n2_ n3_ hb hbox hg) | ((with_reducible refine gate_dst (N := 2) rfl ?_); refine be_ 2 #[.int .i64 0, .int .i64 0, .int .i64 0] 42 ?_; intro gb102 hg w42 hbox hb; have n0_ := A_ (blk_below BK101.out hb); have n1_ := A_ (bs_ HB.1 hb); have n2_ := A_ (hbox); have n3_ := A_ (bS_ HB.out hg); have n4_ := A_ (bS_ HB.out hg); have n5_ := A_ ((by rw [hg]; exact Nat.ne_of_lt (blk_lt (g := gb101) (o := .cells #[.int .i64 a0_0, .int .i64 a0_1, .int .i64 a0_2] 42 (0, 0)) BK101.out) : gb101 ≠ gb102)); have n6_ := A_ ((by rw [hg]; exact Nat.ne_of_gt (blk_lt (g := gb101) (o := .cells #[.int .i64 a0_0, .int .i64 a0_1, .int .i64 a0_2] 42 (0, 0)) BK101.out) : gb102 ≠ gb101)); clear BK101 HB; have BK101 := n0_; have HB := n1_; have BK102 := n2_; have GW102 := n3_; have GE102 := n4_; have NB101_102 := n5_; have NB102_101 := n6_; clear n0_ n1_ n2_ n3_ n4_ n5_ n6_ hb hbox hg; have hnb43 := NB101_102.out; have hnc43 := NB102_101.out; obtain ⟨hcz44_0, hcz44_1, hcz44_2⟩ := kk3_ BK101.1; have hfz44_0 := bf_ BK101.out 0; have hfz44_1 := bf_ BK101.out 1; have hfz44_2 := bf_ BK101.out 2) | ((with_reducible refine gate_callee (f := 51) rfl ?_); refine gl_ 7 Try.func51 #[.agg #[.int .i64 a0_0, .int .i64 a0_1, .int .i64 a0_2]] ?_; (with_reducible refine (impl_IsPerfect.calls k a0_0 a0_1 a0_2 false _ A2.out).mono ?_); rintro e w45 ⟨rfl, hb⟩; refine ⟨_, rfl, ?_⟩; have n0_ := A_ (blk_below BK101.out hb); have n1_ := A_ (blk_below BK102.out hb); have n2_ := A_ (bs_ HB.1 hb); clear BK101 BK102 HB; have BK101 := n0_; have BK102 := n1_; have HB := n2_; clear n0_ n1_ n2_; (try clear hb); (try clear hk); obtain ⟨hcz46_0, hcz46_1, hcz46_2⟩ := kk3_ BK101.1; have hfz46_0 := bf_ BK101.out 0; have hfz46_1 := bf_ BK101.out 1; have hfz46_2 := bf_ BK101.out 2; obtain ⟨hcz47_0, hcz47_1, hcz47_2⟩ := kk3_ BK102.1; have hfz47_0 := bf_ BK102.out 0; have hfz47_1 := bf_ BK102.out 1; have hfz47_2 := bf_ BK102.out 2))
  refine bodyPost_ret (results_ct rfl _ _ gb102 42 #[.int .i64 a0_0, .int .i64 a0_1, .int .i64 a0_2] (0, 0) _ rfl (by refine blk_put (cs := #[.int .i64 a0_0, .int .i64 a0_1, .int .i64 0]) ?_ 2 _ rfl; refine blk_put (cs := #[.int .i64 a0_0, .int .i64 0, .int .i64 0]) ?_ 1 _ rfl; refine blk_put (cs := #[.int .i64 0, .int .i64 0, .int .i64 0]) ?_ 0 _ rfl; exact BK102.out) Try.underlying42 rfl (by kernel_rfl)) rfl ?_
  exact ⟨by rfl, by repeat ((with_reducible first | exact HB.out | refine below_set ?_ GE102.out))⟩

def laws_eqGrid.f (a0_0 : Int) (a0_1 : Int) (a1_0 : Int) (a1_1 : Int) : Option (Bool) := if a0_0 = a1_0 then (if a0_1 = a1_1 then (some true) else (some false)) else (some false)
set_option maxHeartbeats 8000000 in
set_option maxRecDepth 100000 in
theorem laws_eqGrid.calls (a0_0 : Int) (a0_1 : Int) (a1_0 : Int) (a1_1 : Int) (r : Bool) (w : World) (h : laws_eqGrid.f a0_0 a0_1 a1_0 a1_1 = some r) :
  Calls Try.prog 89 #[.agg #[.int .i64 a0_0, .int .i64 a0_1], .agg #[.int .i64 a1_0, .int .i64 a1_1]] w fun e w' => e = .returned (.bool r) ∧ Below w.heap.size w w' := by
 have hu40 := Try.underlying40
 have HB := A_ (Below.refl w.heap.size w)
 have H : (if a0_0 = a1_0 then (if a0_1 = a1_1 then (some true) else (some false)) else (some false)) = some r := h
 clear h
 by_cases c3 : a0_0 = a1_0
 ·rw [if_pos c3] at H
  have c3b0 : (a0_0 == a1_0) = true := beq_iff_eq.mpr c3
  have c3b1 : (a0_0 != a1_0) = false := bne_eq_false_iff_eq.mpr c3
  clear c3
  by_cases c4 : a0_1 = a1_1
  ·rw [if_pos c4] at H
   have c4b0 : (a0_1 == a1_1) = true := beq_iff_eq.mpr c4
   have c4b1 : (a0_1 != a1_1) = false := bne_eq_false_iff_eq.mpr c4
   clear c4
   obtain rfl := Option.some.inj H
   go_enter Try.func89, Try.ntmps89
   go_wp2_with (first | ((with_reducible refine gate_dst (N := 2) rfl ?_); refine be_ 2 #[.int .i64 a0_0, .int .i64 a0_1] 40 ?_; intro gb101 hg w5 hbox hb; have n0_ := A_ (bs_ HB.1 hb); have n1_ := A_ (hbox); have n2_ := A_ (bS_ HB.out hg); have n3_ := A_ (bS_ HB.out hg); clear HB; have HB := n0_; have BK101 := n1_; have GW101 := n2_; have GE101 := n3_; clear n0_ n1_ n2_ n3_ hb hbox hg) | ((with_reducible refine gate_dst (N := 3) rfl ?_); refine be_ 3 #[.int .i64 a1_0, .int .i64 a1_1] 40 ?_; intro gb102 hg w6 hbox hb; have n0_ := A_ (blk_below BK101.out hb); have n1_ := A_ (bs_ HB.1 hb); have n2_ := A_ (hbox); have n3_ := A_ (bS_ HB.out hg); have n4_ := A_ (bS_ HB.out hg); have n5_ := A_ ((by rw [hg]; exact Nat.ne_of_lt (blk_lt (g := gb101) (o := .cells #[.int .i64 a0_0, .int .i64 a0_1] 40 (0, 0)) BK101.out) : gb101 ≠ gb102)); have n6_ := A_ ((by rw [hg]; exact Nat.ne_of_gt (blk_lt (g := gb101) (o := .cells #[.int .i64 a0_0, .int .i64 a0_1] 40 (0, 0)) BK101.out) : gb102 ≠ gb101)); clear BK101 HB; have BK101 := n0_; have HB := n1_; have BK102 := n2_; have GW102 := n3_; have GE102 := n4_; have NB101_102 := n5_; have NB102_101 := n6_; clear n0_ n1_ n2_ n3_ n4_ n5_ n6_ hb hbox hg; have hnb7 := NB101_102.out; have hnc7 := NB102_101.out; obtain ⟨hcz8_0, hcz8_1⟩ := kk2_ BK101.1; have hfz8_0 := bf_ BK101.out 0; have hfz8_1 := bf_ BK101.out 1; obtain ⟨hcz9_0, hcz9_1⟩ := kk2_ BK102.1; have hfz9_0 := bf_ BK102.out 0; have hfz9_1 := bf_ BK102.out 1))
   go_ret
   exact ⟨by rfl, by repeat ((with_reducible exact HB.out))⟩
  ·rw [if_neg c4] at H
   have c4b0 : (a0_1 == a1_1) = false := beq_eq_false_iff_ne.mpr c4
   have c4b1 : (a0_1 != a1_1) = true := bne_iff_ne.mpr c4
   obtain rfl := Option.some.inj H
   go_enter Try.func89, Try.ntmps89
   go_wp2_with (first | ((with_reducible refine gate_dst (N := 2) rfl ?_); refine be_ 2 #[.int .i64 a0_0, .int .i64 a0_1] 40 ?_; intro gb101 hg w10 hbox hb; have n0_ := A_ (bs_ HB.1 hb); have n1_ := A_ (hbox); have n2_ := A_ (bS_ HB.out hg); have n3_ := A_ (bS_ HB.out hg); clear HB; have HB := n0_; have BK101 := n1_; have GW101 := n2_; have GE101 := n3_; clear n0_ n1_ n2_ n3_ hb hbox hg) | ((with_reducible refine gate_dst (N := 3) rfl ?_); refine be_ 3 #[.int .i64 a1_0, .int .i64 a1_1] 40 ?_; intro gb102 hg w11 hbox hb; have n0_ := A_ (blk_below BK101.out hb); have n1_ := A_ (bs_ HB.1 hb); have n2_ := A_ (hbox); have n3_ := A_ (bS_ HB.out hg); have n4_ := A_ (bS_ HB.out hg); have n5_ := A_ ((by rw [hg]; exact Nat.ne_of_lt (blk_lt (g := gb101) (o := .cells #[.int .i64 a0_0, .int .i64 a0_1] 40 (0, 0)) BK101.out) : gb101 ≠ gb102)); have n6_ := A_ ((by rw [hg]; exact Nat.ne_of_gt (blk_lt (g := gb101) (o := .cells #[.int .i64 a0_0, .int .i64 a0_1] 40 (0, 0)) BK101.out) : gb102 ≠ gb101)); clear BK101 HB; have BK101 := n0_; have HB := n1_; have BK102 := n2_; have GW102 := n3_; have GE102 := n4_; have NB101_102 := n5_; have NB102_101 := n6_; clear n0_ n1_ n2_ n3_ n4_ n5_ n6_ hb hbox hg; have hnb12 := NB101_102.out; have hnc12 := NB102_101.out; obtain ⟨hcz13_0, hcz13_1⟩ := kk2_ BK101.1; have hfz13_0 := bf_ BK101.out 0; have hfz13_1 := bf_ BK101.out 1; obtain ⟨hcz14_0, hcz14_1⟩ := kk2_ BK102.1; have hfz14_0 := bf_ BK102.out 0; have hfz14_1 := bf_ BK102.out 1))
   go_ret
   exact ⟨by rfl, by repeat ((with_reducible exact HB.out))⟩
 ·rw [if_neg c3] at H
  have c3b0 : (a0_0 == a1_0) = false := beq_eq_false_iff_ne.mpr c3
  have c3b1 : (a0_0 != a1_0) = true := bne_iff_ne.mpr c3
  obtain rfl := Option.some.inj H
  go_enter Try.func89, Try.ntmps89
  go_wp2_with (first | ((with_reducible refine gate_dst (N := 2) rfl ?_); refine be_ 2 #[.int .i64 a0_0, .int .i64 a0_1] 40 ?_; intro gb101 hg w15 hbox hb; have n0_ := A_ (bs_ HB.1 hb); have n1_ := A_ (hbox); have n2_ := A_ (bS_ HB.out hg); have n3_ := A_ (bS_ HB.out hg); clear HB; have HB := n0_; have BK101 := n1_; have GW101 := n2_; have GE101 := n3_; clear n0_ n1_ n2_ n3_ hb hbox hg) | ((with_reducible refine gate_dst (N := 3) rfl ?_); refine be_ 3 #[.int .i64 a1_0, .int .i64 a1_1] 40 ?_; intro gb102 hg w16 hbox hb; have n0_ := A_ (blk_below BK101.out hb); have n1_ := A_ (bs_ HB.1 hb); have n2_ := A_ (hbox); have n3_ := A_ (bS_ HB.out hg); have n4_ := A_ (bS_ HB.out hg); have n5_ := A_ ((by rw [hg]; exact Nat.ne_of_lt (blk_lt (g := gb101) (o := .cells #[.int .i64 a0_0, .int .i64 a0_1] 40 (0, 0)) BK101.out) : gb101 ≠ gb102)); have n6_ := A_ ((by rw [hg]; exact Nat.ne_of_gt (blk_lt (g := gb101) (o := .cells #[.int .i64 a0_0, .int .i64 a0_1] 40 (0, 0)) BK101.out) : gb102 ≠ gb101)); clear BK101 HB; have BK101 := n0_; have HB := n1_; have BK102 := n2_; have GW102 := n3_; have GE102 := n4_; have NB101_102 := n5_; have NB102_101 := n6_; clear n0_ n1_ n2_ n3_ n4_ n5_ n6_ hb hbox hg; have hnb17 := NB101_102.out; have hnc17 := NB102_101.out; obtain ⟨hcz18_0, hcz18_1⟩ := kk2_ BK101.1; have hfz18_0 := bf_ BK101.out 0; have hfz18_1 := bf_ BK101.out 1; obtain ⟨hcz19_0, hcz19_1⟩ := kk2_ BK102.1; have hfz19_0 := bf_ BK102.out 0; have hfz19_1 := bf_ BK102.out 1))
  go_ret
  exact ⟨by rfl, by repeat ((with_reducible exact HB.out))⟩

def laws_eqMaze.f (a0_0 : Int) (a0_1 : Int) (a0_2 : Int) (a1_0 : Int) (a1_1 : Int) (a1_2 : Int) : Option (Bool) := (laws_eqGrid.f a0_0 a0_1 a1_0 a1_1).bind fun t103 => (if t103 = true then (if a0_2 = a1_2 then (some true) else (some false)) else (some false))
set_option maxHeartbeats 8000000 in
set_option maxRecDepth 100000 in
theorem laws_eqMaze.calls (a0_0 : Int) (a0_1 : Int) (a0_2 : Int) (a1_0 : Int) (a1_1 : Int) (a1_2 : Int) (r : Bool) (w : World) (h : laws_eqMaze.f a0_0 a0_1 a0_2 a1_0 a1_1 a1_2 = some r) :
  Calls Try.prog 48 #[.agg #[.int .i64 a0_0, .int .i64 a0_1, .int .i64 a0_2], .agg #[.int .i64 a1_0, .int .i64 a1_1, .int .i64 a1_2]] w fun e w' => e = .returned (.bool r) ∧ Below w.heap.size w w' := by
 have hu42 := Try.underlying42
 have hu40 := Try.underlying40
 have HB := A_ (Below.refl w.heap.size w)
 have H : ((laws_eqGrid.f a0_0 a0_1 a1_0 a1_1).bind fun t103 => (if t103 = true then (if a0_2 = a1_2 then (some true) else (some false)) else (some false))) = some r := h
 clear h
 obtain ⟨t103, A30, H⟩ := oB_ H
 (try dsimp only at H); have A3 := A_ A30; clear A30
 by_cases c4 : t103 = true
 ·subst c4
  rw [if_pos rfl] at H
  by_cases c5 : a0_2 = a1_2
  ·rw [if_pos c5] at H
   have c5b0 : (a0_2 == a1_2) = true := beq_iff_eq.mpr c5
   have c5b1 : (a0_2 != a1_2) = false := bne_eq_false_iff_eq.mpr c5
   clear c5
   obtain rfl := Option.some.inj H
   go_enter Try.func48, Try.ntmps48
   go_wp2_with (first | ((with_reducible refine gate_dst (N := 2) rfl ?_); refine be_ 2 #[.int .i64 a0_0, .int .i64 a0_1, .int .i64 a0_2] 42 ?_; intro gb101 hg w6 hbox hb; have n0_ := A_ (bs_ HB.1 hb); have n1_ := A_ (hbox); have n2_ := A_ (bS_ HB.out hg); have n3_ := A_ (bS_ HB.out hg); clear HB; have HB := n0_; have BK101 := n1_; have GW101 := n2_; have GE101 := n3_; clear n0_ n1_ n2_ n3_ hb hbox hg) | ((with_reducible refine gate_dst (N := 3) rfl ?_); refine be_ 3 #[.int .i64 a1_0, .int .i64 a1_1, .int .i64 a1_2] 42 ?_; intro gb102 hg w7 hbox hb; have n0_ := A_ (blk_below BK101.out hb); have n1_ := A_ (bs_ HB.1 hb); have n2_ := A_ (hbox); have n3_ := A_ (bS_ HB.out hg); have n4_ := A_ (bS_ HB.out hg); have n5_ := A_ ((by rw [hg]; exact Nat.ne_of_lt (blk_lt (g := gb101) (o := .cells #[.int .i64 a0_0, .int .i64 a0_1, .int .i64 a0_2] 42 (0, 0)) BK101.out) : gb101 ≠ gb102)); have n6_ := A_ ((by rw [hg]; exact Nat.ne_of_gt (blk_lt (g := gb101) (o := .cells #[.int .i64 a0_0, .int .i64 a0_1, .int .i64 a0_2] 42 (0, 0)) BK101.out) : gb102 ≠ gb101)); clear BK101 HB; have BK101 := n0_; have HB := n1_; have BK102 := n2_; have GW102 := n3_; have GE102 := n4_; have NB101_102 := n5_; have NB102_101 := n6_; clear n0_ n1_ n2_ n3_ n4_ n5_ n6_ hb hbox hg; have hnb8 := NB101_102.out; have hnc8 := NB102_101.out; obtain ⟨hcz9_0, hcz9_1, hcz9_2⟩ := kk3_ BK101.1; have hfz9_0 := bf_ BK101.out 0; have hfz9_1 := bf_ BK101.out 1; have hfz9_2 := bf_ BK101.out 2; obtain ⟨hcz10_0, hcz10_1, hcz10_2⟩ := kk3_ BK102.1; have hfz10_0 := bf_ BK102.out 0; have hfz10_1 := bf_ BK102.out 1; have hfz10_2 := bf_ BK102.out 2) | ((with_reducible refine gate_callee (f := 89) rfl ?_); refine gl_ 9 Try.func89 #[.agg #[.int .i64 a0_0, .int .i64 a0_1], .agg #[.int .i64 a1_0, .int .i64 a1_1]] ?_; (with_reducible refine (laws_eqGrid.calls a0_0 a0_1 a1_0 a1_1 true _ A3.out).mono ?_); rintro e w11 ⟨rfl, hb⟩; refine ⟨_, rfl, ?_⟩; have n0_ := A_ (blk_below BK101.out hb); have n1_ := A_ (blk_below BK102.out hb); have n2_ := A_ (bs_ HB.1 hb); clear BK101 BK102 HB; have BK101 := n0_; have BK102 := n1_; have HB := n2_; clear n0_ n1_ n2_; (try clear hb); (try clear hk); obtain ⟨hcz12_0, hcz12_1, hcz12_2⟩ := kk3_ BK101.1; have hfz12_0 := bf_ BK101.out 0; have hfz12_1 := bf_ BK101.out 1; have hfz12_2 := bf_ BK101.out 2; obtain ⟨hcz13_0, hcz13_1, hcz13_2⟩ := kk3_ BK102.1; have hfz13_0 := bf_ BK102.out 0; have hfz13_1 := bf_ BK102.out 1; have hfz13_2 := bf_ BK102.out 2))
   go_ret
   exact ⟨by rfl, by repeat ((with_reducible exact HB.out))⟩
  ·rw [if_neg c5] at H
   have c5b0 : (a0_2 == a1_2) = false := beq_eq_false_iff_ne.mpr c5
   have c5b1 : (a0_2 != a1_2) = true := bne_iff_ne.mpr c5
   obtain rfl := Option.some.inj H
   go_enter Try.func48, Try.ntmps48
   go_wp2_with (first | ((with_reducible refine gate_dst (N := 2) rfl ?_); refine be_ 2 #[.int .i64 a0_0, .int .i64 a0_1, .int .i64 a0_2] 42 ?_; intro gb101 hg w14 hbox hb; have n0_ := A_ (bs_ HB.1 hb); have n1_ := A_ (hbox); have n2_ := A_ (bS_ HB.out hg); have n3_ := A_ (bS_ HB.out hg); clear HB; have HB := n0_; have BK101 := n1_; have GW101 := n2_; have GE101 := n3_; clear n0_ n1_ n2_ n3_ hb hbox hg) | ((with_reducible refine gate_dst (N := 3) rfl ?_); refine be_ 3 #[.int .i64 a1_0, .int .i64 a1_1, .int .i64 a1_2] 42 ?_; intro gb102 hg w15 hbox hb; have n0_ := A_ (blk_below BK101.out hb); have n1_ := A_ (bs_ HB.1 hb); have n2_ := A_ (hbox); have n3_ := A_ (bS_ HB.out hg); have n4_ := A_ (bS_ HB.out hg); have n5_ := A_ ((by rw [hg]; exact Nat.ne_of_lt (blk_lt (g := gb101) (o := .cells #[.int .i64 a0_0, .int .i64 a0_1, .int .i64 a0_2] 42 (0, 0)) BK101.out) : gb101 ≠ gb102)); have n6_ := A_ ((by rw [hg]; exact Nat.ne_of_gt (blk_lt (g := gb101) (o := .cells #[.int .i64 a0_0, .int .i64 a0_1, .int .i64 a0_2] 42 (0, 0)) BK101.out) : gb102 ≠ gb101)); clear BK101 HB; have BK101 := n0_; have HB := n1_; have BK102 := n2_; have GW102 := n3_; have GE102 := n4_; have NB101_102 := n5_; have NB102_101 := n6_; clear n0_ n1_ n2_ n3_ n4_ n5_ n6_ hb hbox hg; have hnb16 := NB101_102.out; have hnc16 := NB102_101.out; obtain ⟨hcz17_0, hcz17_1, hcz17_2⟩ := kk3_ BK101.1; have hfz17_0 := bf_ BK101.out 0; have hfz17_1 := bf_ BK101.out 1; have hfz17_2 := bf_ BK101.out 2; obtain ⟨hcz18_0, hcz18_1, hcz18_2⟩ := kk3_ BK102.1; have hfz18_0 := bf_ BK102.out 0; have hfz18_1 := bf_ BK102.out 1; have hfz18_2 := bf_ BK102.out 2) | ((with_reducible refine gate_callee (f := 89) rfl ?_); refine gl_ 9 Try.func89 #[.agg #[.int .i64 a0_0, .int .i64 a0_1], .agg #[.int .i64 a1_0, .int .i64 a1_1]] ?_; (with_reducible refine (laws_eqGrid.calls a0_0 a0_1 a1_0 a1_1 true _ A3.out).mono ?_); rintro e w19 ⟨rfl, hb⟩; refine ⟨_, rfl, ?_⟩; have n0_ := A_ (blk_below BK101.out hb); have n1_ := A_ (blk_below BK102.out hb); have n2_ := A_ (bs_ HB.1 hb); clear BK101 BK102 HB; have BK101 := n0_; have BK102 := n1_; have HB := n2_; clear n0_ n1_ n2_; (try clear hb); (try clear hk); obtain ⟨hcz20_0, hcz20_1, hcz20_2⟩ := kk3_ BK101.1; have hfz20_0 := bf_ BK101.out 0; have hfz20_1 := bf_ BK101.out 1; have hfz20_2 := bf_ BK101.out 2; obtain ⟨hcz21_0, hcz21_1, hcz21_2⟩ := kk3_ BK102.1; have hfz21_0 := bf_ BK102.out 0; have hfz21_1 := bf_ BK102.out 1; have hfz21_2 := bf_ BK102.out 2))
   go_ret
   exact ⟨by rfl, by repeat ((with_reducible exact HB.out))⟩
 ·replace c4 := Bool.eq_false_iff.mpr c4
  subst c4
  have H1 : (some false) = some r := by rw [if_neg (show ¬ (false = true) by decide)] at H; exact H
  clear H
  have H := H1
  clear H1
  obtain rfl := Option.some.inj H
  go_enter Try.func48, Try.ntmps48
  go_wp2_with (first | ((with_reducible refine gate_dst (N := 2) rfl ?_); refine be_ 2 #[.int .i64 a0_0, .int .i64 a0_1, .int .i64 a0_2] 42 ?_; intro gb101 hg w22 hbox hb; have n0_ := A_ (bs_ HB.1 hb); have n1_ := A_ (hbox); have n2_ := A_ (bS_ HB.out hg); have n3_ := A_ (bS_ HB.out hg); clear HB; have HB := n0_; have BK101 := n1_; have GW101 := n2_; have GE101 := n3_; clear n0_ n1_ n2_ n3_ hb hbox hg) | ((with_reducible refine gate_dst (N := 3) rfl ?_); refine be_ 3 #[.int .i64 a1_0, .int .i64 a1_1, .int .i64 a1_2] 42 ?_; intro gb102 hg w23 hbox hb; have n0_ := A_ (blk_below BK101.out hb); have n1_ := A_ (bs_ HB.1 hb); have n2_ := A_ (hbox); have n3_ := A_ (bS_ HB.out hg); have n4_ := A_ (bS_ HB.out hg); have n5_ := A_ ((by rw [hg]; exact Nat.ne_of_lt (blk_lt (g := gb101) (o := .cells #[.int .i64 a0_0, .int .i64 a0_1, .int .i64 a0_2] 42 (0, 0)) BK101.out) : gb101 ≠ gb102)); have n6_ := A_ ((by rw [hg]; exact Nat.ne_of_gt (blk_lt (g := gb101) (o := .cells #[.int .i64 a0_0, .int .i64 a0_1, .int .i64 a0_2] 42 (0, 0)) BK101.out) : gb102 ≠ gb101)); clear BK101 HB; have BK101 := n0_; have HB := n1_; have BK102 := n2_; have GW102 := n3_; have GE102 := n4_; have NB101_102 := n5_; have NB102_101 := n6_; clear n0_ n1_ n2_ n3_ n4_ n5_ n6_ hb hbox hg; have hnb24 := NB101_102.out; have hnc24 := NB102_101.out; obtain ⟨hcz25_0, hcz25_1, hcz25_2⟩ := kk3_ BK101.1; have hfz25_0 := bf_ BK101.out 0; have hfz25_1 := bf_ BK101.out 1; have hfz25_2 := bf_ BK101.out 2; obtain ⟨hcz26_0, hcz26_1, hcz26_2⟩ := kk3_ BK102.1; have hfz26_0 := bf_ BK102.out 0; have hfz26_1 := bf_ BK102.out 1; have hfz26_2 := bf_ BK102.out 2) | ((with_reducible refine gate_callee (f := 89) rfl ?_); refine gl_ 9 Try.func89 #[.agg #[.int .i64 a0_0, .int .i64 a0_1], .agg #[.int .i64 a1_0, .int .i64 a1_1]] ?_; (with_reducible refine (laws_eqGrid.calls a0_0 a0_1 a1_0 a1_1 false _ A3.out).mono ?_); rintro e w27 ⟨rfl, hb⟩; refine ⟨_, rfl, ?_⟩; have n0_ := A_ (blk_below BK101.out hb); have n1_ := A_ (blk_below BK102.out hb); have n2_ := A_ (bs_ HB.1 hb); clear BK101 BK102 HB; have BK101 := n0_; have BK102 := n1_; have HB := n2_; clear n0_ n1_ n2_; (try clear hb); (try clear hk)))
  go_ret
  exact ⟨by rfl, by repeat ((with_reducible exact HB.out))⟩

def spec_l01In.f (a0 : Int) (a1 : Int) (a2 : Int) : Option (Bool) := if a0 ≥ a1 then (some (decide (a0 ≤ a2))) else (some false)
set_option maxHeartbeats 8000000 in
set_option maxRecDepth 100000 in
theorem spec_l01In.calls (a0 : Int) (a1 : Int) (a2 : Int) (r : Bool) (w : World) (h : spec_l01In.f a0 a1 a2 = some r) :
  Calls Try.prog 61 #[.int .i64 a0, .int .i64 a1, .int .i64 a2] w fun e w' => e = .returned (.bool r) ∧ Drawn0 w w' := by
 have H : (if a0 ≥ a1 then (some (decide (a0 ≤ a2))) else (some false)) = some r := h
 clear h
 by_cases c4 : a0 ≥ a1
 ·rw [if_pos c4] at H
  have c4b0 : decide (a1 ≤ a0) = true := decide_eq_true c4
  clear c4
  obtain rfl := Option.some.inj H
  go_enter Try.func61, Try.ntmps61
  go_wp2
  go_ret
  exact ⟨by first | rfl | (simp; done) | (simp [*]; done), by repeat (first | exact Drawn0.refl _ | apply Drawn0.step)⟩
 ·rw [if_neg c4] at H
  have c4b0 : decide (a1 ≤ a0) = false := decide_eq_false c4
  clear c4
  obtain rfl := Option.some.inj H
  go_enter Try.func61, Try.ntmps61
  go_wp2
  go_ret
  exact ⟨by first | rfl | (simp; done) | (simp [*]; done), by repeat (first | exact Drawn0.refl _ | apply Drawn0.step)⟩

def spec_GridOk.f (a0_0 : Int) (a0_1 : Int) : Option (Bool) := (spec_l01In.f a0_0 1 4).bind fun t102 => (if t102 = true then ((spec_l01In.f a0_1 1 4).bind fun t103 => (some t103)) else (some false))
set_option maxHeartbeats 8000000 in
set_option maxRecDepth 100000 in
theorem spec_GridOk.calls (a0_0 : Int) (a0_1 : Int) (r : Bool) (w : World) (h : spec_GridOk.f a0_0 a0_1 = some r) :
  Calls Try.prog 74 #[.agg #[.int .i64 a0_0, .int .i64 a0_1]] w fun e w' => e = .returned (.bool r) ∧ Below w.heap.size w w' := by
 have hu40 := Try.underlying40
 have HB := A_ (Below.refl w.heap.size w)
 have H : ((spec_l01In.f a0_0 1 4).bind fun t102 => (if t102 = true then ((spec_l01In.f a0_1 1 4).bind fun t103 => (some t103)) else (some false))) = some r := h
 clear h
 obtain ⟨t102, A20, H⟩ := oB_ H
 (try dsimp only at H); have A2 := A_ A20; clear A20
 by_cases c3 : t102 = true
 ·subst c3
  rw [if_pos rfl] at H
  obtain ⟨t103, A40, H⟩ := oB_ H
  (try dsimp only at H); have A4 := A_ A40; clear A40
  obtain rfl := Option.some.inj H
  go_enter Try.func74, Try.ntmps74
  go_wp2_with (first | ((with_reducible refine gate_dst (N := 1) rfl ?_); refine be_ 1 #[.int .i64 a0_0, .int .i64 a0_1] 40 ?_; intro gb101 hg w5 hbox hb; have n0_ := A_ (bs_ HB.1 hb); have n1_ := A_ (hbox); have n2_ := A_ (bS_ HB.out hg); have n3_ := A_ (bS_ HB.out hg); clear HB; have HB := n0_; have BK101 := n1_; have GW101 := n2_; have GE101 := n3_; clear n0_ n1_ n2_ n3_ hb hbox hg; obtain ⟨hcz6_0, hcz6_1⟩ := kk2_ BK101.1; have hfz6_0 := bf_ BK101.out 0; have hfz6_1 := bf_ BK101.out 1) | ((with_reducible refine gate_callee (f := 61) rfl ?_); refine gl_ 5 Try.func61 #[.int .i64 a0_0, .int .i64 1, .int .i64 4] ?_; (with_reducible refine (spec_l01In.calls a0_0 1 4 true _ A2.out).mono ?_); rintro e w' ⟨rfl, ⟨nd, rfl⟩⟩; refine ⟨_, rfl, ?_⟩) | (go_at_call 61; (with_reducible refine (spec_l01In.calls a0_1 1 4 t103 _ A4.out).mono ?_); rintro e w' ⟨rfl, ⟨nd, rfl⟩⟩))
  go_ret
  exact ⟨by rfl, by repeat ((with_reducible first | exact HB.out | apply pw_below_drewN))⟩
 ·replace c3 := Bool.eq_false_iff.mpr c3
  subst c3
  have H1 : (some false) = some r := by rw [if_neg (show ¬ (false = true) by decide)] at H; exact H
  clear H
  have H := H1
  clear H1
  obtain rfl := Option.some.inj H
  go_enter Try.func74, Try.ntmps74
  go_wp2_with (first | ((with_reducible refine gate_dst (N := 1) rfl ?_); refine be_ 1 #[.int .i64 a0_0, .int .i64 a0_1] 40 ?_; intro gb101 hg w7 hbox hb; have n0_ := A_ (bs_ HB.1 hb); have n1_ := A_ (hbox); have n2_ := A_ (bS_ HB.out hg); have n3_ := A_ (bS_ HB.out hg); clear HB; have HB := n0_; have BK101 := n1_; have GW101 := n2_; have GE101 := n3_; clear n0_ n1_ n2_ n3_ hb hbox hg; obtain ⟨hcz8_0, hcz8_1⟩ := kk2_ BK101.1; have hfz8_0 := bf_ BK101.out 0; have hfz8_1 := bf_ BK101.out 1) | ((with_reducible refine gate_callee (f := 61) rfl ?_); refine gl_ 5 Try.func61 #[.int .i64 a0_0, .int .i64 1, .int .i64 4] ?_; (with_reducible refine (spec_l01In.calls a0_0 1 4 false _ A2.out).mono ?_); rintro e w' ⟨rfl, ⟨nd, rfl⟩⟩; refine ⟨_, rfl, ?_⟩))
  go_ret
  exact ⟨by rfl, by repeat ((with_reducible first | exact HB.out | apply pw_below_drewN))⟩

def spec_l02East.f (a0_0 : Int) (a0_1 : Int) : Option (Int) := some (wrap64 (a0_1 * (wrap64 (a0_0 - 1))))
set_option maxHeartbeats 8000000 in
set_option maxRecDepth 100000 in
theorem spec_l02East.calls (a0_0 : Int) (a0_1 : Int) (r : Int) (w : World) (h : spec_l02East.f a0_0 a0_1 = some r) :
  Calls Try.prog 75 #[.agg #[.int .i64 a0_0, .int .i64 a0_1]] w fun e w' => e = .returned (.int .i64 r) ∧ Below w.heap.size w w' := by
 have hu40 := Try.underlying40
 have HB := A_ (Below.refl w.heap.size w)
 have H : (some (wrap64 (a0_1 * (wrap64 (a0_0 - 1))))) = some r := h
 clear h
 obtain rfl := Option.some.inj H
 go_enter Try.func75, Try.ntmps75
 go_wp2_with (((with_reducible refine gate_dst (N := 1) rfl ?_); refine be_ 1 #[.int .i64 a0_0, .int .i64 a0_1] 40 ?_; intro gb101 hg w2 hbox hb; have n0_ := A_ (bs_ HB.1 hb); have n1_ := A_ (hbox); have n2_ := A_ (bS_ HB.out hg); have n3_ := A_ (bS_ HB.out hg); clear HB; have HB := n0_; have BK101 := n1_; have GW101 := n2_; have GE101 := n3_; clear n0_ n1_ n2_ n3_ hb hbox hg; obtain ⟨hcz3_0, hcz3_1⟩ := kk2_ BK101.1; have hfz3_0 := bf_ BK101.out 0; have hfz3_1 := bf_ BK101.out 1))
 go_ret
 exact ⟨by rfl, by repeat ((with_reducible exact HB.out))⟩

def spec_CountGaps.f (a0_0 : Int) (a0_1 : Int) : Option (Int) := (spec_GridOk.f a0_0 a0_1).bind fun t102 => (if t102 = true then ((spec_l02East.f a0_0 a0_1).bind fun t103 => (some (wrap64 (t103 + (wrap64 (a0_0 * (wrap64 (a0_1 - 1)))))))) else (some 0))
def spec_CountGaps.T3 : Bool × List (List Nat × List Nat) := (true, [([], []), ([0], [0]), ([], []), ([2], [2]), ([], []), ([4], [4]), ([5], [5]), ([3, 6], [3, 6]), ([1, 7], [1, 7]), ([8, 1, 0, 1, 2, 3, 4, 5, 6, 7, 8], [8])])
def spec_CountGaps.B3 : List Nat := [0, 1, 0, 4, 0, 16, 48, 124, 255, 511]
theorem spec_CountGaps.tab3 : rtab .any (opsOf Try.f32 3) = spec_CountGaps.T3 := by kernel_rfl
theorem spec_CountGaps.bits3 : waitsOk spec_CountGaps.T3.2 spec_CountGaps.B3 = true := by kernel_rfl
set_option maxHeartbeats 8000000 in
set_option maxRecDepth 100000 in
theorem spec_CountGaps.calls (a0_0 : Int) (a0_1 : Int) (r : Int) (w : World) (h : spec_CountGaps.f a0_0 a0_1 = some r) :
  Calls Try.prog 32 #[.agg #[.int .i64 a0_0, .int .i64 a0_1]] w fun e w' => e = .returned (.int .i64 r) ∧ Below w.heap.size w w' := by
 have hu40 := Try.underlying40
 have HB := A_ (Below.refl w.heap.size w)
 have H : ((spec_GridOk.f a0_0 a0_1).bind fun t102 => (if t102 = true then ((spec_l02East.f a0_0 a0_1).bind fun t103 => (some (wrap64 (t103 + (wrap64 (a0_0 * (wrap64 (a0_1 - 1)))))))) else (some 0))) = some r := h
 clear h
 obtain ⟨t102, A20, H⟩ := oB_ H
 (try dsimp only at H); have A2 := A_ A20; clear A20
 by_cases c3 : t102 = true
 ·subst c3
  rw [if_pos rfl] at H
  obtain ⟨t103, A40, H⟩ := oB_ H
  (try dsimp only at H); have A4 := A_ A40; clear A40
  obtain rfl := Option.some.inj H
  go_enter Try.func32, Try.ntmps32
  try go_wp2_with (first | ((with_reducible refine gate_dst (N := 1) rfl ?_); refine be_ 1 #[.int .i64 a0_0, .int .i64 a0_1] 40 ?_; intro gb101 hg w5 hbox hb; have n0_ := A_ (bs_ HB.1 hb); have n1_ := A_ (hbox); have n2_ := A_ (bS_ HB.out hg); have n3_ := A_ (bS_ HB.out hg); clear HB; have HB := n0_; have BK101 := n1_; have GW101 := n2_; have GE101 := n3_; clear n0_ n1_ n2_ n3_ hb hbox hg; obtain ⟨hcz6_0, hcz6_1⟩ := kk2_ BK101.1; have hfz6_0 := bf_ BK101.out 0; have hfz6_1 := bf_ BK101.out 1) | ((with_reducible refine gate_callee (f := 74) rfl ?_); refine gl_ 4 Try.func74 #[.agg #[.int .i64 a0_0, .int .i64 a0_1]] ?_; (with_reducible refine (spec_GridOk.calls a0_0 a0_1 true _ A2.out).mono ?_); rintro e w7 ⟨rfl, hb⟩; refine ⟨_, rfl, ?_⟩; have n0_ := A_ (blk_below BK101.out hb); have n1_ := A_ (bs_ HB.1 hb); clear BK101 HB; have BK101 := n0_; have HB := n1_; clear n0_ n1_; (try clear hb); (try clear hk)))
  have n0_ := A_ (blk_drew BK101.out); have n1_ := A_ (below_drew1 HB.out); clear BK101 HB; have BK101 := n0_; have HB := n1_; clear n0_ n1_
  refine start_ (n := 10) (S := fun w' => w'.cell? ⟨gb101, 0, none⟩ = some (.int .i64 a0_0) ∧ w'.cell? ⟨gb101, 1, none⟩ = some (.int .i64 a0_1)) (ds := []) #[false, false, false, false, false, false, false, false, false, false] (by kernel_rfl) rfl rfl ⟨(blk_cell BK101.out 0).trans rfl, (blk_cell BK101.out 1).trans rfl⟩ (fun hHeld => ?_); refine with_tabW spec_CountGaps.tab3 spec_CountGaps.bits3 (fun HT_ HW_ => ?_)
  generalize w7.drew = w8 at BK101 HB hHeld ⊢; refine pv_ 2 8 HT_ ?_; refine pv_ 4 10 HT_ ?_; refine tv_ 0 6 rfl HT_ HW_ hHeld (by rintro w' ⟨s0, s1⟩; go_simp; with_reducible rfl) ?_
  refine tv_ 3 9 rfl HT_ HW_ hHeld (by rintro w' ⟨s0, s1⟩; go_simp; with_reducible rfl) ?_
  refine tv_ 5 11 rfl HT_ HW_ hHeld (by rintro w' ⟨s0, s1⟩; go_simp; with_reducible rfl) ?_
  refine pv_ 6 12 HT_ ?_; refine pv_ 7 13 HT_ ?_
  refine on_ 1 (some 7) rfl rfl HT_ (by kernel_rfl) (by decide) (fun K hK => ?_)
  refine gs_ Try.func75 #[.agg #[.int .i64 a0_0, .int .i64 a0_1]] ?_
  with_reducible refine (spec_l02East.calls a0_0 a0_1 t103 _ A4.out).mono ?_
  rintro e w9 ⟨rfl, hb⟩
  refine ⟨_, rfl, ?_⟩
  have n0_ := A_ (blk_below BK101.out hb)
  have n1_ := A_ (bs_ HB.1 hb)
  clear BK101 HB; have BK101 := n0_; have HB := n1_; clear n0_ n1_; (try clear hb); (try clear hk)
  refine hK.out _ _ ⟨(blk_cell BK101.out 0).trans rfl, (blk_cell BK101.out 1).trans rfl⟩ (fun hHeld => ?_)
  clear hK K
  refine norm_ (a' := ?_) ?_ ?_; rotate_left; (show Act.put _ (some 7) _ = _; simp only [P6_]; rfl)
  refine pv_ 8 14 HT_ ?_; refine pv_ 9 2 HT_ ?_
  refine done_ (done_of HT_.out (by kernel_rfl)) ?_
  try go_wp2
  go_ret
  exact ⟨by rfl, by repeat ((with_reducible exact HB.out))⟩
 ·replace c3 := Bool.eq_false_iff.mpr c3
  subst c3
  have H1 : (some 0) = some r := by rw [if_neg (show ¬ (false = true) by decide)] at H; exact H
  clear H
  have H := H1
  clear H1
  obtain rfl := Option.some.inj H
  go_enter Try.func32, Try.ntmps32
  go_wp2_with (first | ((with_reducible refine gate_dst (N := 1) rfl ?_); refine be_ 1 #[.int .i64 a0_0, .int .i64 a0_1] 40 ?_; intro gb101 hg w10 hbox hb; have n0_ := A_ (bs_ HB.1 hb); have n1_ := A_ (hbox); have n2_ := A_ (bS_ HB.out hg); have n3_ := A_ (bS_ HB.out hg); clear HB; have HB := n0_; have BK101 := n1_; have GW101 := n2_; have GE101 := n3_; clear n0_ n1_ n2_ n3_ hb hbox hg; obtain ⟨hcz11_0, hcz11_1⟩ := kk2_ BK101.1; have hfz11_0 := bf_ BK101.out 0; have hfz11_1 := bf_ BK101.out 1) | ((with_reducible refine gate_callee (f := 74) rfl ?_); refine gl_ 4 Try.func74 #[.agg #[.int .i64 a0_0, .int .i64 a0_1]] ?_; (with_reducible refine (spec_GridOk.calls a0_0 a0_1 false _ A2.out).mono ?_); rintro e w12 ⟨rfl, hb⟩; refine ⟨_, rfl, ?_⟩; have n0_ := A_ (blk_below BK101.out hb); have n1_ := A_ (bs_ HB.1 hb); clear BK101 HB; have BK101 := n0_; have HB := n1_; clear n0_ n1_; (try clear hb); (try clear hk)))
  go_ret
  exact ⟨by rfl, by repeat ((with_reducible exact HB.out))⟩

def spec_CountCells.f (a0_0 : Int) (a0_1 : Int) : Option (Int) := (spec_GridOk.f a0_0 a0_1).bind fun t102 => (if t102 = true then (some (wrap64 (a0_0 * a0_1))) else (some 0))
set_option maxHeartbeats 8000000 in
set_option maxRecDepth 100000 in
theorem spec_CountCells.calls (a0_0 : Int) (a0_1 : Int) (r : Int) (w : World) (h : spec_CountCells.f a0_0 a0_1 = some r) :
  Calls Try.prog 36 #[.agg #[.int .i64 a0_0, .int .i64 a0_1]] w fun e w' => e = .returned (.int .i64 r) ∧ Below w.heap.size w w' := by
 have hu40 := Try.underlying40
 have HB := A_ (Below.refl w.heap.size w)
 have H : ((spec_GridOk.f a0_0 a0_1).bind fun t102 => (if t102 = true then (some (wrap64 (a0_0 * a0_1))) else (some 0))) = some r := h
 clear h
 obtain ⟨t102, A20, H⟩ := oB_ H
 (try dsimp only at H); have A2 := A_ A20; clear A20
 by_cases c3 : t102 = true
 ·subst c3
  rw [if_pos rfl] at H
  obtain rfl := Option.some.inj H
  go_enter Try.func36, Try.ntmps36
  go_wp2_with (first | ((with_reducible refine gate_dst (N := 1) rfl ?_); refine be_ 1 #[.int .i64 a0_0, .int .i64 a0_1] 40 ?_; intro gb101 hg w4 hbox hb; have n0_ := A_ (bs_ HB.1 hb); have n1_ := A_ (hbox); have n2_ := A_ (bS_ HB.out hg); have n3_ := A_ (bS_ HB.out hg); clear HB; have HB := n0_; have BK101 := n1_; have GW101 := n2_; have GE101 := n3_; clear n0_ n1_ n2_ n3_ hb hbox hg; obtain ⟨hcz5_0, hcz5_1⟩ := kk2_ BK101.1; have hfz5_0 := bf_ BK101.out 0; have hfz5_1 := bf_ BK101.out 1) | ((with_reducible refine gate_callee (f := 74) rfl ?_); refine gl_ 4 Try.func74 #[.agg #[.int .i64 a0_0, .int .i64 a0_1]] ?_; (with_reducible refine (spec_GridOk.calls a0_0 a0_1 true _ A2.out).mono ?_); rintro e w6 ⟨rfl, hb⟩; refine ⟨_, rfl, ?_⟩; have n0_ := A_ (blk_below BK101.out hb); have n1_ := A_ (bs_ HB.1 hb); clear BK101 HB; have BK101 := n0_; have HB := n1_; clear n0_ n1_; (try clear hb); (try clear hk); obtain ⟨hcz7_0, hcz7_1⟩ := kk2_ BK101.1; have hfz7_0 := bf_ BK101.out 0; have hfz7_1 := bf_ BK101.out 1))
  go_ret
  exact ⟨by rfl, by repeat ((with_reducible exact HB.out))⟩
 ·replace c3 := Bool.eq_false_iff.mpr c3
  subst c3
  have H1 : (some 0) = some r := by rw [if_neg (show ¬ (false = true) by decide)] at H; exact H
  clear H
  have H := H1
  clear H1
  obtain rfl := Option.some.inj H
  go_enter Try.func36, Try.ntmps36
  go_wp2_with (first | ((with_reducible refine gate_dst (N := 1) rfl ?_); refine be_ 1 #[.int .i64 a0_0, .int .i64 a0_1] 40 ?_; intro gb101 hg w8 hbox hb; have n0_ := A_ (bs_ HB.1 hb); have n1_ := A_ (hbox); have n2_ := A_ (bS_ HB.out hg); have n3_ := A_ (bS_ HB.out hg); clear HB; have HB := n0_; have BK101 := n1_; have GW101 := n2_; have GE101 := n3_; clear n0_ n1_ n2_ n3_ hb hbox hg; obtain ⟨hcz9_0, hcz9_1⟩ := kk2_ BK101.1; have hfz9_0 := bf_ BK101.out 0; have hfz9_1 := bf_ BK101.out 1) | ((with_reducible refine gate_callee (f := 74) rfl ?_); refine gl_ 4 Try.func74 #[.agg #[.int .i64 a0_0, .int .i64 a0_1]] ?_; (with_reducible refine (spec_GridOk.calls a0_0 a0_1 false _ A2.out).mono ?_); rintro e w10 ⟨rfl, hb⟩; refine ⟨_, rfl, ?_⟩; have n0_ := A_ (blk_below BK101.out hb); have n1_ := A_ (bs_ HB.1 hb); clear BK101 HB; have BK101 := n0_; have HB := n1_; clear n0_ n1_; (try clear hb); (try clear hk)))
  go_ret
  exact ⟨by rfl, by repeat ((with_reducible exact HB.out))⟩

def spec_l03Bit.f (a0 : Int) (a1 : Int) : Option (Bool) := if 0 ≤ a1 then (some ((Go.bits .and .i64 (shr .i64 a0 a1) 1) == 1)) else (none)
set_option maxHeartbeats 8000000 in
set_option maxRecDepth 100000 in
theorem spec_l03Bit.calls (a0 : Int) (a1 : Int) (r : Bool) (w : World) (h : spec_l03Bit.f a0 a1 = some r) :
  Calls Try.prog 83 #[.int .i64 a0, .int .i64 a1] w fun e w' => e = .returned (.bool r) ∧ Drawn0 w w' := by
 have H : (if 0 ≤ a1 then (some ((Go.bits .and .i64 (shr .i64 a0 a1) 1) == 1)) else (none)) = some r := h
 clear h
 replace H := iN_ H; obtain ⟨c3, H⟩ := H
 have c3b0 := eq_true c3
 have c3b1 : decide (0 ≤ a1) = true := decide_eq_true c3
 clear c3
 obtain ⟨ji4, hji4⟩ : ∃ j_ : Int, (shr .i64 a0 a1) = j_ := ⟨_, rfl⟩
 replace H : (some ((Go.bits .and .i64 (ji4) 1) == 1)) = some r := by first | (rw [hji4] at H; exact H) | (simp only [hji4] at H ⊢; exact H)
 have hji4_ : (a0 / 2 ^ min a1.toNat 64) = ji4 := hji4
 have hji4z : a1 ≤ 64 → (a0 / 2 ^ a1.toNat) = ji4 := shr_small hji4
 obtain rfl := Option.some.inj H
 go_enter Try.func83, Try.ntmps83
 go_wp2
 go_ret
 exact ⟨by first | rfl | (simp; done) | (simp only [← hji4] <;> (first | rfl | simp)) | (simp [*]; done), by repeat (first | exact Drawn0.refl _ | apply Drawn0.step)⟩

def spec_EndsOf.f (a0_0 : Int) (a0_1 : Int) (a1 : Int) : Option (Int × Int) := (spec_CountGaps.f a0_0 a0_1).bind fun t102 => ((spec_l01In.f a1 0 (wrap64 (t102 - 1))).bind fun t103 => (if t103 = true then ((spec_l02East.f a0_0 a0_1).bind fun t104 => (if a1 < t104 then (if (wrap64 (a0_0 - 1)) = 0 then (none) else (some (wrap64 ((wrap64 ((wrap64 (Int.tdiv a1 (wrap64 (a0_0 - 1)))) * a0_0)) + (Int.tmod a1 (wrap64 (a0_0 - 1)))), wrap64 ((wrap64 ((wrap64 ((wrap64 (Int.tdiv a1 (wrap64 (a0_0 - 1)))) * a0_0)) + (Int.tmod a1 (wrap64 (a0_0 - 1))))) + 1)))) else ((spec_l02East.f a0_0 a0_1).bind fun t105 => (some (wrap64 (a1 - t105), wrap64 ((wrap64 (a1 - t105)) + a0_0)))))) else (some ((-1), (-1)))))
set_option maxHeartbeats 8000000 in
set_option maxRecDepth 100000 in
theorem spec_EndsOf.calls (a0_0 : Int) (a0_1 : Int) (a1 : Int) (r1 : Int) (r2 : Int) (w : World) (h : spec_EndsOf.f a0_0 a0_1 a1 = some (r1, r2)) :
  Calls Try.prog 84 #[.agg #[.int .i64 a0_0, .int .i64 a0_1], .int .i64 a1] w fun e w' => e = .returned (.tuple #[.int .i64 r1, .int .i64 r2]) ∧ Below w.heap.size w w' := by
 have hu40 := Try.underlying40
 have HB := A_ (Below.refl w.heap.size w)
 have H : ((spec_CountGaps.f a0_0 a0_1).bind fun t102 => ((spec_l01In.f a1 0 (wrap64 (t102 - 1))).bind fun t103 => (if t103 = true then ((spec_l02East.f a0_0 a0_1).bind fun t104 => (if a1 < t104 then (if (wrap64 (a0_0 - 1)) = 0 then (none) else (some (wrap64 ((wrap64 ((wrap64 (Int.tdiv a1 (wrap64 (a0_0 - 1)))) * a0_0)) + (Int.tmod a1 (wrap64 (a0_0 - 1)))), wrap64 ((wrap64 ((wrap64 ((wrap64 (Int.tdiv a1 (wrap64 (a0_0 - 1)))) * a0_0)) + (Int.tmod a1 (wrap64 (a0_0 - 1))))) + 1)))) else ((spec_l02East.f a0_0 a0_1).bind fun t105 => (some (wrap64 (a1 - t105), wrap64 ((wrap64 (a1 - t105)) + a0_0)))))) else (some ((-1), (-1)))))) = some (r1, r2) := h
 clear h
 obtain ⟨t102, A30, H⟩ := oB_ H
 (try dsimp only at H); have A3 := A_ A30; clear A30
 obtain ⟨t103, A40, H⟩ := oB_ H
 (try dsimp only at H); have A4 := A_ A40; clear A40
 by_cases c5 : t103 = true
 ·subst c5
  rw [if_pos rfl] at H
  obtain ⟨t104, A60, H⟩ := oB_ H
  (try dsimp only at H); have A6 := A_ A60; clear A60
  by_cases c7 : a1 < t104
  ·rw [if_pos c7] at H
   have c7b0 : decide (a1 < t104) = true := decide_eq_true c7
   clear c7
   by_cases c8 : (wrap64 (a0_0 - 1)) = 0
   ·rw [if_pos c8] at H
    exact absurd H (by simp)
   ·rw [if_neg c8] at H
    have c8b0 : ((wrap64 (a0_0 - 1)) == 0) = false := beq_eq_false_iff_ne.mpr c8
    have c8b1 : ((wrap64 (a0_0 - 1)) != 0) = true := bne_iff_ne.mpr c8
    simp only [Option.some.injEq, Prod.mk.injEq] at H
    obtain ⟨rfl, rfl⟩ := H
    go_enter Try.func84, Try.ntmps84
    go_wp2_with (first | ((with_reducible refine gate_dst (N := 2) rfl ?_); refine be_ 2 #[.int .i64 a0_0, .int .i64 a0_1] 40 ?_; intro gb101 hg w9 hbox hb; have n0_ := A_ (bs_ HB.1 hb); have n1_ := A_ (hbox); have n2_ := A_ (bS_ HB.out hg); have n3_ := A_ (bS_ HB.out hg); clear HB; have HB := n0_; have BK101 := n1_; have GW101 := n2_; have GE101 := n3_; clear n0_ n1_ n2_ n3_ hb hbox hg; obtain ⟨hcz10_0, hcz10_1⟩ := kk2_ BK101.1; have hfz10_0 := bf_ BK101.out 0; have hfz10_1 := bf_ BK101.out 1) | (go_at_call 32; (with_reducible refine (spec_CountGaps.calls a0_0 a0_1 t102 _ A3.out).mono ?_); rintro e w11 ⟨rfl, hb⟩; (try clear A3); have n0_ := A_ (blk_below BK101.out hb); have n1_ := A_ (bs_ HB.1 hb); clear BK101 HB; have BK101 := n0_; have HB := n1_; clear n0_ n1_; (try clear hb); (try clear hk)) | (go_at_call 61; (with_reducible refine (spec_l01In.calls a1 0 (wrap64 (t102 - 1)) true _ A4.out).mono ?_); rintro e w' ⟨rfl, ⟨nd, rfl⟩⟩; (try clear A4); (try fail); obtain ⟨hcz12_0, hcz12_1⟩ := kk2_ BK101.1; have hfz12_0 := bf_ BK101.out 0; have hfz12_1 := bf_ BK101.out 1) | (go_at_call 75; (with_reducible refine (spec_l02East.calls a0_0 a0_1 t104 _ A6.out).mono ?_); rintro e w13 ⟨rfl, hb⟩; (try clear A6); have n0_ := A_ (blk_below (g := gb101) (o := .cells #[.int .i64 a0_0, .int .i64 a0_1] 40 (0, 0)) (by (with_reducible repeat (refine blk_drewN ?_ _)); exact BK101.out) hb); have n1_ := A_ (below_step (by repeat ((with_reducible first | exact HB.out | apply pw_below_drewN))) hb); clear BK101 HB; have BK101 := n0_; have HB := n1_; clear n0_ n1_; (try clear hb); (try clear hk); obtain ⟨hcz14_0, hcz14_1⟩ := kk2_ BK101.1; have hfz14_0 := bf_ BK101.out 0; have hfz14_1 := bf_ BK101.out 1))
    repeat (go_quiet (fail); try go_wp2_with (fail))
    go_ret2
    exact ⟨by rfl, by repeat ((with_reducible first | exact HB.out | apply pw_below_drewN))⟩
  ·rw [if_neg c7] at H
   have c7b0 : decide (a1 < t104) = false := decide_eq_false c7
   clear c7
   obtain ⟨t105, A150, H⟩ := oB_ H
   (try dsimp only at H); have A15 := A_ A150; clear A150
   simp only [Option.some.injEq, Prod.mk.injEq] at H
   obtain ⟨rfl, rfl⟩ := H
   go_enter Try.func84, Try.ntmps84
   go_wp2_with (first | ((with_reducible refine gate_dst (N := 2) rfl ?_); refine be_ 2 #[.int .i64 a0_0, .int .i64 a0_1] 40 ?_; intro gb101 hg w16 hbox hb; have n0_ := A_ (bs_ HB.1 hb); have n1_ := A_ (hbox); have n2_ := A_ (bS_ HB.out hg); have n3_ := A_ (bS_ HB.out hg); clear HB; have HB := n0_; have BK101 := n1_; have GW101 := n2_; have GE101 := n3_; clear n0_ n1_ n2_ n3_ hb hbox hg; obtain ⟨hcz17_0, hcz17_1⟩ := kk2_ BK101.1; have hfz17_0 := bf_ BK101.out 0; have hfz17_1 := bf_ BK101.out 1) | (go_at_call 32; (with_reducible refine (spec_CountGaps.calls a0_0 a0_1 t102 _ A3.out).mono ?_); rintro e w18 ⟨rfl, hb⟩; (try clear A3); have n0_ := A_ (blk_below BK101.out hb); have n1_ := A_ (bs_ HB.1 hb); clear BK101 HB; have BK101 := n0_; have HB := n1_; clear n0_ n1_; (try clear hb); (try clear hk)) | (go_at_call 61; (with_reducible refine (spec_l01In.calls a1 0 (wrap64 (t102 - 1)) true _ A4.out).mono ?_); rintro e w' ⟨rfl, ⟨nd, rfl⟩⟩; (try clear A4); (try fail); obtain ⟨hcz19_0, hcz19_1⟩ := kk2_ BK101.1; have hfz19_0 := bf_ BK101.out 0; have hfz19_1 := bf_ BK101.out 1) | (go_at_call 75; (with_reducible refine (spec_l02East.calls a0_0 a0_1 t104 _ A6.out).mono ?_); rintro e w20 ⟨rfl, hb⟩; (try clear A6); have n0_ := A_ (blk_below (g := gb101) (o := .cells #[.int .i64 a0_0, .int .i64 a0_1] 40 (0, 0)) (by (with_reducible repeat (refine blk_drewN ?_ _)); exact BK101.out) hb); have n1_ := A_ (below_step (by repeat ((with_reducible first | exact HB.out | apply pw_below_drewN))) hb); clear BK101 HB; have BK101 := n0_; have HB := n1_; clear n0_ n1_; (try clear hb); (try clear hk); obtain ⟨hcz21_0, hcz21_1⟩ := kk2_ BK101.1; have hfz21_0 := bf_ BK101.out 0; have hfz21_1 := bf_ BK101.out 1) | (go_at_call 75; (with_reducible refine (spec_l02East.calls a0_0 a0_1 t105 _ A15.out).mono ?_); rintro e w22 ⟨rfl, hb⟩; (try clear A15); have n0_ := A_ (blk_below BK101.out hb); have n1_ := A_ (bs_ HB.1 hb); clear BK101 HB; have BK101 := n0_; have HB := n1_; clear n0_ n1_; (try clear hb); (try clear hk); obtain ⟨hcz23_0, hcz23_1⟩ := kk2_ BK101.1; have hfz23_0 := bf_ BK101.out 0; have hfz23_1 := bf_ BK101.out 1))
   repeat (go_quiet (fail); try go_wp2_with (fail))
   go_ret2
   exact ⟨by rfl, by repeat ((with_reducible first | exact HB.out | apply pw_below_drewN))⟩
 ·replace c5 := Bool.eq_false_iff.mpr c5
  subst c5
  have H1 : (some ((-1), (-1))) = some (r1, r2) := by rw [if_neg (show ¬ (false = true) by decide)] at H; exact H
  clear H
  have H := H1
  clear H1
  simp only [Option.some.injEq, Prod.mk.injEq] at H
  obtain ⟨rfl, rfl⟩ := H
  go_enter Try.func84, Try.ntmps84
  go_wp2_with (first | ((with_reducible refine gate_dst (N := 2) rfl ?_); refine be_ 2 #[.int .i64 a0_0, .int .i64 a0_1] 40 ?_; intro gb101 hg w24 hbox hb; have n0_ := A_ (bs_ HB.1 hb); have n1_ := A_ (hbox); have n2_ := A_ (bS_ HB.out hg); have n3_ := A_ (bS_ HB.out hg); clear HB; have HB := n0_; have BK101 := n1_; have GW101 := n2_; have GE101 := n3_; clear n0_ n1_ n2_ n3_ hb hbox hg; obtain ⟨hcz25_0, hcz25_1⟩ := kk2_ BK101.1; have hfz25_0 := bf_ BK101.out 0; have hfz25_1 := bf_ BK101.out 1) | (go_at_call 32; (with_reducible refine (spec_CountGaps.calls a0_0 a0_1 t102 _ A3.out).mono ?_); rintro e w26 ⟨rfl, hb⟩; (try clear A3); have n0_ := A_ (blk_below BK101.out hb); have n1_ := A_ (bs_ HB.1 hb); clear BK101 HB; have BK101 := n0_; have HB := n1_; clear n0_ n1_; (try clear hb); (try clear hk)) | (go_at_call 61; (with_reducible refine (spec_l01In.calls a1 0 (wrap64 (t102 - 1)) false _ A4.out).mono ?_); rintro e w' ⟨rfl, ⟨nd, rfl⟩⟩; (try clear A4); (try fail)))
  repeat (go_quiet (fail); try go_wp2_with (fail))
  go_ret2
  exact ⟨by rfl, by repeat ((with_reducible first | exact HB.out | apply pw_below_drewN))⟩

end Go.Proofs.Ytoohcdfokejkdaa.P
