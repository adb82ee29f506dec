/- The statement FnTreeCounts of the seat, out of its plain form (FnTreeCounts_pure) and the walk of its Go function. Part 5 of 6: each Go function's walk, then the plain lemmas, then the row. No condition: it holds for every input. -/
import Derived.Test.YtoohcdfokejkdaaBFnTreeCounts4
import Derived.ChangeSlices
import Derived.SizedLaws
namespace Go.Proofs.Ytoohcdfokejkdaa.P
open Go.RowKit Go.Proofs.YtoohcdfokejkdaaW.PrintWords Go.Proofs.YtoohcdfokejkdaaW.PrintLast Go.Proofs.YtoohcdfokejkdaaW.PrintMore
attribute [local go_sem] max2_int min2_int max_two min_two max_three min_three max_four min_four   -- for this text's walks alone
set_option linter.unusedVariables false
set_option linter.unusedSimpArgs false

def laws_FnTreeCounts.l0 : Nat → Int → List (S42) → Int → Int → Int → Int → Int → Int → Int → Option (Bool)
 | 0, _, _, _, _, _, _, _, _, _ => none
 | k + 1, x5, x6, x7, x106000, x106001, x106002, x110000, x110001, x110002 => if x7 < (x6.length : Int) then (if 0 ≤ x7 then ((impl_IsPerfect.f k ((rd_T42 x6 x7).f0.f0) ((rd_T42 x6 x7).f0.f1) ((rd_T42 x6 x7).f1)).bind fun t116 => (if t116 = true then (if (Go.bits .andNot .i64 ((rd_T42 x6 x7).f1) x110002) = 0 then (if x7 > 0 then (if 0 ≤ (wrap64 (x7 - 1)) then (if (wrap64 (x7 - 1)) < (x6.length : Int) then (if ((rd_T42 x6 x7).f1) ≤ ((rd_T42 x6 (wrap64 (x7 - 1))).f1) then (some false) else (laws_FnTreeCounts.l0 k x5 x6 (wrap64 (x7 + 1)) x106000 x106001 x106002 x110000 x110001 x110002)) else (none)) else (none)) else (laws_FnTreeCounts.l0 k x5 x6 (wrap64 (x7 + 1)) x106000 x106001 x106002 x110000 x110001 x110002)) else (some false)) else (none))) else (none)) else ((impl_FullMaze.f x106000 x106001).bind fun bt120 => ((impl_CountTrees.f k bt120.1 bt120.2.1 bt120.2.2).bind fun t124 => (if t124 ≥ 1 then ((impl_LaplaceOf.f k x106000 x106001 x106002).bind fun t125 => ((impl_WithoutRow.f k t125 x5).bind fun t128 => ((impl_Determinant.f k t128).bind fun t131 => ((impl_CountTrees.f k x106000 x106001 x106002).bind fun t132 => (if t131 = t132 then ((impl_CountTrees.f k x110000 x110001 x110002).bind fun t133 => (if (x6.length : Int) = t133 then ((impl_CountFixed.f k x106000 x106001 0 (Go.bits .andNot .i64 bt120.2.2 x106002)).bind fun t134 => ((impl_CountTrees.f k x106000 x106001 x106002).bind fun t135 => (some (t134 == t135)))) else (some false))) else (none)))))) else (none))))
def laws_FnTreeCounts.f (k : Nat) (l0 : List Int) : Option (Bool) := (laws_big.f l0).bind fun t101 => (if t101 = true then (some true) else ((spec_DrawOpenMaze.f k l0).bind fun bt102 => ((spec_DrawSmallMaze.f k l0).bind fun bt106 => ((laws_at.f l0 0).bind fun t110 => ((spec_CountCells.f bt102.1 bt102.2.1).bind fun t111 => (if t111 = 0 then (none) else ((impl_ListTrees.f k bt106.1 bt106.2.1 bt106.2.2).bind fun t112 => (laws_FnTreeCounts.l0 k (Int.tmod t110 t111) t112 0 bt102.1 bt102.2.1 bt102.2.2 bt106.1 bt106.2.1 bt106.2.2))))))))
def laws_FnTreeCounts.T10 : Bool × List (List Nat × List Nat) := (true, [([], []), ([], []), ([0, 1], [0, 1]), ([2], [2]), ([3], [3]), ([4], [4]), ([5, 4], [5]), ([6], [6]), ([6], [6]), ([7, 8, 6], [6, 7, 8]), ([9, 6], [6, 9]), ([10, 6], [6, 10]), ([6], [6]), ([12, 6], [6, 12]), ([11, 13, 6], [6, 11, 13]), ([14, 6], [6, 14]), ([6, 15], [6, 15]), ([16, 6], [16]), ([17], [17]), ([18, 17], [17, 18]), ([19, 17, 17], [17, 19]), ([20], [20]), ([20], [20]), ([21, 22, 20], [20, 21, 22]), ([23, 20], [20, 23]), ([24, 20], [20, 24]), ([20], [20]), ([20], [20]), ([27, 20], [20, 27]), ([26, 28, 20], [20, 26, 28]), ([29, 20], [20, 29]), ([30, 20], [20, 30]), ([25, 31, 20], [20, 25, 31]), ([20, 32, 17], [17, 20, 32]), ([17, 33], [17, 33])])
def laws_FnTreeCounts.B10 : List Nat := [0, 0, 3, 7, 15, 31, 63, 127, 127, 511, 1023, 2047, 127, 4223, 16383, 32767, 65535, 131071, 262143, 524287, 1048575, 2097151, 2097151, 8388607, 16777215, 33554431, 2097151, 2097151, 136314879, 471859199, 1008730111, 2082471935, 4294967295, 8589934591, 17179869183]
theorem laws_FnTreeCounts.tab10 : rtab .any (opsOf Try.f12 10) = laws_FnTreeCounts.T10 := by kernel_rfl
theorem laws_FnTreeCounts.bits10 : waitsOk laws_FnTreeCounts.T10.2 laws_FnTreeCounts.B10 = true := by kernel_rfl
def laws_FnTreeCounts.T13 : Bool × List (List Nat × List Nat) := (true, [([], []), ([0], [0]), ([1], [1]), ([2, 1], [2]), ([3], [3]), ([4, 3, 3], [3, 4]), ([3], [3]), ([5, 6, 5, 3], [3, 5, 6]), ([7, 7, 3], [3, 7]), ([3], [3]), ([9, 8, 3], [3, 9]), ([8, 10, 3], [3, 8, 10]), ([3, 11], [3, 11]), ([12, 10], [12]), ([13], [13]), ([14, 13], [13, 14]), ([13], [13]), ([16, 13, 13], [13, 16]), ([15, 17, 13], [13, 15, 17]), ([13, 18], [13, 18]), ([19, 17], [19]), ([20], [20]), ([21, 20], [20, 21]), ([20], [20]), ([23, 20], [20, 23]), ([20], [20]), ([25, 20], [20, 25]), ([24, 26, 20], [20, 24, 26]), ([22, 27, 20, 20], [20, 22, 27]), ([20], [20]), ([29, 28, 20], [20, 29]), ([28, 30, 20], [20, 28, 30]), ([20, 31], [20, 31]), ([32, 30, 0, 1, 2, 3, 4, 5, 6, 7, 8, 9, 10, 11, 12, 13, 14, 15, 16, 17, 18, 19, 20, 21, 22, 23, 24, 25, 26, 27, 28, 29, 30, 31, 32], [32])])
def laws_FnTreeCounts.B13 : List Nat := [0, 1, 3, 7, 15, 31, 15, 127, 255, 15, 1023, 2047, 4095, 8191, 16383, 32767, 16383, 81919, 262143, 524287, 1048575, 2097151, 4194303, 2097151, 10485759, 2097151, 35651583, 127926271, 268435455, 2097151, 1073741823, 2147483647, 4294967295, 8589934591]
theorem laws_FnTreeCounts.tab13 : rtab .any (opsOf Try.f12 13) = laws_FnTreeCounts.T13 := by kernel_rfl
theorem laws_FnTreeCounts.bits13 : waitsOk laws_FnTreeCounts.T13.2 laws_FnTreeCounts.B13 = true := by kernel_rfl
set_option maxHeartbeats 8000000 in
set_option maxRecDepth 100000 in
theorem laws_FnTreeCounts.calls (k : Nat) (A0 : Option Addr) (c0 : Nat) (l0 : List Int) (r : Bool) (w : World) (hr0 : Kd.C (Kd.int .u8) w A0 l0.length l0) (hc0 : l0.length ≤ c0) (h : laws_FnTreeCounts.f k l0 = some r) :
  Calls Try.prog 12 #[.slice A0 l0.length c0] w fun e w' => e = .returned (.bool r) ∧ Below w.heap.size w w' := by
 have hu42 := Try.underlying42
 have hu40 := Try.underlying40
 have HR0 := A_ hr0
 have HC0 := A_ hc0
 clear hr0 hc0
 have HB := A_ (Below.refl w.heap.size w)
 have H : ((laws_big.f l0).bind fun t101 => (if t101 = true then (some true) else ((spec_DrawOpenMaze.f k l0).bind fun bt102 => ((spec_DrawSmallMaze.f k l0).bind fun bt106 => ((laws_at.f l0 0).bind fun t110 => ((spec_CountCells.f bt102.1 bt102.2.1).bind fun t111 => (if t111 = 0 then (none) else ((impl_ListTrees.f k bt106.1 bt106.2.1 bt106.2.2).bind fun t112 => (laws_FnTreeCounts.l0 k (Int.tmod t110 t111) t112 0 bt102.1 bt102.2.1 bt102.2.2 bt106.1 bt106.2.1 bt106.2.2))))))))) = some r := h
 clear h
 obtain ⟨t101, A20, H⟩ := oB_ H
 (try dsimp only at H); have A2 := A_ A20; clear A20
 by_cases c3 : t101 = true
 ·subst c3
  rw [if_pos rfl] at H
  obtain rfl := Option.some.inj H
  go_enter Try.func12, Try.ntmps12
  go_wp2_with (first | ((with_reducible refine gate_callee (f := 16) rfl ?_); refine gl_ 10 Try.func16 #[.slice A0 l0.length c0] ?_; (with_reducible refine (laws_big.calls _ _ l0 true _ ?side1 ?side2 A2.out).mono ?_); (case side1 => repeat (first | exact HR0.out | (with_reducible refine Kd.C_alloc ?_ _) | (with_reducible refine Kd.C_drewN ?_ _) | (with_reducible refine Kd.C_drew ?_))); (case side2 => exact HC0.out); rintro e w' ⟨rfl, ⟨nd, rfl⟩⟩; (try clear A2); refine ⟨_, rfl, ?_⟩))
  go_ret
  exact ⟨by first | rfl | (simp [errW_none, errW_some] <;> rfl) | (simp [*, errW_none, errW_some] <;> rfl), by repeat (first | (with_reducible first | exact HB.out | apply below_alloc | apply pw_below_drewN | apply below_drew1) | exact HB.out)⟩
 ·replace c3 := Bool.eq_false_iff.mpr c3
  subst c3
  have H1 : ((spec_DrawOpenMaze.f k l0).bind fun bt102 => ((spec_DrawSmallMaze.f k l0).bind fun bt106 => ((laws_at.f l0 0).bind fun t110 => ((spec_CountCells.f bt102.1 bt102.2.1).bind fun t111 => (if t111 = 0 then (none) else ((impl_ListTrees.f k bt106.1 bt106.2.1 bt106.2.2).bind fun t112 => (laws_FnTreeCounts.l0 k (Int.tmod t110 t111) t112 0 bt102.1 bt102.2.1 bt102.2.2 bt106.1 bt106.2.1 bt106.2.2))))))) = some r := by rw [if_neg (show ¬ (false = true) by decide)] at H; exact H
  clear H
  have H := H1
  clear H1
  obtain ⟨⟨t102, t103, t104⟩, A40, H⟩ := oB_ H
  (try dsimp only at H); have A4 := A_ A40; clear A40
  obtain ⟨⟨t106, t107, t108⟩, A50, H⟩ := oB_ H
  (try dsimp only at H); have A5 := A_ A50; clear A50
  obtain ⟨t110, A60, H⟩ := oB_ H
  (try dsimp only at H); have A6 := A_ A60; clear A60
  obtain ⟨t111, A70, H⟩ := oB_ H
  (try dsimp only at H); have A7 := A_ A70; clear A70
  by_cases c8 : t111 = 0
  ·rw [if_pos c8] at H
   exact absurd H (by simp)
  ·rw [if_neg c8] at H
   have c8b0 : (t111 == 0) = false := beq_eq_false_iff_ne.mpr c8
   have c8b1 : (t111 != 0) = true := bne_iff_ne.mpr c8
   obtain ⟨t112, A90, H⟩ := oB_ H
   (try dsimp only at H); have A9 := A_ A90; clear A90
   have H' := A_ H
   clear H
   go_enter Try.func12, Try.ntmps12
   try go_wp2_with (first | ((with_reducible refine gate_callee (f := 16) rfl ?_); refine gl_ 10 Try.func16 #[.slice A0 l0.length c0] ?_; (with_reducible refine (laws_big.calls _ _ l0 false _ ?side1 ?side2 A2.out).mono ?_); (case side1 => repeat (first | exact HR0.out | (with_reducible refine Kd.C_alloc ?_ _) | (with_reducible refine Kd.C_drewN ?_ _) | (with_reducible refine Kd.C_drew ?_))); (case side2 => exact HC0.out); rintro e w' ⟨rfl, ⟨nd, rfl⟩⟩; (try clear A2); refine ⟨_, rfl, ?_⟩) | ((with_reducible refine gate_callee (f := 31) rfl ?_); refine gl_ 12 Try.func31 #[.slice A0 l0.length c0] ?_; (with_reducible refine (spec_DrawOpenMaze.calls k _ _ l0 t102 t103 t104 _ ?side1 ?side2 A4.out).mono ?_); (case side1 => repeat (first | exact HR0.out | (with_reducible refine Kd.C_alloc ?_ _) | (with_reducible refine Kd.C_drewN ?_ _) | (with_reducible refine Kd.C_drew ?_))); (case side2 => exact HC0.out); rintro e w10 ⟨rfl, hb⟩; (try clear A4); refine ⟨_, rfl, ?_⟩; have n0_ := A_ (below_step (by repeat first | exact HB.1 | apply bA_ | apply bB_ | apply bC_) hb); clear HB; have HB := n0_; clear n0_; (try clear hb); (try clear hk)) | ((with_reducible refine gate_dst (N := 3) rfl ?_); (try (refine gate_guard (by rfl) ?_; dsimp only)); refine box_event ?hg (N := 3) ?hd (cs := #[.int .i64 0, .int .i64 0, .int .i64 0]) (t := 42) ?hr ?_; (case hd => rfl); (case hg => rfl); (case hr => first | (go_simp; done) | (go_simp; rfl)); intro gb105 hg w11 hbox hb; have n0_ := A_ (below_step (by repeat first | exact HB.1 | apply bA_ | apply bB_ | apply bC_) hb); have n1_ := A_ (hbox); have n2_ := A_ ((by rw [hg]; exact (below_size (by repeat first | exact HB.1 | apply bA_ | apply bB_ | apply bC_)) : w.heap.size ≤ gb105)); have n3_ := n2_; clear HB; have HB := n0_; have BK105 := n1_; have GW105 := n2_; have GE105 := n3_; clear n0_ n1_ n2_ n3_ hb hbox hg; obtain ⟨hcz12_0, hcz12_1, hcz12_2⟩ := kk3_ BK105.1; have hfz12_0 := bf_ BK105.out 0; have hfz12_1 := bf_ BK105.out 1; have hfz12_2 := bf_ BK105.out 2) | ((with_reducible refine gate_callee (f := 49) rfl ?_); refine gl_ 14 Try.func49 #[.slice A0 l0.length c0] ?_; (with_reducible refine (spec_DrawSmallMaze.calls k _ _ l0 t106 t107 t108 _ ?side1 ?side2 A5.out).mono ?_); (case side1 => exact Kd.C_below HR0.out (by repeat first | exact HB.1 | apply bA_ | apply bB_ | apply bC_ | refine below_set ?_ GE105.out)); (case side2 => exact HC0.out); rintro e w13 ⟨rfl, hb⟩; (try clear A5); refine ⟨_, rfl, ?_⟩; have n0_ := A_ (blk_below (g := gb105) (o := .cells #[.int .i64 t102, .int .i64 t103, .int .i64 t104] 42 (0, 0)) (by (with_reducible repeat (first | refine blk_drewN ?_ _ | refine blk_drew ?_ | refine blk_alloc ?_ _)); refine blk_put (cs := #[.int .i64 t102, .int .i64 t103, .int .i64 0]) ?_ 2 _ rfl; (with_reducible repeat (first | refine blk_drewN ?_ _ | refine blk_drew ?_ | refine blk_alloc ?_ _)); refine blk_put (cs := #[.int .i64 t102, .int .i64 0, .int .i64 0]) ?_ 1 _ rfl; (with_reducible repeat (first | refine blk_drewN ?_ _ | refine blk_drew ?_ | refine blk_alloc ?_ _)); refine blk_put (cs := #[.int .i64 0, .int .i64 0, .int .i64 0]) ?_ 0 _ rfl; (with_reducible repeat (first | refine blk_drewN ?_ _ | refine blk_drew ?_ | refine blk_alloc ?_ _)); exact BK105.out) hb); have n1_ := A_ (below_step (by repeat first | exact HB.1 | apply bA_ | apply bB_ | apply bC_ | refine below_set ?_ GE105.out) hb); clear BK105 HB; have BK105 := n0_; have HB := n1_; clear n0_ n1_; (try clear hb); (try clear hk)) | ((with_reducible refine gate_dst (N := 4) rfl ?_); (try (refine gate_guard (by rfl) ?_; dsimp only)); refine box_event ?hg (N := 4) ?hd (cs := #[.int .i64 0, .int .i64 0, .int .i64 0]) (t := 42) ?hr ?_; (case hd => rfl); (case hg => rfl); (case hr => first | (go_simp; done) | (go_simp; rfl)); intro gb109 hg w14 hbox hb; have n0_ := A_ (blk_below (g := gb105) (o := .cells #[.int .i64 t102, .int .i64 t103, .int .i64 t104] 42 (0, 0)) (by (with_reducible repeat first | refine cA_ ?_ _ | refine cB_ ?_ | refine cC_ ?_ _); exact BK105.1) hb); have n1_ := A_ (below_step (by repeat first | exact HB.1 | apply bA_ | apply bB_ | apply bC_ | refine below_set ?_ GE105.out) hb); have n2_ := A_ (hbox); have n3_ := A_ ((by rw [hg]; exact (below_size (by repeat first | exact HB.1 | apply bA_ | apply bB_ | apply bC_ | refine below_set ?_ GE105.out)) : w.heap.size ≤ gb109)); have n4_ := n3_; have n5_ := A_ ((by rw [hg]; exact Nat.ne_of_lt (blk_lt (g := gb105) (o := .cells #[.int .i64 t102, .int .i64 t103, .int .i64 t104] 42 (0, 0)) (by (with_reducible repeat first | refine cA_ ?_ _ | refine cB_ ?_ | refine cC_ ?_ _); exact BK105.1)) : gb105 ≠ gb109)); have n6_ := A_ ((by rw [hg]; exact Nat.ne_of_gt (blk_lt (g := gb105) (o := .cells #[.int .i64 t102, .int .i64 t103, .int .i64 t104] 42 (0, 0)) (by (with_reducible repeat first | refine cA_ ?_ _ | refine cB_ ?_ | refine cC_ ?_ _); exact BK105.1)) : gb109 ≠ gb105)); clear BK105 HB; have BK105 := n0_; have HB := n1_; have BK109 := n2_; have GW109 := n3_; have GE109 := n4_; have NB105_109 := n5_; have NB109_105 := n6_; clear n0_ n1_ n2_ n3_ n4_ n5_ n6_ hb hbox hg; have hnb15 := NB109_105.out; have hnc15 := NB105_109.out; obtain ⟨hcz16_0, hcz16_1, hcz16_2⟩ := kk3_ BK109.1; have hfz16_0 := bf_ BK109.out 0; have hfz16_1 := bf_ BK109.out 1; have hfz16_2 := bf_ BK109.out 2))
   have n0_ : Aside0 ((((w14.setCell ⟨gb109, 0, none⟩ (.int .i64 t106)).setCell ⟨gb109, 1, none⟩ (.int .i64 t107)).setCell ⟨gb109, 2, none⟩ (.int .i64 t108)).heap[gb105]? = some (.cells #[.int .i64 t102, .int .i64 t103, .int .i64 t104] 42 (0, 0))) := ⟨by (with_reducible repeat (first | refine blk_drewN ?_ _ | refine blk_drew ?_ | refine blk_alloc ?_ _)); refine blk_far ?_ NB105_109.out _; (with_reducible repeat (first | refine blk_drewN ?_ _ | refine blk_drew ?_ | refine blk_alloc ?_ _)); refine blk_far ?_ NB105_109.out _; (with_reducible repeat (first | refine blk_drewN ?_ _ | refine blk_drew ?_ | refine blk_alloc ?_ _)); refine blk_far ?_ NB105_109.out _; (with_reducible repeat (first | refine blk_drewN ?_ _ | refine blk_drew ?_ | refine blk_alloc ?_ _)); exact BK105.out⟩
   have n1_ : Aside0 ((((w14.setCell ⟨gb109, 0, none⟩ (.int .i64 t106)).setCell ⟨gb109, 1, none⟩ (.int .i64 t107)).setCell ⟨gb109, 2, none⟩ (.int .i64 t108)).heap[gb109]? = some (.cells #[.int .i64 t106, .int .i64 t107, .int .i64 t108] 42 (0, 0))) := ⟨by (with_reducible repeat (first | refine blk_drewN ?_ _ | refine blk_drew ?_ | refine blk_alloc ?_ _)); refine blk_put (cs := #[.int .i64 t106, .int .i64 t107, .int .i64 0]) ?_ 2 _ rfl; (with_reducible repeat (first | refine blk_drewN ?_ _ | refine blk_drew ?_ | refine blk_alloc ?_ _)); refine blk_put (cs := #[.int .i64 t106, .int .i64 0, .int .i64 0]) ?_ 1 _ rfl; (with_reducible repeat (first | refine blk_drewN ?_ _ | refine blk_drew ?_ | refine blk_alloc ?_ _)); refine blk_put (cs := #[.int .i64 0, .int .i64 0, .int .i64 0]) ?_ 0 _ rfl; (with_reducible repeat (first | refine blk_drewN ?_ _ | refine blk_drew ?_ | refine blk_alloc ?_ _)); exact BK109.out⟩
   have n2_ : Aside0 (Below w.heap.size w (((w14.setCell ⟨gb109, 0, none⟩ (.int .i64 t106)).setCell ⟨gb109, 1, none⟩ (.int .i64 t107)).setCell ⟨gb109, 2, none⟩ (.int .i64 t108))) := ⟨by repeat (first | (with_reducible first | exact HB.out | apply below_alloc | apply pw_below_drewN | apply below_drew1 | refine below_set ?_ GE105.out | refine below_set ?_ GE109.out) | exact HB.out)⟩
   (try clear BK105); (try clear BK109); (try clear HB)
   generalize (((w14.setCell ⟨gb109, 0, none⟩ (.int .i64 t106)).setCell ⟨gb109, 1, none⟩ (.int .i64 t107)).setCell ⟨gb109, 2, none⟩ (.int .i64 t108)) = w17 at n0_ n1_ n2_ ⊢
   have BK105 := n0_; have BK109 := n1_; have HB := n2_; clear n0_ n1_ n2_; have n0_ := A_ (blk_drew BK105.out); have n1_ := A_ (blk_drew BK109.out); have n2_ := A_ (below_drew1 HB.out); clear BK105 BK109 HB; have BK105 := n0_; have BK109 := n1_; have HB := n2_; clear n0_ n1_ n2_
   refine start_ (n := 7) (S := fun w' => w'.cell? ⟨gb105, 0, none⟩ = some (.int .i64 t102) ∧ w'.cell? ⟨gb105, 1, none⟩ = some (.int .i64 t103) ∧ w'.cell? ⟨gb105, 2, none⟩ = some (.int .i64 t104)) (ds := []) #[false, false, false, false, false, false, false] (by kernel_rfl) rfl rfl ⟨(blk_cell BK105.out 0).trans rfl, (blk_cell BK105.out 1).trans rfl, (blk_cell BK105.out 2).trans rfl⟩ (fun hHeld => ?_)
   generalize w17.drew = w18 at BK105 BK109 HB hHeld ⊢
   refine pure_ (i := 0) (N := some 15) (v := ?_) (a' := ?_) #[true, false, false, false, false, false, false] rfl rfl (by kernel_rfl) (fun _ _ _ h => h) (Or.inl ⟨by rfl, ?_⟩) ?_ ?_; rotate_left; (intro w'; go_simp; with_reducible rfl); rotate_left; (simp only [P6_]; rfl)
   refine pure_ (i := 2) (N := some 17) (v := ?_) (a' := ?_) #[true, false, true, false, false, false, false] rfl rfl (by kernel_rfl) (fun _ _ _ h => h) (Or.inl ⟨by rfl, ?_⟩) ?_ ?_; rotate_left; (intro w'; go_simp; with_reducible rfl); rotate_left; (simp only [P6_]; rfl)
   refine take_ (i := 3) (N := some 18) (v := ?_) (a' := ?_) #[true, false, true, true, false, false, false] rfl rfl (by kernel_rfl) (fun _ _ _ h => h) (Or.inl ⟨by rfl, ?_⟩) hHeld ?_ ?_; rotate_left; (rintro w' ⟨s0, s1, s2⟩; go_simp; with_reducible rfl); rotate_left; (simp only [P6_]; rfl)
   refine one_ (i := 1) (N := some 16) #[true, true, true, true, false, false, false] rfl rfl (by kernel_rfl) (by decide) (fun K hK => ?_)
   refine gs_ Try.func20 #[.slice A0 l0.length c0, .int .i64 0] ?_
   with_reducible refine (laws_at.calls _ _ l0 0 t110 _ ?side1 ?side2 A6.out).mono ?_
   (case side1 => repeat (first | exact (Kd.C_below HR0.out HB.out) | (with_reducible refine Kd.C_alloc ?_ _) | (with_reducible refine Kd.C_drewN ?_ _) | (with_reducible refine Kd.C_drew ?_)))
   (case side2 => exact HC0.out)
   rintro e w' ⟨rfl, ⟨nd, rfl⟩⟩
   refine ⟨_, rfl, ?_⟩
   refine hK.out _ _ ⟨(blk_cell BK105.out 0).trans rfl, (blk_cell BK105.out 1).trans rfl, (blk_cell BK105.out 2).trans rfl⟩ (fun hHeld => ?_)
   clear hK K
   refine norm_ (a' := ?_) ?_ ?_; rotate_left; (show Act.put _ (some 16) _ = _; simp only [P6_]; rfl)
   refine one_ (i := 4) (N := some 19) #[true, true, true, true, true, false, false] rfl rfl (by kernel_rfl) (by decide) (fun K hK => ?_)
   refine gs_ Try.func36 #[.agg #[.int .i64 t102, .int .i64 t103]] ?_
   with_reducible refine (spec_CountCells.calls t102 t103 t111 _ A7.out).mono ?_
   rintro e w19 ⟨rfl, hb⟩
   refine ⟨_, rfl, ?_⟩
   have n0_ := A_ (blk_below (g := gb105) (o := .cells #[.int .i64 t102, .int .i64 t103, .int .i64 t104] 42 (0, 0)) (by (with_reducible repeat first | refine cA_ ?_ _ | refine cB_ ?_ | refine cC_ ?_ _); exact BK105.1) hb)
   have n1_ := A_ (blk_below (g := gb109) (o := .cells #[.int .i64 t106, .int .i64 t107, .int .i64 t108] 42 (0, 0)) (by (with_reducible repeat first | refine cA_ ?_ _ | refine cB_ ?_ | refine cC_ ?_ _); exact BK109.1) hb)
   have n2_ := A_ (below_step (by repeat first | exact HB.1 | apply bA_ | apply bB_ | apply bC_ | refine below_set ?_ GE105.out | refine below_set ?_ GE109.out) hb)
   clear BK105 BK109 HB; have BK105 := n0_; have BK109 := n1_; have HB := n2_; clear n0_ n1_ n2_; (try clear hb); (try clear hk)
   refine hK.out _ _ ⟨(blk_cell BK105.out 0).trans rfl, (blk_cell BK105.out 1).trans rfl, (blk_cell BK105.out 2).trans rfl⟩ (fun hHeld => ?_)
   clear hK K
   refine norm_ (a' := ?_) ?_ ?_; rotate_left; (show Act.put _ (some 19) _ = _; simp only [P6_]; rfl)
   refine pure_ (i := 5) (N := some 20) (v := ?_) (a' := ?_) #[true, true, true, true, true, true, false] rfl rfl (by kernel_rfl) (fun _ _ _ h => h) (Or.inl ⟨by rfl, ?_⟩) ?_ ?_; rotate_left; (intro w'; go_simp; with_reducible rfl); rotate_left; (simp only [P6_]; rfl)
   refine pure_ (i := 6) (N := some 5) (v := ?_) (a' := ?_) #[true, true, true, true, true, true, true] rfl rfl (by kernel_rfl) (fun _ _ _ h => h) (Or.inl ⟨by rfl, ?_⟩) ?_ ?_; rotate_left; (intro w'; go_simp; with_reducible rfl); rotate_left; (simp only [P6_]; rfl)
   refine done_ (by kernel_rfl) ?_
   obtain ⟨hcz20_0, hcz20_1, hcz20_2⟩ := kk3_ BK109.1
   have hfz20_0 := bf_ BK109.out 0
   have hfz20_1 := bf_ BK109.out 1
   have hfz20_2 := bf_ BK109.out 2
   try go_wp2_with (first | ((with_reducible refine gate_callee (f := 50) rfl ?_); refine gl_ 22 Try.func50 #[.agg #[.int .i64 t106, .int .i64 t107, .int .i64 t108]] ?_; (with_reducible refine (impl_ListTrees.calls k t106 t107 t108 t112 _ A9.out).mono ?_); rintro e w21 ⟨v113, rfl, ho0, hb⟩; (try clear A9); refine ⟨_, rfl, ?_⟩; have n0_ := A_ (Kd.R_lower (Kd.R_newB (Kd.R_newB ho0 (g := gb105) (o := .cells #[.int .i64 t102, .int .i64 t103, .int .i64 t104] 42 (0, 0)) (by (with_reducible repeat first | refine cA_ ?_ _ | refine cB_ ?_ | refine cC_ ?_ _); exact BK105.1)) (g := gb109) (o := .cells #[.int .i64 t106, .int .i64 t107, .int .i64 t108] 42 (0, 0)) (by (with_reducible repeat first | refine cA_ ?_ _ | refine cB_ ?_ | refine cC_ ?_ _); exact BK109.1)) (below_size (by repeat first | exact HB.1 | apply bA_ | apply bB_ | apply bC_ | refine below_set ?_ GE105.out | refine below_set ?_ GE109.out))); have n1_ := A_ (blk_below (g := gb105) (o := .cells #[.int .i64 t102, .int .i64 t103, .int .i64 t104] 42 (0, 0)) (by (with_reducible repeat first | refine cA_ ?_ _ | refine cB_ ?_ | refine cC_ ?_ _); exact BK105.1) hb); have n2_ := A_ (blk_below (g := gb109) (o := .cells #[.int .i64 t106, .int .i64 t107, .int .i64 t108] 42 (0, 0)) (by (with_reducible repeat first | refine cA_ ?_ _ | refine cB_ ?_ | refine cC_ ?_ _); exact BK109.1) hb); have n3_ := A_ (below_step (by repeat first | exact HB.1 | apply bA_ | apply bB_ | apply bC_ | refine below_set ?_ GE105.out | refine below_set ?_ GE109.out) hb); clear BK105 BK109 HB; have HO114 := n0_; have BK105 := n1_; have BK109 := n2_; have HB := n3_; clear n0_ n1_ n2_ n3_; (try clear hb); (try clear hk); (try clear ho0)))
   go_loopg [7] k (fun kq v7 w' => ∃ (x7_1 : Int), v7 = .int .i64 x7_1 ∧ Aside0 (laws_FnTreeCounts.l0 kq (Int.tmod t110 t111) t112 x7_1 t102 t103 t104 t106 t107 t108 = some r) ∧ Aside0 (kq ≤ k) ∧ Aside0 (Kd.R k42 42 w' w.heap.size (fun k_ => k_ ≠ gb105 ∧ k_ ≠ gb109) v113 t112) ∧ Aside0 (w'.heap[gb105]? = some (.cells #[.int .i64 t102, .int .i64 t103, .int .i64 t104] 42 (0, 0))) ∧ Aside0 (w'.heap[gb109]? = some (.cells #[.int .i64 t106, .int .i64 t107, .int .i64 t108] 42 (0, 0))) ∧ Aside0 (Below w.heap.size w w'))
   case atStart => exact ⟨(0), (by first | rfl | (simp; done) | (simp [*]; done)), H', ⟨Nat.le_refl _⟩, ⟨by (with_reducible repeat (first | apply Kd.R_alloc | apply Kd.R_drewN | apply Kd.R_drew)); exact Kd.R_mono HO114.out (fun _ hk => ⟨hk.1.2, hk.2⟩)⟩, ⟨by (with_reducible repeat (first | refine blk_drewN ?_ _ | refine blk_drew ?_ | refine blk_alloc ?_ _)); exact BK105.out⟩, ⟨by (with_reducible repeat (first | refine blk_drewN ?_ _ | refine blk_drew ?_ | refine blk_alloc ?_ _)); exact BK109.out⟩, ⟨by repeat (first | (with_reducible first | exact HB.out | apply below_alloc | apply pw_below_drewN | apply below_drew1 | refine below_set ?_ GE105.out | refine below_set ?_ GE109.out) | exact HB.out)⟩⟩
   case round =>
    clear H'; try clear c1; try clear c2; try clear p2; try clear c3; try clear c4; try clear c5; try clear c8; try clear c8b0; try clear c8b1; try clear c12; try clear c15; try clear c16; try clear c20; try clear hcz12_0; try clear hcz12_1; try clear hcz12_2; try clear hcz16_0; try clear hcz16_1; try clear hcz16_2; try clear hcz20_0; try clear hcz20_1; try clear hcz20_2; try clear hfz12_0; try clear hfz12_1; try clear hfz12_2; try clear hfz16_0; try clear hfz16_1; try clear hfz16_2; try clear hfz20_0; try clear hfz20_1; try clear hfz20_2
    obtain ⟨x7_1, rfl, HA, HK1, HO_6, BK105, BK109, HB⟩ := hrel
    cases gk with
    | zero => exact absurd HA.out (by simp [laws_FnTreeCounts.l0])
    | succ k1 =>
     have H := HA.out
     clear HA
     simp only [laws_FnTreeCounts.l0] at H
     by_cases c22 : x7_1 < (t112.length : Int)
     ·rw [if_pos c22] at H
      have c22b0 : decide (x7_1 < (t112.length : Int)) = true := decide_eq_true c22
      clear c22
      replace H := iN_ H; obtain ⟨c23, H⟩ := H
      have c23b0 : decide (0 ≤ x7_1) = true := decide_eq_true c23
      clear c23
      obtain ⟨t116, A240, H⟩ := oB_ H
      (try dsimp only at H); have A24 := A_ A240; clear A240
      by_cases c25 : t116 = true
      ·subst c25
       rw [if_pos rfl] at H
       by_cases c26 : (Go.bits .andNot .i64 ((rd_T42 t112 x7_1).f1) t108) = 0
       ·rw [if_pos c26] at H
        have c26b0 : ((Go.bits .andNot .i64 ((rd_T42 t112 x7_1).f1) t108) == 0) = true := beq_iff_eq.mpr c26
        have c26b1 : ((Go.bits .andNot .i64 ((rd_T42 t112 x7_1).f1) t108) != 0) = false := bne_eq_false_iff_eq.mpr c26
        clear c26
        by_cases c27 : x7_1 > 0
        ·rw [if_pos c27] at H
         have c27b0 : decide (0 < x7_1) = true := decide_eq_true c27
         clear c27
         obtain ⟨ji28, hji28⟩ : ∃ j_ : Int, (wrap64 (x7_1 - 1)) = j_ := ⟨_, rfl⟩
         replace H : (if 0 ≤ (ji28) then (if (ji28) < (t112.length : Int) then (if ((rd_T42 t112 x7_1).f1) ≤ ((rd_T42 t112 (ji28)).f1) then (some false) else (laws_FnTreeCounts.l0 k1 (Int.tmod t110 t111) t112 (wrap64 (x7_1 + 1)) t102 t103 t104 t106 t107 t108)) else (none)) else (none)) = some r := by first | (rw [hji28] at H; exact H) | (simp only [hji28] at H ⊢; exact H)
         (try rw [hji28] at A24)
         have hji28w : (IntKind.i64.wrap (x7_1 - 1)) = ji28 := (i64_w _).trans hji28
         replace H := iN_ H; obtain ⟨c29, H⟩ := H
         have c29b0 : decide (0 ≤ (ji28)) = true := decide_eq_true c29
         clear c29
         replace H := iN_ H; obtain ⟨c30, H⟩ := H
         have c30b0 : decide ((ji28) < (t112.length : Int)) = true := decide_eq_true c30
         clear c30
         by_cases c31 : ((rd_T42 t112 x7_1).f1) ≤ ((rd_T42 t112 (ji28)).f1)
         ·rw [if_pos c31] at H
          have c31b0 : decide (((rd_T42 t112 x7_1).f1) ≤ ((rd_T42 t112 (ji28)).f1)) = true := decide_eq_true c31
          clear c31
          obtain rfl := Option.some.inj H
          obtain ⟨Ao32, co32, eo32⟩ := Kd.R_slice HO_6.out
          subst eo32
          try go_wp2
          have n0_ := A_ (Kd.R_drew HO_6.out)
          have n1_ := A_ (blk_drew BK105.out); have n2_ := A_ (blk_drew BK109.out); have n3_ := A_ (below_drew1 HB.out); clear HO_6 BK105 BK109 HB; have HO_6 := n0_; have BK105 := n1_; have BK109 := n2_; have HB := n3_; clear n0_ n1_ n2_ n3_
          have p115 : 0 ≤ (x7_1 : Int) := of_decide_eq_true (by first | (with_reducible assumption) | assumption)
          have q115 : x7_1 < (t112.length : Int) := of_decide_eq_true (by first | (with_reducible assumption) | assumption)
          obtain ⟨ad115, e115, hx115_0, hx115_1, hx115_2⟩ := at_T42 (Kd.R_reads' HO_6.out).2.2 x7_1 p115 q115
          cases e115
          replace p115 := eq_true p115; replace q115 := eq_true q115
          have p117 : 0 ≤ (x7_1 : Int) := of_decide_eq_true (by first | (with_reducible assumption) | assumption)
          have q117 : x7_1 < (t112.length : Int) := of_decide_eq_true (by first | (with_reducible assumption) | assumption)
          obtain ⟨ad117, e117, hx117_0, hx117_1, hx117_2⟩ := at_T42 (Kd.R_reads' HO_6.out).2.2 x7_1 p117 q117
          obtain rfl : ad115 = ad117 := (by injection e117)
          replace p117 := eq_true p117; replace q117 := eq_true q117
          have p118 : 0 ≤ (x7_1 : Int) := of_decide_eq_true (by first | (with_reducible assumption) | assumption)
          have q118 : x7_1 < (t112.length : Int) := of_decide_eq_true (by first | (with_reducible assumption) | assumption)
          obtain ⟨ad118, e118, hx118_0, hx118_1, hx118_2⟩ := at_T42 (Kd.R_reads' HO_6.out).2.2 x7_1 p118 q118
          obtain rfl : ad115 = ad118 := (by injection e118)
          replace p118 := eq_true p118; replace q118 := eq_true q118
          have p119 : 0 ≤ ((ji28) : Int) := of_decide_eq_true (by first | (with_reducible assumption) | assumption)
          have q119 : (ji28) < (t112.length : Int) := of_decide_eq_true (by first | (with_reducible assumption) | assumption)
          obtain ⟨ad119, e119, hx119_0, hx119_1, hx119_2⟩ := at_T42 (Kd.R_reads' HO_6.out).2.2 (ji28) p119 q119
          obtain rfl : ad115 = ad119 := (by injection e119)
          replace p119 := eq_true p119; replace q119 := eq_true q119
          refine start_ (n := 35) (S := fun w' => w'.cell? ⟨gb109, 0, none⟩ = some (.int .i64 t106) ∧ w'.cell? ⟨gb109, 1, none⟩ = some (.int .i64 t107) ∧ w'.cell? ⟨gb109, 2, none⟩ = some (.int .i64 t108) ∧ w'.cell? (ad115.add ((x7_1).toNat * 3)) = some (.int .i64 ((rd_T42 t112 x7_1).f0.f0)) ∧ w'.cell? ⟨(ad115.add ((x7_1).toNat * 3)).block, (ad115.add ((x7_1).toNat * 3)).off + 1, none⟩ = some (.int .i64 ((rd_T42 t112 x7_1).f0.f1)) ∧ w'.cell? ⟨(ad115.add ((x7_1).toNat * 3)).block, (ad115.add ((x7_1).toNat * 3)).off + 2, none⟩ = some (.int .i64 ((rd_T42 t112 x7_1).f1)) ∧ w'.cell? (ad115.add ((x7_1).toNat * 3)) = some (.int .i64 ((rd_T42 t112 x7_1).f0.f0)) ∧ w'.cell? ⟨(ad115.add ((x7_1).toNat * 3)).block, (ad115.add ((x7_1).toNat * 3)).off + 1, none⟩ = some (.int .i64 ((rd_T42 t112 x7_1).f0.f1)) ∧ w'.cell? ⟨(ad115.add ((x7_1).toNat * 3)).block, (ad115.add ((x7_1).toNat * 3)).off + 2, none⟩ = some (.int .i64 ((rd_T42 t112 x7_1).f1)) ∧ w'.cell? (ad115.add ((x7_1).toNat * 3)) = some (.int .i64 ((rd_T42 t112 x7_1).f0.f0)) ∧ w'.cell? ⟨(ad115.add ((x7_1).toNat * 3)).block, (ad115.add ((x7_1).toNat * 3)).off + 1, none⟩ = some (.int .i64 ((rd_T42 t112 x7_1).f0.f1)) ∧ w'.cell? ⟨(ad115.add ((x7_1).toNat * 3)).block, (ad115.add ((x7_1).toNat * 3)).off + 2, none⟩ = some (.int .i64 ((rd_T42 t112 x7_1).f1)) ∧ w'.cell? (ad115.add (((ji28)).toNat * 3)) = some (.int .i64 ((rd_T42 t112 (ji28)).f0.f0)) ∧ w'.cell? ⟨(ad115.add (((ji28)).toNat * 3)).block, (ad115.add (((ji28)).toNat * 3)).off + 1, none⟩ = some (.int .i64 ((rd_T42 t112 (ji28)).f0.f1)) ∧ w'.cell? ⟨(ad115.add (((ji28)).toNat * 3)).block, (ad115.add (((ji28)).toNat * 3)).off + 2, none⟩ = some (.int .i64 ((rd_T42 t112 (ji28)).f1))) (ds := []) #[false, false, false, false, false, false, false, false, false, false, false, false, false, false, false, false, false, false, false, false, false, false, false, false, false, false, false, false, false, false, false, false, false, false, false] (by kernel_rfl) rfl rfl ⟨(blk_cell BK109.out 0).trans rfl, (blk_cell BK109.out 1).trans rfl, (blk_cell BK109.out 2).trans rfl, hx115_0, hx115_1, hx115_2, hx117_0, hx117_1, hx117_2, hx118_0, hx118_1, hx118_2, hx119_0, hx119_1, hx119_2⟩ (fun hHeld => ?_); refine with_tabW laws_FnTreeCounts.tab10 laws_FnTreeCounts.bits10 (fun HT_ HW_ => ?_)
          generalize wr.drew = w33 at HO_6 BK105 BK109 HB hx115_0 hx115_1 hx115_2 hx117_0 hx117_1 hx117_2 hx118_0 hx118_1 hx118_2 hx119_0 hx119_1 hx119_2 hHeld ⊢
          refine pv_ 0 29 HT_ ?_; refine pv_ 1 30 HT_ ?_; refine pv_ 2 31 HT_ ?_; refine tv_ 3 32 rfl HT_ HW_ hHeld (by rintro w' ⟨s0, s1, s2, s3, s4, s5, s6, s7, s8, s9, s10, s11, s12, s13, s14⟩; go_simp; with_reducible rfl) ?_
          refine on_ 4 (some 33) rfl rfl HT_ (by kernel_rfl) (by decide) (fun K hK => ?_)
          refine gs_ Try.func51 #[.agg #[.int .i64 ((rd_T42 t112 x7_1).f0.f0), .int .i64 ((rd_T42 t112 x7_1).f0.f1), .int .i64 ((rd_T42 t112 x7_1).f1)]] ?_
          with_reducible refine (impl_IsPerfect.calls k1 ((rd_T42 t112 x7_1).f0.f0) ((rd_T42 t112 x7_1).f0.f1) ((rd_T42 t112 x7_1).f1) true _ A24.out).mono ?_
          rintro e w34 ⟨rfl, hb⟩
          have HS3_ := (hb.cell (World.block_lt_of_cell? _ _ (hHeld.2.2.2.1))).trans (hHeld.2.2.2.1)
          have HS4_ := (hb.cell (World.block_lt_of_cell? _ _ (hHeld.2.2.2.2.1))).trans (hHeld.2.2.2.2.1)
          have HS5_ := (hb.cell (World.block_lt_of_cell? _ _ (hHeld.2.2.2.2.2.1))).trans (hHeld.2.2.2.2.2.1)
          have HS6_ := (hb.cell (World.block_lt_of_cell? _ _ (hHeld.2.2.2.2.2.2.1))).trans (hHeld.2.2.2.2.2.2.1)
          have HS7_ := (hb.cell (World.block_lt_of_cell? _ _ (hHeld.2.2.2.2.2.2.2.1))).trans (hHeld.2.2.2.2.2.2.2.1)
          have HS8_ := (hb.cell (World.block_lt_of_cell? _ _ (hHeld.2.2.2.2.2.2.2.2.1))).trans (hHeld.2.2.2.2.2.2.2.2.1)
          have HS9_ := (hb.cell (World.block_lt_of_cell? _ _ (hHeld.2.2.2.2.2.2.2.2.2.1))).trans (hHeld.2.2.2.2.2.2.2.2.2.1)
          have HS10_ := (hb.cell (World.block_lt_of_cell? _ _ (hHeld.2.2.2.2.2.2.2.2.2.2.1))).trans (hHeld.2.2.2.2.2.2.2.2.2.2.1)
          have HS11_ := (hb.cell (World.block_lt_of_cell? _ _ (hHeld.2.2.2.2.2.2.2.2.2.2.2.1))).trans (hHeld.2.2.2.2.2.2.2.2.2.2.2.1)
          have HS12_ := (hb.cell (World.block_lt_of_cell? _ _ (hHeld.2.2.2.2.2.2.2.2.2.2.2.2.1))).trans (hHeld.2.2.2.2.2.2.2.2.2.2.2.2.1)
          have HS13_ := (hb.cell (World.block_lt_of_cell? _ _ (hHeld.2.2.2.2.2.2.2.2.2.2.2.2.2.1))).trans (hHeld.2.2.2.2.2.2.2.2.2.2.2.2.2.1)
          have HS14_ := (hb.cell (World.block_lt_of_cell? _ _ (hHeld.2.2.2.2.2.2.2.2.2.2.2.2.2.2))).trans (hHeld.2.2.2.2.2.2.2.2.2.2.2.2.2.2)
          refine ⟨_, rfl, ?_⟩
          have n0_ := A_ (Kd.R_below (by (with_reducible repeat (first | apply Kd.R_alloc | apply Kd.R_drewN | apply Kd.R_drew)); exact HO_6.out) hb)
          have n1_ := A_ (blk_below (g := gb105) (o := .cells #[.int .i64 t102, .int .i64 t103, .int .i64 t104] 42 (0, 0)) (by (with_reducible repeat first | refine cA_ ?_ _ | refine cB_ ?_ | refine cC_ ?_ _); exact BK105.1) hb)
          have n2_ := A_ (blk_below (g := gb109) (o := .cells #[.int .i64 t106, .int .i64 t107, .int .i64 t108] 42 (0, 0)) (by (with_reducible repeat first | refine cA_ ?_ _ | refine cB_ ?_ | refine cC_ ?_ _); exact BK109.1) hb)
          have n3_ := A_ (below_step (by repeat first | exact HB.1 | apply bA_ | apply bB_ | apply bC_ | refine below_set ?_ GE105.out | refine below_set ?_ GE109.out) hb)
          clear HO_6 BK105 BK109 HB; have HO_6 := n0_; have BK105 := n1_; have BK109 := n2_; have HB := n3_; clear n0_ n1_ n2_ n3_; (try clear hb); (try clear hk)
          refine hK.out _ _ ⟨(blk_cell BK109.out 0).trans rfl, (blk_cell BK109.out 1).trans rfl, (blk_cell BK109.out 2).trans rfl, HS3_, HS4_, HS5_, HS6_, HS7_, HS8_, HS9_, HS10_, HS11_, HS12_, HS13_, HS14_⟩ (fun hHeld => ?_)
          clear hK K
          refine norm_ (a' := ?_) ?_ ?_; rotate_left; (show Act.put _ (some 33) _ = _; simp only [P6_]; rfl)
          refine pv_ 5 34 HT_ ?_; refine pv_ 6 35 HT_ ?_; refine pv_ 7 36 HT_ ?_; refine pv_ 8 37 HT_ ?_; refine pv_ 9 38 HT_ ?_; refine pv_ 10 39 HT_ ?_; refine pv_ 12 41 HT_ ?_; refine tv_ 11 40 rfl HT_ HW_ hHeld (by rintro w' ⟨s0, s1, s2, s3, s4, s5, s6, s7, s8, s9, s10, s11, s12, s13, s14⟩; go_simp; with_reducible rfl) ?_
          refine tv_ 13 42 rfl HT_ HW_ hHeld (by rintro w' ⟨s0, s1, s2, s3, s4, s5, s6, s7, s8, s9, s10, s11, s12, s13, s14⟩; go_simp; with_reducible rfl) ?_
          refine pv_ 14 43 HT_ ?_; refine pv_ 15 44 HT_ ?_; refine pv_ 16 45 HT_ ?_; refine pv_ 17 46 HT_ ?_; refine pv_ 18 47 HT_ ?_; refine pv_ 19 48 HT_ ?_; refine pv_ 20 49 HT_ ?_; refine pv_ 21 50 HT_ ?_; refine pv_ 22 51 HT_ ?_; refine pv_ 23 52 HT_ ?_; refine pv_ 24 53 HT_ ?_; refine pv_ 26 55 HT_ ?_; refine pv_ 27 56 HT_ ?_; refine pv_ 28 57 HT_ ?_; refine pv_ 29 58 HT_ ?_; refine pv_ 30 59 HT_ ?_; refine tv_ 25 54 rfl HT_ HW_ hHeld (by rintro w' ⟨s0, s1, s2, s3, s4, s5, s6, s7, s8, s9, s10, s11, s12, s13, s14⟩; go_simp; with_reducible rfl) ?_
          refine tv_ 31 60 rfl HT_ HW_ hHeld (by rintro w' ⟨s0, s1, s2, s3, s4, s5, s6, s7, s8, s9, s10, s11, s12, s13, s14⟩; go_simp; with_reducible rfl) ?_
          refine pv_ 32 61 HT_ ?_; refine pv_ 33 62 HT_ ?_; refine pv_ 34 63 HT_ ?_
          refine done_ (done_of HT_.out (by kernel_rfl)) ?_
          try go_wp2
          go_ret
          exact ⟨by first | rfl | (simp [errW_none, errW_some] <;> rfl) | (simp only [← hji28]; first | rfl | (simp [errW_none, errW_some] <;> rfl)) | (simp [*, errW_none, errW_some] <;> rfl), by repeat (first | (with_reducible first | exact HB.out | apply below_alloc | apply pw_below_drewN | apply below_drew1 | refine below_set ?_ GE105.out | refine below_set ?_ GE109.out) | exact HB.out)⟩
         ·rw [if_neg c31] at H
          have c31b0 : decide (((rd_T42 t112 x7_1).f1) ≤ ((rd_T42 t112 (ji28)).f1)) = false := decide_eq_false c31
          clear c31
          have H' := A_ H
          clear H
          obtain ⟨Ao35, co35, eo35⟩ := Kd.R_slice HO_6.out
          subst eo35
          try go_wp2
          have n0_ := A_ (Kd.R_drew HO_6.out)
          have n1_ := A_ (blk_drew BK105.out); have n2_ := A_ (blk_drew BK109.out); have n3_ := A_ (below_drew1 HB.out); clear HO_6 BK105 BK109 HB; have HO_6 := n0_; have BK105 := n1_; have BK109 := n2_; have HB := n3_; clear n0_ n1_ n2_ n3_
          have p115 : 0 ≤ (x7_1 : Int) := of_decide_eq_true (by first | (with_reducible assumption) | assumption)
          have q115 : x7_1 < (t112.length : Int) := of_decide_eq_true (by first | (with_reducible assumption) | assumption)
          obtain ⟨ad115, e115, hx115_0, hx115_1, hx115_2⟩ := at_T42 (Kd.R_reads' HO_6.out).2.2 x7_1 p115 q115
          cases e115
          replace p115 := eq_true p115; replace q115 := eq_true q115
          have p117 : 0 ≤ (x7_1 : Int) := of_decide_eq_true (by first | (with_reducible assumption) | assumption)
          have q117 : x7_1 < (t112.length : Int) := of_decide_eq_true (by first | (with_reducible assumption) | assumption)
          obtain ⟨ad117, e117, hx117_0, hx117_1, hx117_2⟩ := at_T42 (Kd.R_reads' HO_6.out).2.2 x7_1 p117 q117
          obtain rfl : ad115 = ad117 := (by injection e117)
          replace p117 := eq_true p117; replace q117 := eq_true q117
          have p118 : 0 ≤ (x7_1 : Int) := of_decide_eq_true (by first | (with_reducible assumption) | assumption)
          have q118 : x7_1 < (t112.length : Int) := of_decide_eq_true (by first | (with_reducible assumption) | assumption)
          obtain ⟨ad118, e118, hx118_0, hx118_1, hx118_2⟩ := at_T42 (Kd.R_reads' HO_6.out).2.2 x7_1 p118 q118
          obtain rfl : ad115 = ad118 := (by injection e118)
          replace p118 := eq_true p118; replace q118 := eq_true q118
          have p119 : 0 ≤ ((ji28) : Int) := of_decide_eq_true (by first | (with_reducible assumption) | assumption)
          have q119 : (ji28) < (t112.length : Int) := of_decide_eq_true (by first | (with_reducible assumption) | assumption)
          obtain ⟨ad119, e119, hx119_0, hx119_1, hx119_2⟩ := at_T42 (Kd.R_reads' HO_6.out).2.2 (ji28) p119 q119
          obtain rfl : ad115 = ad119 := (by injection e119)
          replace p119 := eq_true p119; replace q119 := eq_true q119
          refine start_ (n := 35) (S := fun w' => w'.cell? ⟨gb109, 0, none⟩ = some (.int .i64 t106) ∧ w'.cell? ⟨gb109, 1, none⟩ = some (.int .i64 t107) ∧ w'.cell? ⟨gb109, 2, none⟩ = some (.int .i64 t108) ∧ w'.cell? (ad115.add ((x7_1).toNat * 3)) = some (.int .i64 ((rd_T42 t112 x7_1).f0.f0)) ∧ w'.cell? ⟨(ad115.add ((x7_1).toNat * 3)).block, (ad115.add ((x7_1).toNat * 3)).off + 1, none⟩ = some (.int .i64 ((rd_T42 t112 x7_1).f0.f1)) ∧ w'.cell? ⟨(ad115.add ((x7_1).toNat * 3)).block, (ad115.add ((x7_1).toNat * 3)).off + 2, none⟩ = some (.int .i64 ((rd_T42 t112 x7_1).f1)) ∧ w'.cell? (ad115.add ((x7_1).toNat * 3)) = some (.int .i64 ((rd_T42 t112 x7_1).f0.f0)) ∧ w'.cell? ⟨(ad115.add ((x7_1).toNat * 3)).block, (ad115.add ((x7_1).toNat * 3)).off + 1, none⟩ = some (.int .i64 ((rd_T42 t112 x7_1).f0.f1)) ∧ w'.cell? ⟨(ad115.add ((x7_1).toNat * 3)).block, (ad115.add ((x7_1).toNat * 3)).off + 2, none⟩ = some (.int .i64 ((rd_T42 t112 x7_1).f1)) ∧ w'.cell? (ad115.add ((x7_1).toNat * 3)) = some (.int .i64 ((rd_T42 t112 x7_1).f0.f0)) ∧ w'.cell? ⟨(ad115.add ((x7_1).toNat * 3)).block, (ad115.add ((x7_1).toNat * 3)).off + 1, none⟩ = some (.int .i64 ((rd_T42 t112 x7_1).f0.f1)) ∧ w'.cell? ⟨(ad115.add ((x7_1).toNat * 3)).block, (ad115.add ((x7_1).toNat * 3)).off + 2, none⟩ = some (.int .i64 ((rd_T42 t112 x7_1).f1)) ∧ w'.cell? (ad115.add (((ji28)).toNat * 3)) = some (.int .i64 ((rd_T42 t112 (ji28)).f0.f0)) ∧ w'.cell? ⟨(ad115.add (((ji28)).toNat * 3)).block, (ad115.add (((ji28)).toNat * 3)).off + 1, none⟩ = some (.int .i64 ((rd_T42 t112 (ji28)).f0.f1)) ∧ w'.cell? ⟨(ad115.add (((ji28)).toNat * 3)).block, (ad115.add (((ji28)).toNat * 3)).off + 2, none⟩ = some (.int .i64 ((rd_T42 t112 (ji28)).f1))) (ds := []) #[false, false, false, false, false, false, false, false, false, false, false, false, false, false, false, false, false, false, false, false, false, false, false, false, false, false, false, false, false, false, false, false, false, false, false] (by kernel_rfl) rfl rfl ⟨(blk_cell BK109.out 0).trans rfl, (blk_cell BK109.out 1).trans rfl, (blk_cell BK109.out 2).trans rfl, hx115_0, hx115_1, hx115_2, hx117_0, hx117_1, hx117_2, hx118_0, hx118_1, hx118_2, hx119_0, hx119_1, hx119_2⟩ (fun hHeld => ?_); refine with_tabW laws_FnTreeCounts.tab10 laws_FnTreeCounts.bits10 (fun HT_ HW_ => ?_)
          generalize wr.drew = w36 at HO_6 BK105 BK109 HB hx115_0 hx115_1 hx115_2 hx117_0 hx117_1 hx117_2 hx118_0 hx118_1 hx118_2 hx119_0 hx119_1 hx119_2 hHeld ⊢
          refine pv_ 0 29 HT_ ?_; refine pv_ 1 30 HT_ ?_; refine pv_ 2 31 HT_ ?_; refine tv_ 3 32 rfl HT_ HW_ hHeld (by rintro w' ⟨s0, s1, s2, s3, s4, s5, s6, s7, s8, s9, s10, s11, s12, s13, s14⟩; go_simp; with_reducible rfl) ?_
          refine on_ 4 (some 33) rfl rfl HT_ (by kernel_rfl) (by decide) (fun K hK => ?_)
          refine gs_ Try.func51 #[.agg #[.int .i64 ((rd_T42 t112 x7_1).f0.f0), .int .i64 ((rd_T42 t112 x7_1).f0.f1), .int .i64 ((rd_T42 t112 x7_1).f1)]] ?_
          with_reducible refine (impl_IsPerfect.calls k1 ((rd_T42 t112 x7_1).f0.f0) ((rd_T42 t112 x7_1).f0.f1) ((rd_T42 t112 x7_1).f1) true _ A24.out).mono ?_
          rintro e w37 ⟨rfl, hb⟩
          have HS3_ := (hb.cell (World.block_lt_of_cell? _ _ (hHeld.2.2.2.1))).trans (hHeld.2.2.2.1)
          have HS4_ := (hb.cell (World.block_lt_of_cell? _ _ (hHeld.2.2.2.2.1))).trans (hHeld.2.2.2.2.1)
          have HS5_ := (hb.cell (World.block_lt_of_cell? _ _ (hHeld.2.2.2.2.2.1))).trans (hHeld.2.2.2.2.2.1)
          have HS6_ := (hb.cell (World.block_lt_of_cell? _ _ (hHeld.2.2.2.2.2.2.1))).trans (hHeld.2.2.2.2.2.2.1)
          have HS7_ := (hb.cell (World.block_lt_of_cell? _ _ (hHeld.2.2.2.2.2.2.2.1))).trans (hHeld.2.2.2.2.2.2.2.1)
          have HS8_ := (hb.cell (World.block_lt_of_cell? _ _ (hHeld.2.2.2.2.2.2.2.2.1))).trans (hHeld.2.2.2.2.2.2.2.2.1)
          have HS9_ := (hb.cell (World.block_lt_of_cell? _ _ (hHeld.2.2.2.2.2.2.2.2.2.1))).trans (hHeld.2.2.2.2.2.2.2.2.2.1)
          have HS10_ := (hb.cell (World.block_lt_of_cell? _ _ (hHeld.2.2.2.2.2.2.2.2.2.2.1))).trans (hHeld.2.2.2.2.2.2.2.2.2.2.1)
          have HS11_ := (hb.cell (World.block_lt_of_cell? _ _ (hHeld.2.2.2.2.2.2.2.2.2.2.2.1))).trans (hHeld.2.2.2.2.2.2.2.2.2.2.2.1)
          have HS12_ := (hb.cell (World.block_lt_of_cell? _ _ (hHeld.2.2.2.2.2.2.2.2.2.2.2.2.1))).trans (hHeld.2.2.2.2.2.2.2.2.2.2.2.2.1)
          have HS13_ := (hb.cell (World.block_lt_of_cell? _ _ (hHeld.2.2.2.2.2.2.2.2.2.2.2.2.2.1))).trans (hHeld.2.2.2.2.2.2.2.2.2.2.2.2.2.1)
          have HS14_ := (hb.cell (World.block_lt_of_cell? _ _ (hHeld.2.2.2.2.2.2.2.2.2.2.2.2.2.2))).trans (hHeld.2.2.2.2.2.2.2.2.2.2.2.2.2.2)
          refine ⟨_, rfl, ?_⟩
          have n0_ := A_ (Kd.R_below (by (with_reducible repeat (first | apply Kd.R_alloc | apply Kd.R_drewN | apply Kd.R_drew)); exact HO_6.out) hb)
          have n1_ := A_ (blk_below (g := gb105) (o := .cells #[.int .i64 t102, .int .i64 t103, .int .i64 t104] 42 (0, 0)) (by (with_reducible repeat first | refine cA_ ?_ _ | refine cB_ ?_ | refine cC_ ?_ _); exact BK105.1) hb)
          have n2_ := A_ (blk_below (g := gb109) (o := .cells #[.int .i64 t106, .int .i64 t107, .int .i64 t108] 42 (0, 0)) (by (with_reducible repeat first | refine cA_ ?_ _ | refine cB_ ?_ | refine cC_ ?_ _); exact BK109.1) hb)
          have n3_ := A_ (below_step (by repeat first | exact HB.1 | apply bA_ | apply bB_ | apply bC_ | refine below_set ?_ GE105.out | refine below_set ?_ GE109.out) hb)
          clear HO_6 BK105 BK109 HB; have HO_6 := n0_; have BK105 := n1_; have BK109 := n2_; have HB := n3_; clear n0_ n1_ n2_ n3_; (try clear hb); (try clear hk)
          refine hK.out _ _ ⟨(blk_cell BK109.out 0).trans rfl, (blk_cell BK109.out 1).trans rfl, (blk_cell BK109.out 2).trans rfl, HS3_, HS4_, HS5_, HS6_, HS7_, HS8_, HS9_, HS10_, HS11_, HS12_, HS13_, HS14_⟩ (fun hHeld => ?_)
          clear hK K
          refine norm_ (a' := ?_) ?_ ?_; rotate_left; (show Act.put _ (some 33) _ = _; simp only [P6_]; rfl)
          refine pv_ 5 34 HT_ ?_; refine pv_ 6 35 HT_ ?_; refine pv_ 7 36 HT_ ?_; refine pv_ 8 37 HT_ ?_; refine pv_ 9 38 HT_ ?_; refine pv_ 10 39 HT_ ?_; refine pv_ 12 41 HT_ ?_; refine tv_ 11 40 rfl HT_ HW_ hHeld (by rintro w' ⟨s0, s1, s2, s3, s4, s5, s6, s7, s8, s9, s10, s11, s12, s13, s14⟩; go_simp; with_reducible rfl) ?_
          refine tv_ 13 42 rfl HT_ HW_ hHeld (by rintro w' ⟨s0, s1, s2, s3, s4, s5, s6, s7, s8, s9, s10, s11, s12, s13, s14⟩; go_simp; with_reducible rfl) ?_
          refine pv_ 14 43 HT_ ?_; refine pv_ 15 44 HT_ ?_; refine pv_ 16 45 HT_ ?_; refine pv_ 17 46 HT_ ?_; refine pv_ 18 47 HT_ ?_; refine pv_ 19 48 HT_ ?_; refine pv_ 20 49 HT_ ?_; refine pv_ 21 50 HT_ ?_; refine pv_ 22 51 HT_ ?_; refine pv_ 23 52 HT_ ?_; refine pv_ 24 53 HT_ ?_; refine pv_ 26 55 HT_ ?_; refine pv_ 27 56 HT_ ?_; refine pv_ 28 57 HT_ ?_; refine pv_ 29 58 HT_ ?_; refine pv_ 30 59 HT_ ?_; refine tv_ 25 54 rfl HT_ HW_ hHeld (by rintro w' ⟨s0, s1, s2, s3, s4, s5, s6, s7, s8, s9, s10, s11, s12, s13, s14⟩; go_simp; with_reducible rfl) ?_
          refine tv_ 31 60 rfl HT_ HW_ hHeld (by rintro w' ⟨s0, s1, s2, s3, s4, s5, s6, s7, s8, s9, s10, s11, s12, s13, s14⟩; go_simp; with_reducible rfl) ?_
          refine pv_ 32 61 HT_ ?_; refine pv_ 33 62 HT_ ?_; refine pv_ 34 63 HT_ ?_
          refine done_ (done_of HT_.out (by kernel_rfl)) ?_
          try go_wp2
          go_roundg k1
          case measure => have := HK1.out; omega
          case rel => exact ⟨(wrap64 (x7_1 + 1)), (by first | rfl | (simp; done) | (simp [*]; done)), H', ⟨by have := HK1.out; omega⟩, ⟨by (with_reducible repeat (first | apply Kd.R_alloc | apply Kd.R_drewN | apply Kd.R_drew)); exact HO_6.out⟩, ⟨by (with_reducible repeat (first | refine blk_drewN ?_ _ | refine blk_drew ?_ | refine blk_alloc ?_ _)); exact BK105.out⟩, ⟨by (with_reducible repeat (first | refine blk_drewN ?_ _ | refine blk_drew ?_ | refine blk_alloc ?_ _)); exact BK109.out⟩, ⟨by repeat (first | (with_reducible first | exact HB.out | apply below_alloc | apply pw_below_drewN | apply below_drew1 | refine below_set ?_ GE105.out | refine below_set ?_ GE109.out) | exact HB.out)⟩⟩
        ·rw [if_neg c27] at H
         have c27b0 : decide (0 < x7_1) = false := decide_eq_false c27
         clear c27
         have H' := A_ H
         clear H
         obtain ⟨Ao38, co38, eo38⟩ := Kd.R_slice HO_6.out
         subst eo38
         try go_wp2
         have n0_ := A_ (Kd.R_drew HO_6.out)
         have n1_ := A_ (blk_drew BK105.out); have n2_ := A_ (blk_drew BK109.out); have n3_ := A_ (below_drew1 HB.out); clear HO_6 BK105 BK109 HB; have HO_6 := n0_; have BK105 := n1_; have BK109 := n2_; have HB := n3_; clear n0_ n1_ n2_ n3_
         have p115 : 0 ≤ (x7_1 : Int) := of_decide_eq_true (by first | (with_reducible assumption) | assumption)
         have q115 : x7_1 < (t112.length : Int) := of_decide_eq_true (by first | (with_reducible assumption) | assumption)
         obtain ⟨ad115, e115, hx115_0, hx115_1, hx115_2⟩ := at_T42 (Kd.R_reads' HO_6.out).2.2 x7_1 p115 q115
         cases e115
         replace p115 := eq_true p115; replace q115 := eq_true q115
         have p117 : 0 ≤ (x7_1 : Int) := of_decide_eq_true (by first | (with_reducible assumption) | assumption)
         have q117 : x7_1 < (t112.length : Int) := of_decide_eq_true (by first | (with_reducible assumption) | assumption)
         obtain ⟨ad117, e117, hx117_0, hx117_1, hx117_2⟩ := at_T42 (Kd.R_reads' HO_6.out).2.2 x7_1 p117 q117
         obtain rfl : ad115 = ad117 := (by injection e117)
         replace p117 := eq_true p117; replace q117 := eq_true q117
         refine start_ (n := 35) (S := fun w' => w'.cell? ⟨gb109, 0, none⟩ = some (.int .i64 t106) ∧ w'.cell? ⟨gb109, 1, none⟩ = some (.int .i64 t107) ∧ w'.cell? ⟨gb109, 2, none⟩ = some (.int .i64 t108) ∧ w'.cell? (ad115.add ((x7_1).toNat * 3)) = some (.int .i64 ((rd_T42 t112 x7_1).f0.f0)) ∧ w'.cell? ⟨(ad115.add ((x7_1).toNat * 3)).block, (ad115.add ((x7_1).toNat * 3)).off + 1, none⟩ = some (.int .i64 ((rd_T42 t112 x7_1).f0.f1)) ∧ w'.cell? ⟨(ad115.add ((x7_1).toNat * 3)).block, (ad115.add ((x7_1).toNat * 3)).off + 2, none⟩ = some (.int .i64 ((rd_T42 t112 x7_1).f1)) ∧ w'.cell? (ad115.add ((x7_1).toNat * 3)) = some (.int .i64 ((rd_T42 t112 x7_1).f0.f0)) ∧ w'.cell? ⟨(ad115.add ((x7_1).toNat * 3)).block, (ad115.add ((x7_1).toNat * 3)).off + 1, none⟩ = some (.int .i64 ((rd_T42 t112 x7_1).f0.f1)) ∧ w'.cell? ⟨(ad115.add ((x7_1).toNat * 3)).block, (ad115.add ((x7_1).toNat * 3)).off + 2, none⟩ = some (.int .i64 ((rd_T42 t112 x7_1).f1))) (ds := []) #[false, false, false, false, false, false, false, false, false, false, false, false, false, false, false, false, false, false, false, false, false, false, false, false, false, false, false, false, false, false, false, false, false, false, false] (by kernel_rfl) rfl rfl ⟨(blk_cell BK109.out 0).trans rfl, (blk_cell BK109.out 1).trans rfl, (blk_cell BK109.out 2).trans rfl, hx115_0, hx115_1, hx115_2, hx117_0, hx117_1, hx117_2⟩ (fun hHeld => ?_); refine with_tabW laws_FnTreeCounts.tab10 laws_FnTreeCounts.bits10 (fun HT_ HW_ => ?_)
         generalize wr.drew = w39 at HO_6 BK105 BK109 HB hx115_0 hx115_1 hx115_2 hx117_0 hx117_1 hx117_2 hHeld ⊢
         refine pv_ 0 29 HT_ ?_; refine pv_ 1 30 HT_ ?_; refine pv_ 2 31 HT_ ?_; refine tv_ 3 32 rfl HT_ HW_ hHeld (by rintro w' ⟨s0, s1, s2, s3, s4, s5, s6, s7, s8⟩; go_simp; with_reducible rfl) ?_
         refine on_ 4 (some 33) rfl rfl HT_ (by kernel_rfl) (by decide) (fun K hK => ?_)
         refine gs_ Try.func51 #[.agg #[.int .i64 ((rd_T42 t112 x7_1).f0.f0), .int .i64 ((rd_T42 t112 x7_1).f0.f1), .int .i64 ((rd_T42 t112 x7_1).f1)]] ?_
         with_reducible refine (impl_IsPerfect.calls k1 ((rd_T42 t112 x7_1).f0.f0) ((rd_T42 t112 x7_1).f0.f1) ((rd_T42 t112 x7_1).f1) true _ A24.out).mono ?_
         rintro e w40 ⟨rfl, hb⟩
         have HS3_ := (hb.cell (World.block_lt_of_cell? _ _ (hHeld.2.2.2.1))).trans (hHeld.2.2.2.1)
         have HS4_ := (hb.cell (World.block_lt_of_cell? _ _ (hHeld.2.2.2.2.1))).trans (hHeld.2.2.2.2.1)
         have HS5_ := (hb.cell (World.block_lt_of_cell? _ _ (hHeld.2.2.2.2.2.1))).trans (hHeld.2.2.2.2.2.1)
         have HS6_ := (hb.cell (World.block_lt_of_cell? _ _ (hHeld.2.2.2.2.2.2.1))).trans (hHeld.2.2.2.2.2.2.1)
         have HS7_ := (hb.cell (World.block_lt_of_cell? _ _ (hHeld.2.2.2.2.2.2.2.1))).trans (hHeld.2.2.2.2.2.2.2.1)
         have HS8_ := (hb.cell (World.block_lt_of_cell? _ _ (hHeld.2.2.2.2.2.2.2.2))).trans (hHeld.2.2.2.2.2.2.2.2)
         refine ⟨_, rfl, ?_⟩
         have n0_ := A_ (Kd.R_below (by (with_reducible repeat (first | apply Kd.R_alloc | apply Kd.R_drewN | apply Kd.R_drew)); exact HO_6.out) hb)
         have n1_ := A_ (blk_below (g := gb105) (o := .cells #[.int .i64 t102, .int .i64 t103, .int .i64 t104] 42 (0, 0)) (by (with_reducible repeat first | refine cA_ ?_ _ | refine cB_ ?_ | refine cC_ ?_ _); exact BK105.1) hb)
         have n2_ := A_ (blk_below (g := gb109) (o := .cells #[.int .i64 t106, .int .i64 t107, .int .i64 t108] 42 (0, 0)) (by (with_reducible repeat first | refine cA_ ?_ _ | refine cB_ ?_ | refine cC_ ?_ _); exact BK109.1) hb)
         have n3_ := A_ (below_step (by repeat first | exact HB.1 | apply bA_ | apply bB_ | apply bC_ | refine below_set ?_ GE105.out | refine below_set ?_ GE109.out) hb)
         clear HO_6 BK105 BK109 HB; have HO_6 := n0_; have BK105 := n1_; have BK109 := n2_; have HB := n3_; clear n0_ n1_ n2_ n3_; (try clear hb); (try clear hk)
         refine hK.out _ _ ⟨(blk_cell BK109.out 0).trans rfl, (blk_cell BK109.out 1).trans rfl, (blk_cell BK109.out 2).trans rfl, HS3_, HS4_, HS5_, HS6_, HS7_, HS8_⟩ (fun hHeld => ?_)
         clear hK K
         refine norm_ (a' := ?_) ?_ ?_; rotate_left; (show Act.put _ (some 33) _ = _; simp only [P6_]; rfl)
         refine pv_ 5 34 HT_ ?_; refine pv_ 6 35 HT_ ?_; refine pv_ 7 36 HT_ ?_; refine pv_ 8 37 HT_ ?_; refine pv_ 9 38 HT_ ?_; refine pv_ 10 39 HT_ ?_; refine pv_ 12 41 HT_ ?_; refine tv_ 11 40 rfl HT_ HW_ hHeld (by rintro w' ⟨s0, s1, s2, s3, s4, s5, s6, s7, s8⟩; go_simp; with_reducible rfl) ?_
         refine tv_ 13 42 rfl HT_ HW_ hHeld (by rintro w' ⟨s0, s1, s2, s3, s4, s5, s6, s7, s8⟩; go_simp; with_reducible rfl) ?_
         refine pv_ 14 43 HT_ ?_; refine pv_ 15 44 HT_ ?_; refine pv_ 16 45 HT_ ?_; refine pv_ 17 46 HT_ ?_; refine pv_ 18 47 HT_ ?_; refine pv_ 19 48 HT_ ?_; refine pv_ 20 49 HT_ ?_; refine pw_ 21 50 HT_ ?_; refine pw_ 22 51 HT_ ?_; refine pw_ 23 52 HT_ ?_; refine pw_ 24 53 HT_ ?_; refine pw_ 25 54 HT_ ?_; refine pw_ 26 55 HT_ ?_; refine pw_ 27 56 HT_ ?_; refine pw_ 28 57 HT_ ?_; refine pw_ 29 58 HT_ ?_; refine pw_ 30 59 HT_ ?_; refine pw_ 31 60 HT_ ?_; refine pw_ 32 61 HT_ ?_; refine pv_ 33 62 HT_ ?_; refine pv_ 34 63 HT_ ?_
         refine done_ (done_of HT_.out (by kernel_rfl)) ?_
         try go_wp2
         go_roundg k1
         case measure => have := HK1.out; omega
         case rel => exact ⟨(wrap64 (x7_1 + 1)), (by first | rfl | (simp; done) | (simp [*]; done)), H', ⟨by have := HK1.out; omega⟩, ⟨by (with_reducible repeat (first | apply Kd.R_alloc | apply Kd.R_drewN | apply Kd.R_drew)); exact HO_6.out⟩, ⟨by (with_reducible repeat (first | refine blk_drewN ?_ _ | refine blk_drew ?_ | refine blk_alloc ?_ _)); exact BK105.out⟩, ⟨by (with_reducible repeat (first | refine blk_drewN ?_ _ | refine blk_drew ?_ | refine blk_alloc ?_ _)); exact BK109.out⟩, ⟨by repeat (first | (with_reducible first | exact HB.out | apply below_alloc | apply pw_below_drewN | apply below_drew1 | refine below_set ?_ GE105.out | refine below_set ?_ GE109.out) | exact HB.out)⟩⟩
       ·rw [if_neg c26] at H
        have c26b0 : ((Go.bits .andNot .i64 ((rd_T42 t112 x7_1).f1) t108) == 0) = false := beq_eq_false_iff_ne.mpr c26
        have c26b1 : ((Go.bits .andNot .i64 ((rd_T42 t112 x7_1).f1) t108) != 0) = true := bne_iff_ne.mpr c26
        obtain rfl := Option.some.inj H
        obtain ⟨Ao41, co41, eo41⟩ := Kd.R_slice HO_6.out
        subst eo41
        try go_wp2
        have n0_ := A_ (Kd.R_drew HO_6.out)
        have n1_ := A_ (blk_drew BK105.out); have n2_ := A_ (blk_drew BK109.out); have n3_ := A_ (below_drew1 HB.out); clear HO_6 BK105 BK109 HB; have HO_6 := n0_; have BK105 := n1_; have BK109 := n2_; have HB := n3_; clear n0_ n1_ n2_ n3_
        have p115 : 0 ≤ (x7_1 : Int) := of_decide_eq_true (by first | (with_reducible assumption) | assumption)
        have q115 : x7_1 < (t112.length : Int) := of_decide_eq_true (by first | (with_reducible assumption) | assumption)
        obtain ⟨ad115, e115, hx115_0, hx115_1, hx115_2⟩ := at_T42 (Kd.R_reads' HO_6.out).2.2 x7_1 p115 q115
        cases e115
        replace p115 := eq_true p115; replace q115 := eq_true q115
        have p117 : 0 ≤ (x7_1 : Int) := of_decide_eq_true (by first | (with_reducible assumption) | assumption)
        have q117 : x7_1 < (t112.length : Int) := of_decide_eq_true (by first | (with_reducible assumption) | assumption)
        obtain ⟨ad117, e117, hx117_0, hx117_1, hx117_2⟩ := at_T42 (Kd.R_reads' HO_6.out).2.2 x7_1 p117 q117
        obtain rfl : ad115 = ad117 := (by injection e117)
        replace p117 := eq_true p117; replace q117 := eq_true q117
        refine start_ (n := 35) (S := fun w' => w'.cell? ⟨gb109, 0, none⟩ = some (.int .i64 t106) ∧ w'.cell? ⟨gb109, 1, none⟩ = some (.int .i64 t107) ∧ w'.cell? ⟨gb109, 2, none⟩ = some (.int .i64 t108) ∧ w'.cell? (ad115.add ((x7_1).toNat * 3)) = some (.int .i64 ((rd_T42 t112 x7_1).f0.f0)) ∧ w'.cell? ⟨(ad115.add ((x7_1).toNat * 3)).block, (ad115.add ((x7_1).toNat * 3)).off + 1, none⟩ = some (.int .i64 ((rd_T42 t112 x7_1).f0.f1)) ∧ w'.cell? ⟨(ad115.add ((x7_1).toNat * 3)).block, (ad115.add ((x7_1).toNat * 3)).off + 2, none⟩ = some (.int .i64 ((rd_T42 t112 x7_1).f1)) ∧ w'.cell? (ad115.add ((x7_1).toNat * 3)) = some (.int .i64 ((rd_T42 t112 x7_1).f0.f0)) ∧ w'.cell? ⟨(ad115.add ((x7_1).toNat * 3)).block, (ad115.add ((x7_1).toNat * 3)).off + 1, none⟩ = some (.int .i64 ((rd_T42 t112 x7_1).f0.f1)) ∧ w'.cell? ⟨(ad115.add ((x7_1).toNat * 3)).block, (ad115.add ((x7_1).toNat * 3)).off + 2, none⟩ = some (.int .i64 ((rd_T42 t112 x7_1).f1))) (ds := []) #[false, false, false, false, false, false, false, false, false, false, false, false, false, false, false, false, false, false, false, false, false, false, false, false, false, false, false, false, false, false, false, false, false, false, false] (by kernel_rfl) rfl rfl ⟨(blk_cell BK109.out 0).trans rfl, (blk_cell BK109.out 1).trans rfl, (blk_cell BK109.out 2).trans rfl, hx115_0, hx115_1, hx115_2, hx117_0, hx117_1, hx117_2⟩ (fun hHeld => ?_); refine with_tabW laws_FnTreeCounts.tab10 laws_FnTreeCounts.bits10 (fun HT_ HW_ => ?_)
        generalize wr.drew = w42 at HO_6 BK105 BK109 HB hx115_0 hx115_1 hx115_2 hx117_0 hx117_1 hx117_2 hHeld ⊢
        refine pv_ 0 29 HT_ ?_; refine pv_ 1 30 HT_ ?_; refine pv_ 2 31 HT_ ?_; refine tv_ 3 32 rfl HT_ HW_ hHeld (by rintro w' ⟨s0, s1, s2, s3, s4, s5, s6, s7, s8⟩; go_simp; with_reducible rfl) ?_
        refine on_ 4 (some 33) rfl rfl HT_ (by kernel_rfl) (by decide) (fun K hK => ?_)
        refine gs_ Try.func51 #[.agg #[.int .i64 ((rd_T42 t112 x7_1).f0.f0), .int .i64 ((rd_T42 t112 x7_1).f0.f1), .int .i64 ((rd_T42 t112 x7_1).f1)]] ?_
        with_reducible refine (impl_IsPerfect.calls k1 ((rd_T42 t112 x7_1).f0.f0) ((rd_T42 t112 x7_1).f0.f1) ((rd_T42 t112 x7_1).f1) true _ A24.out).mono ?_
        rintro e w43 ⟨rfl, hb⟩
        have HS3_ := (hb.cell (World.block_lt_of_cell? _ _ (hHeld.2.2.2.1))).trans (hHeld.2.2.2.1)
        have HS4_ := (hb.cell (World.block_lt_of_cell? _ _ (hHeld.2.2.2.2.1))).trans (hHeld.2.2.2.2.1)
        have HS5_ := (hb.cell (World.block_lt_of_cell? _ _ (hHeld.2.2.2.2.2.1))).trans (hHeld.2.2.2.2.2.1)
        have HS6_ := (hb.cell (World.block_lt_of_cell? _ _ (hHeld.2.2.2.2.2.2.1))).trans (hHeld.2.2.2.2.2.2.1)
        have HS7_ := (hb.cell (World.block_lt_of_cell? _ _ (hHeld.2.2.2.2.2.2.2.1))).trans (hHeld.2.2.2.2.2.2.2.1)
        have HS8_ := (hb.cell (World.block_lt_of_cell? _ _ (hHeld.2.2.2.2.2.2.2.2))).trans (hHeld.2.2.2.2.2.2.2.2)
        refine ⟨_, rfl, ?_⟩
        have n0_ := A_ (Kd.R_below (by (with_reducible repeat (first | apply Kd.R_alloc | apply Kd.R_drewN | apply Kd.R_drew)); exact HO_6.out) hb)
        have n1_ := A_ (blk_below (g := gb105) (o := .cells #[.int .i64 t102, .int .i64 t103, .int .i64 t104] 42 (0, 0)) (by (with_reducible repeat first | refine cA_ ?_ _ | refine cB_ ?_ | refine cC_ ?_ _); exact BK105.1) hb)
        have n2_ := A_ (blk_below (g := gb109) (o := .cells #[.int .i64 t106, .int .i64 t107, .int .i64 t108] 42 (0, 0)) (by (with_reducible repeat first | refine cA_ ?_ _ | refine cB_ ?_ | refine cC_ ?_ _); exact BK109.1) hb)
        have n3_ := A_ (below_step (by repeat first | exact HB.1 | apply bA_ | apply bB_ | apply bC_ | refine below_set ?_ GE105.out | refine below_set ?_ GE109.out) hb)
        clear HO_6 BK105 BK109 HB; have HO_6 := n0_; have BK105 := n1_; have BK109 := n2_; have HB := n3_; clear n0_ n1_ n2_ n3_; (try clear hb); (try clear hk)
        refine hK.out _ _ ⟨(blk_cell BK109.out 0).trans rfl, (blk_cell BK109.out 1).trans rfl, (blk_cell BK109.out 2).trans rfl, HS3_, HS4_, HS5_, HS6_, HS7_, HS8_⟩ (fun hHeld => ?_)
        clear hK K
        refine norm_ (a' := ?_) ?_ ?_; rotate_left; (show Act.put _ (some 33) _ = _; simp only [P6_]; rfl)
        refine pv_ 5 34 HT_ ?_; refine pv_ 6 35 HT_ ?_; refine pv_ 7 36 HT_ ?_; refine pv_ 8 37 HT_ ?_; refine pv_ 9 38 HT_ ?_; refine pv_ 10 39 HT_ ?_; refine pv_ 12 41 HT_ ?_; refine tv_ 11 40 rfl HT_ HW_ hHeld (by rintro w' ⟨s0, s1, s2, s3, s4, s5, s6, s7, s8⟩; go_simp; with_reducible rfl) ?_
        refine tv_ 13 42 rfl HT_ HW_ hHeld (by rintro w' ⟨s0, s1, s2, s3, s4, s5, s6, s7, s8⟩; go_simp; with_reducible rfl) ?_
        refine pv_ 14 43 HT_ ?_; refine pv_ 15 44 HT_ ?_; refine pv_ 16 45 HT_ ?_; refine pv_ 17 46 HT_ ?_; refine pw_ 18 47 HT_ ?_; refine pw_ 19 48 HT_ ?_; refine pw_ 20 49 HT_ ?_; refine pw_ 21 50 HT_ ?_; refine pw_ 22 51 HT_ ?_; refine pw_ 23 52 HT_ ?_; refine pw_ 24 53 HT_ ?_; refine pw_ 25 54 HT_ ?_; refine pw_ 26 55 HT_ ?_; refine pw_ 27 56 HT_ ?_; refine pw_ 28 57 HT_ ?_; refine pw_ 29 58 HT_ ?_; refine pw_ 30 59 HT_ ?_; refine pw_ 31 60 HT_ ?_; refine pw_ 32 61 HT_ ?_; refine pw_ 33 62 HT_ ?_; refine pv_ 34 63 HT_ ?_
        refine done_ (done_of HT_.out (by kernel_rfl)) ?_
        try go_wp2
        go_ret
        exact ⟨by first | rfl | (simp [errW_none, errW_some] <;> rfl) | (simp [*, errW_none, errW_some] <;> rfl), by repeat (first | (with_reducible first | exact HB.out | apply below_alloc | apply pw_below_drewN | apply below_drew1 | refine below_set ?_ GE105.out | refine below_set ?_ GE109.out) | exact HB.out)⟩
      ·rw [if_neg c25] at H; exact absurd H (by simp)
     ·rw [if_neg c22] at H
      have c22b0 : decide (x7_1 < (t112.length : Int)) = false := decide_eq_false c22
      clear c22
      obtain ⟨⟨t120, t121, t122⟩, A470, H⟩ := oB_ H
      (try dsimp only at H); have A47 := A_ A470; clear A470
      obtain ⟨t124, A480, H⟩ := oB_ H
      (try dsimp only at H); have A48 := A_ A480; clear A480
      by_cases c49 : t124 ≥ 1
      ·rw [if_pos c49] at H
       have c49b0 : decide (1 ≤ t124) = true := decide_eq_true c49
       clear c49
       obtain ⟨t125, A500, H⟩ := oB_ H
       (try dsimp only at H); have A50 := A_ A500; clear A500
       obtain ⟨t128, A510, H⟩ := oB_ H
       (try dsimp only at H); have A51 := A_ A510; clear A510
       obtain ⟨t131, A520, H⟩ := oB_ H
       (try dsimp only at H); have A52 := A_ A520; clear A520
       obtain ⟨t132, A530, H⟩ := oB_ H
       (try dsimp only at H); have A53 := A_ A530; clear A530
       by_cases c54 : t131 = t132
       ·rw [if_pos c54] at H
        have c54b0 : (t131 == t132) = true := beq_iff_eq.mpr c54
        have c54b1 : (t131 != t132) = false := bne_eq_false_iff_eq.mpr c54
        clear c54
        obtain ⟨t133, A550, H⟩ := oB_ H
        (try dsimp only at H); have A55 := A_ A550; clear A550
        by_cases c56 : (t112.length : Int) = t133
        ·rw [if_pos c56] at H
         have c56b0 : ((t112.length : Int) == t133) = true := beq_iff_eq.mpr c56
         have c56b1 : ((t112.length : Int) != t133) = false := bne_eq_false_iff_eq.mpr c56
         clear c56
         obtain ⟨t134, A570, H⟩ := oB_ H
         (try dsimp only at H); have A57 := A_ A570; clear A570
         obtain ⟨t135, A580, H⟩ := oB_ H
         (try dsimp only at H); have A58 := A_ A580; clear A580
         obtain rfl := Option.some.inj H
         obtain ⟨Ao59, co59, eo59⟩ := Kd.R_slice HO_6.out
         subst eo59
         have hnb60 := NB105_109.out
         have hnc60 := NB109_105.out
         obtain ⟨hcz61_0, hcz61_1, hcz61_2⟩ := kk3_ BK105.1
         have hfz61_0 := bf_ BK105.out 0
         have hfz61_1 := bf_ BK105.out 1
         have hfz61_2 := bf_ BK105.out 2
         try go_wp2_with (first | ((with_reducible refine gate_callee (f := 46) rfl ?_); refine gl_ 66 Try.func46 #[.agg #[.int .i64 t102, .int .i64 t103]] ?_; (with_reducible refine (impl_FullMaze.calls t102 t103 t120 t121 t122 _ A47.out).mono ?_); rintro e w62 ⟨rfl, hb⟩; (try clear A47); refine ⟨_, rfl, ?_⟩; have n0_ := A_ (Kd.R_below (by (with_reducible repeat (first | apply Kd.R_alloc | apply Kd.R_drewN | apply Kd.R_drew)); exact HO_6.out) hb); have n1_ := A_ (blk_below (g := gb105) (o := .cells #[.int .i64 t102, .int .i64 t103, .int .i64 t104] 42 (0, 0)) (by (with_reducible repeat first | refine cA_ ?_ _ | refine cB_ ?_ | refine cC_ ?_ _); exact BK105.1) hb); have n2_ := A_ (blk_below (g := gb109) (o := .cells #[.int .i64 t106, .int .i64 t107, .int .i64 t108] 42 (0, 0)) (by (with_reducible repeat first | refine cA_ ?_ _ | refine cB_ ?_ | refine cC_ ?_ _); exact BK109.1) hb); have n3_ := A_ (below_step (by repeat first | exact HB.1 | apply bA_ | apply bB_ | apply bC_ | refine below_set ?_ GE105.out | refine below_set ?_ GE109.out) hb); clear HO_6 BK105 BK109 HB; have HO_6 := n0_; have BK105 := n1_; have BK109 := n2_; have HB := n3_; clear n0_ n1_ n2_ n3_; (try clear hb); (try clear hk)) | ((with_reducible refine gate_dst (N := 8) rfl ?_); (try (refine gate_guard (by rfl) ?_; dsimp only)); refine box_event ?hg (N := 8) ?hd (cs := #[.int .i64 0, .int .i64 0, .int .i64 0]) (t := 42) ?hr ?_; (case hd => rfl); (case hg => rfl); (case hr => first | (go_simp; done) | (go_simp; rfl)); intro gb123 hg w63 hbox hb; have n0_ := A_ (Kd.R_below (Kd.R_elderB (by (with_reducible repeat (first | apply Kd.R_alloc | apply Kd.R_drewN | apply Kd.R_drew)); exact HO_6.out) gb123 (Nat.le_of_eq hg.symm)) hb); have n1_ := A_ (blk_below (g := gb105) (o := .cells #[.int .i64 t102, .int .i64 t103, .int .i64 t104] 42 (0, 0)) (by (with_reducible repeat first | refine cA_ ?_ _ | refine cB_ ?_ | refine cC_ ?_ _); exact BK105.1) hb); have n2_ := A_ (blk_below (g := gb109) (o := .cells #[.int .i64 t106, .int .i64 t107, .int .i64 t108] 42 (0, 0)) (by (with_reducible repeat first | refine cA_ ?_ _ | refine cB_ ?_ | refine cC_ ?_ _); exact BK109.1) hb); have n3_ := A_ (below_step (by repeat first | exact HB.1 | apply bA_ | apply bB_ | apply bC_ | refine below_set ?_ GE105.out | refine below_set ?_ GE109.out) hb); have n4_ := A_ (hbox); have n5_ := A_ ((by rw [hg]; exact (below_size (by repeat first | exact HB.1 | apply bA_ | apply bB_ | apply bC_ | refine below_set ?_ GE105.out | refine below_set ?_ GE109.out)) : w.heap.size ≤ gb123)); have n6_ := n5_; have n7_ := A_ ((by rw [hg]; exact Nat.ne_of_lt (blk_lt (g := gb105) (o := .cells #[.int .i64 t102, .int .i64 t103, .int .i64 t104] 42 (0, 0)) (by (with_reducible repeat first | refine cA_ ?_ _ | refine cB_ ?_ | refine cC_ ?_ _); exact BK105.1)) : gb105 ≠ gb123)); have n8_ := A_ ((by rw [hg]; exact Nat.ne_of_gt (blk_lt (g := gb105) (o := .cells #[.int .i64 t102, .int .i64 t103, .int .i64 t104] 42 (0, 0)) (by (with_reducible repeat first | refine cA_ ?_ _ | refine cB_ ?_ | refine cC_ ?_ _); exact BK105.1)) : gb123 ≠ gb105)); have n9_ := A_ ((by rw [hg]; exact Nat.ne_of_lt (blk_lt (g := gb109) (o := .cells #[.int .i64 t106, .int .i64 t107, .int .i64 t108] 42 (0, 0)) (by (with_reducible repeat first | refine cA_ ?_ _ | refine cB_ ?_ | refine cC_ ?_ _); exact BK109.1)) : gb109 ≠ gb123)); have n10_ := A_ ((by rw [hg]; exact Nat.ne_of_gt (blk_lt (g := gb109) (o := .cells #[.int .i64 t106, .int .i64 t107, .int .i64 t108] 42 (0, 0)) (by (with_reducible repeat first | refine cA_ ?_ _ | refine cB_ ?_ | refine cC_ ?_ _); exact BK109.1)) : gb123 ≠ gb109)); clear HO_6 BK105 BK109 HB; have HO_6 := n0_; have BK105 := n1_; have BK109 := n2_; have HB := n3_; have BK123 := n4_; have GW123 := n5_; have GE123 := n6_; have NB105_123 := n7_; have NB123_105 := n8_; have NB109_123 := n9_; have NB123_109 := n10_; clear n0_ n1_ n2_ n3_ n4_ n5_ n6_ n7_ n8_ n9_ n10_ hb hbox hg; have hnb64 := NB123_105.out; have hnc64 := NB105_123.out; have hnb65 := NB123_109.out; have hnc65 := NB109_123.out; obtain ⟨hcz66_0, hcz66_1, hcz66_2⟩ := kk3_ BK123.1; have hfz66_0 := bf_ BK123.out 0; have hfz66_1 := bf_ BK123.out 1; have hfz66_2 := bf_ BK123.out 2))
         have n0_ : Aside0 (Kd.R k42 42 (((w63.setCell ⟨gb123, 0, none⟩ (.int .i64 t120)).setCell ⟨gb123, 1, none⟩ (.int .i64 t121)).setCell ⟨gb123, 2, none⟩ (.int .i64 t122)) w.heap.size (fun k_ => k_ ≠ gb105 ∧ k_ ≠ gb109 ∧ k_ ≠ gb123) (.slice Ao59 t112.length co59) t112) := ⟨by (with_reducible repeat (first | apply Kd.R_alloc | apply Kd.R_drewN | apply Kd.R_drew)); exact Kd.R_mono (Kd.R_far (p := ⟨gb123, 2, none⟩) (Kd.R_far (p := ⟨gb123, 1, none⟩) (Kd.R_far (p := ⟨gb123, 0, none⟩) (Kd.R_mono HO_6.out (fun k_ hk => (⟨hk, hk.2⟩ : _ ∧ k_ ≠ gb123))) (fun _ hk => hk.2) (.int .i64 t120)) (fun _ hk => hk.2) (.int .i64 t121)) (fun _ hk => hk.2) (.int .i64 t122)) (fun _ hk => ⟨hk.1.1.1, ⟨hk.1.1.2, hk.1.2⟩⟩)⟩
         have n1_ : Aside0 ((((w63.setCell ⟨gb123, 0, none⟩ (.int .i64 t120)).setCell ⟨gb123, 1, none⟩ (.int .i64 t121)).setCell ⟨gb123, 2, none⟩ (.int .i64 t122)).heap[gb105]? = some (.cells #[.int .i64 t102, .int .i64 t103, .int .i64 t104] 42 (0, 0))) := ⟨by (with_reducible repeat (first | refine blk_drewN ?_ _ | refine blk_drew ?_ | refine blk_alloc ?_ _)); refine blk_far ?_ NB105_123.out _; (with_reducible repeat (first | refine blk_drewN ?_ _ | refine blk_drew ?_ | refine blk_alloc ?_ _)); refine blk_far ?_ NB105_123.out _; (with_reducible repeat (first | refine blk_drewN ?_ _ | refine blk_drew ?_ | refine blk_alloc ?_ _)); refine blk_far ?_ NB105_123.out _; (with_reducible repeat (first | refine blk_drewN ?_ _ | refine blk_drew ?_ | refine blk_alloc ?_ _)); exact BK105.out⟩
         have n2_ : Aside0 ((((w63.setCell ⟨gb123, 0, none⟩ (.int .i64 t120)).setCell ⟨gb123, 1, none⟩ (.int .i64 t121)).setCell ⟨gb123, 2, none⟩ (.int .i64 t122)).heap[gb109]? = some (.cells #[.int .i64 t106, .int .i64 t107, .int .i64 t108] 42 (0, 0))) := ⟨by (with_reducible repeat (first | refine blk_drewN ?_ _ | refine blk_drew ?_ | refine blk_alloc ?_ _)); refine blk_far ?_ NB109_123.out _; (with_reducible repeat (first | refine blk_drewN ?_ _ | refine blk_drew ?_ | refine blk_alloc ?_ _)); refine blk_far ?_ NB109_123.out _; (with_reducible repeat (first | refine blk_drewN ?_ _ | refine blk_drew ?_ | refine blk_alloc ?_ _)); refine blk_far ?_ NB109_123.out _; (with_reducible repeat (first | refine blk_drewN ?_ _ | refine blk_drew ?_ | refine blk_alloc ?_ _)); exact BK109.out⟩
         have n3_ : Aside0 ((((w63.setCell ⟨gb123, 0, none⟩ (.int .i64 t120)).setCell ⟨gb123, 1, none⟩ (.int .i64 t121)).setCell ⟨gb123, 2, none⟩ (.int .i64 t122)).heap[gb123]? = some (.cells #[.int .i64 t120, .int .i64 t121, .int .i64 t122] 42 (0, 0))) := ⟨by (with_reducible repeat (first | refine blk_drewN ?_ _ | refine blk_drew ?_ | refine blk_alloc ?_ _)); refine blk_put (cs := #[.int .i64 t120, .int .i64 t121, .int .i64 0]) ?_ 2 _ rfl; (with_reducible repeat (first | refine blk_drewN ?_ _ | refine blk_drew ?_ | refine blk_alloc ?_ _)); refine blk_put (cs := #[.int .i64 t120, .int .i64 0, .int .i64 0]) ?_ 1 _ rfl; (with_reducible repeat (first | refine blk_drewN ?_ _ | refine blk_drew ?_ | refine blk_alloc ?_ _)); refine blk_put (cs := #[.int .i64 0, .int .i64 0, .int .i64 0]) ?_ 0 _ rfl; (with_reducible repeat (first | refine blk_drewN ?_ _ | refine blk_drew ?_ | refine blk_alloc ?_ _)); exact BK123.out⟩
         have n4_ : Aside0 (Below w.heap.size w (((w63.setCell ⟨gb123, 0, none⟩ (.int .i64 t120)).setCell ⟨gb123, 1, none⟩ (.int .i64 t121)).setCell ⟨gb123, 2, none⟩ (.int .i64 t122))) := ⟨by repeat (first | (with_reducible first | exact HB.out | apply below_alloc | apply pw_below_drewN | apply below_drew1 | refine below_set ?_ GE105.out | refine below_set ?_ GE109.out | refine below_set ?_ GE123.out) | exact HB.out)⟩
         (try clear HO_6); (try clear BK105); (try clear BK109); (try clear BK123); (try clear HB)
         generalize (((w63.setCell ⟨gb123, 0, none⟩ (.int .i64 t120)).setCell ⟨gb123, 1, none⟩ (.int .i64 t121)).setCell ⟨gb123, 2, none⟩ (.int .i64 t122)) = w67 at n0_ n1_ n2_ n3_ n4_ ⊢
         have HO_6 := n0_; have BK105 := n1_; have BK109 := n2_; have BK123 := n3_; have HB := n4_; clear n0_ n1_ n2_ n3_ n4_
         have n0_ := A_ (Kd.R_drew HO_6.out)
         have n1_ := A_ (blk_drew BK105.out); have n2_ := A_ (blk_drew BK109.out); have n3_ := A_ (blk_drew BK123.out); have n4_ := A_ (below_drew1 HB.out); clear HO_6 BK105 BK109 BK123 HB; have HO_6 := n0_; have BK105 := n1_; have BK109 := n2_; have BK123 := n3_; have HB := n4_; clear n0_ n1_ n2_ n3_ n4_
         refine start_ (n := 34) (S := fun w' => w'.cell? ⟨gb123, 0, none⟩ = some (.int .i64 t120) ∧ w'.cell? ⟨gb123, 1, none⟩ = some (.int .i64 t121) ∧ w'.cell? ⟨gb123, 2, none⟩ = some (.int .i64 t122) ∧ w'.cell? ⟨gb105, 0, none⟩ = some (.int .i64 t102) ∧ w'.cell? ⟨gb105, 1, none⟩ = some (.int .i64 t103) ∧ w'.cell? ⟨gb105, 2, none⟩ = some (.int .i64 t104) ∧ w'.cell? ⟨gb109, 0, none⟩ = some (.int .i64 t106) ∧ w'.cell? ⟨gb109, 1, none⟩ = some (.int .i64 t107) ∧ w'.cell? ⟨gb109, 2, none⟩ = some (.int .i64 t108)) (ds := []) #[false, false, false, false, false, false, false, false, false, false, false, false, false, false, false, false, false, false, false, false, false, false, false, false, false, false, false, false, false, false, false, false, false, false] (by kernel_rfl) rfl rfl ⟨(blk_cell BK123.out 0).trans rfl, (blk_cell BK123.out 1).trans rfl, (blk_cell BK123.out 2).trans rfl, (blk_cell BK105.out 0).trans rfl, (blk_cell BK105.out 1).trans rfl, (blk_cell BK105.out 2).trans rfl, (blk_cell BK109.out 0).trans rfl, (blk_cell BK109.out 1).trans rfl, (blk_cell BK109.out 2).trans rfl⟩ (fun hHeld => ?_); refine with_tabW laws_FnTreeCounts.tab13 laws_FnTreeCounts.bits13 (fun HT_ HW_ => ?_)
         generalize w67.drew = w68 at HO_6 BK105 BK109 BK123 HB hHeld ⊢; refine tv_ 0 67 rfl HT_ HW_ hHeld (by rintro w' ⟨s0, s1, s2, s3, s4, s5, s6, s7, s8⟩; go_simp; with_reducible rfl) ?_
         refine on_ 1 (some 68) rfl rfl HT_ (by kernel_rfl) (by decide) (fun K hK => ?_)
         refine gs_ Try.func35 #[.agg #[.int .i64 t120, .int .i64 t121, .int .i64 t122]] ?_
         with_reducible refine (impl_CountTrees.calls k1 t120 t121 t122 t124 _ A48.out).mono ?_
         rintro e w69 ⟨rfl, hb⟩
         refine ⟨_, rfl, ?_⟩
         have n0_ := A_ (Kd.R_below (by (with_reducible repeat (first | apply Kd.R_alloc | apply Kd.R_drewN | apply Kd.R_drew)); exact HO_6.out) hb)
         have n1_ := A_ (blk_below (g := gb105) (o := .cells #[.int .i64 t102, .int .i64 t103, .int .i64 t104] 42 (0, 0)) (by (with_reducible repeat first | refine cA_ ?_ _ | refine cB_ ?_ | refine cC_ ?_ _); exact BK105.1) hb)
         have n2_ := A_ (blk_below (g := gb109) (o := .cells #[.int .i64 t106, .int .i64 t107, .int .i64 t108] 42 (0, 0)) (by (with_reducible repeat first | refine cA_ ?_ _ | refine cB_ ?_ | refine cC_ ?_ _); exact BK109.1) hb)
         have n3_ := A_ (blk_below (g := gb123) (o := .cells #[.int .i64 t120, .int .i64 t121, .int .i64 t122] 42 (0, 0)) (by (with_reducible repeat first | refine cA_ ?_ _ | refine cB_ ?_ | refine cC_ ?_ _); exact BK123.1) hb)
         have n4_ := A_ (below_step (by repeat first | exact HB.1 | apply bA_ | apply bB_ | apply bC_ | refine below_set ?_ GE105.out | refine below_set ?_ GE109.out | refine below_set ?_ GE123.out) hb)
         clear HO_6 BK105 BK109 BK123 HB; have HO_6 := n0_; have BK105 := n1_; have BK109 := n2_; have BK123 := n3_; have HB := n4_; clear n0_ n1_ n2_ n3_ n4_; (try clear hb); (try clear hk)
         refine hK.out _ _ ⟨(blk_cell BK123.out 0).trans rfl, (blk_cell BK123.out 1).trans rfl, (blk_cell BK123.out 2).trans rfl, (blk_cell BK105.out 0).trans rfl, (blk_cell BK105.out 1).trans rfl, (blk_cell BK105.out 2).trans rfl, (blk_cell BK109.out 0).trans rfl, (blk_cell BK109.out 1).trans rfl, (blk_cell BK109.out 2).trans rfl⟩ (fun hHeld => ?_)
         clear hK K
         refine norm_ (a' := ?_) ?_ ?_; rotate_left; (show Act.put _ (some 68) _ = _; simp only [P6_]; rfl)
         refine pv_ 2 69 HT_ ?_; refine pv_ 3 70 HT_ ?_; refine pv_ 6 73 HT_ ?_; refine tv_ 4 71 rfl HT_ HW_ hHeld (by rintro w' ⟨s0, s1, s2, s3, s4, s5, s6, s7, s8⟩; go_simp; with_reducible rfl) ?_
         refine tv_ 9 76 rfl HT_ HW_ hHeld (by rintro w' ⟨s0, s1, s2, s3, s4, s5, s6, s7, s8⟩; go_simp; with_reducible rfl) ?_
         refine on_ 5 (some 72) rfl rfl HT_ (by kernel_rfl) (by decide) (fun K hK => ?_)
         refine gs_ Try.func30 #[.agg #[.int .i64 t102, .int .i64 t103, .int .i64 t104]] ?_
         with_reducible refine (impl_LaplaceOf.calls k1 t102 t103 t104 t125 _ A50.out).mono ?_
         rintro e w70 ⟨v126, rfl, ho0, hb⟩
         refine ⟨_, rfl, ?_⟩
         have n0_ := A_ (Kd.R_below (by (with_reducible repeat (first | apply Kd.R_alloc | apply Kd.R_drewN | apply Kd.R_drew)); exact HO_6.out) hb)
         have n1_ := A_ (Kd.S_lower ho0 (below_size (by repeat first | exact HB.1 | apply bA_ | apply bB_ | apply bC_ | refine below_set ?_ GE105.out | refine below_set ?_ GE109.out | refine below_set ?_ GE123.out)))
         have n2_ := A_ (blk_below (g := gb105) (o := .cells #[.int .i64 t102, .int .i64 t103, .int .i64 t104] 42 (0, 0)) (by (with_reducible repeat first | refine cA_ ?_ _ | refine cB_ ?_ | refine cC_ ?_ _); exact BK105.1) hb)
         have n3_ := A_ (blk_below (g := gb109) (o := .cells #[.int .i64 t106, .int .i64 t107, .int .i64 t108] 42 (0, 0)) (by (with_reducible repeat first | refine cA_ ?_ _ | refine cB_ ?_ | refine cC_ ?_ _); exact BK109.1) hb)
         have n4_ := A_ (blk_below (g := gb123) (o := .cells #[.int .i64 t120, .int .i64 t121, .int .i64 t122] 42 (0, 0)) (by (with_reducible repeat first | refine cA_ ?_ _ | refine cB_ ?_ | refine cC_ ?_ _); exact BK123.1) hb)
         have n5_ := A_ (below_step (by repeat first | exact HB.1 | apply bA_ | apply bB_ | apply bC_ | refine below_set ?_ GE105.out | refine below_set ?_ GE109.out | refine below_set ?_ GE123.out) hb)
         clear HO_6 BK105 BK109 BK123 HB; have HO_6 := n0_; have HO127 := n1_; have BK105 := n2_; have BK109 := n3_; have BK123 := n4_; have HB := n5_; clear n0_ n1_ n2_ n3_ n4_ n5_; (try clear hb); (try clear hk); (try clear ho0)
         obtain ⟨Ao71, co71, eo71⟩ := Kd.S_slice HO127.out
         (first | subst eo71 | (injection eo71 with f1_ f2_ f3_; have f4_ := f1_.symm; have f5_ := f3_.symm; clear f1_ f2_ f3_; subst f4_; subst f5_))
         refine hK.out _ _ ⟨(blk_cell BK123.out 0).trans rfl, (blk_cell BK123.out 1).trans rfl, (blk_cell BK123.out 2).trans rfl, (blk_cell BK105.out 0).trans rfl, (blk_cell BK105.out 1).trans rfl, (blk_cell BK105.out 2).trans rfl, (blk_cell BK109.out 0).trans rfl, (blk_cell BK109.out 1).trans rfl, (blk_cell BK109.out 2).trans rfl⟩ (fun hHeld => ?_)
         clear hK K
         refine norm_ (a' := ?_) ?_ ?_; rotate_left; (show Act.put _ (some 72) _ = _; simp only [P6_]; rfl)
         refine on_ 7 (some 74) rfl rfl HT_ (by kernel_rfl) (by decide) (fun K hK => ?_)
         refine gs_ Try.func21 #[.slice Ao71 t125.length co71, .int .i64 (Int.tmod t110 t111)] ?_
         with_reducible refine (impl_WithoutRow.calls k1 _ _ t125 (Int.tmod t110 t111) t128 _ ?side1 ?side2 A51.out).mono ?_
         (case side1 => repeat (first | exact (Kd.S_reads' HO127.out).2.2 | (with_reducible refine Kd.C_alloc ?_ _) | (with_reducible refine Kd.C_drewN ?_ _) | (with_reducible refine Kd.C_drew ?_)))
         (case side2 => exact (Kd.S_reads' HO127.out).2.1)
         rintro e w72 ⟨v129, rfl, ho0, hb⟩
         refine ⟨_, rfl, ?_⟩
         have n0_ := A_ (Kd.R_below (by (with_reducible repeat (first | apply Kd.R_alloc | apply Kd.R_drewN | apply Kd.R_drew)); exact HO_6.out) hb)
         have n1_ := A_ (Kd.S_elder' (by (with_reducible repeat (first | apply Kd.S_alloc | apply Kd.S_drewN | apply Kd.S_drew)); exact HO127.out) (Kd.S_base ho0) hb)
         have n2_ := A_ (Kd.S_lower (Kd.S_new' ho0 (Kd.S_lt (by (with_reducible repeat (first | apply Kd.S_alloc | apply Kd.S_drewN | apply Kd.S_drew)); exact HO127.out))) (below_size (by repeat first | exact HB.1 | apply bA_ | apply bB_ | apply bC_ | refine below_set ?_ GE105.out | refine below_set ?_ GE109.out | refine below_set ?_ GE123.out)))
         have n3_ := A_ (blk_below (g := gb105) (o := .cells #[.int .i64 t102, .int .i64 t103, .int .i64 t104] 42 (0, 0)) (by (with_reducible repeat first | refine cA_ ?_ _ | refine cB_ ?_ | refine cC_ ?_ _); exact BK105.1) hb)
         have n4_ := A_ (blk_below (g := gb109) (o := .cells #[.int .i64 t106, .int .i64 t107, .int .i64 t108] 42 (0, 0)) (by (with_reducible repeat first | refine cA_ ?_ _ | refine cB_ ?_ | refine cC_ ?_ _); exact BK109.1) hb)
         have n5_ := A_ (blk_below (g := gb123) (o := .cells #[.int .i64 t120, .int .i64 t121, .int .i64 t122] 42 (0, 0)) (by (with_reducible repeat first | refine cA_ ?_ _ | refine cB_ ?_ | refine cC_ ?_ _); exact BK123.1) hb)
         have n6_ := A_ (below_step (by repeat first | exact HB.1 | apply bA_ | apply bB_ | apply bC_ | refine below_set ?_ GE105.out | refine below_set ?_ GE109.out | refine below_set ?_ GE123.out) hb)
         clear HO_6 HO127 BK105 BK109 BK123 HB; have HO_6 := n0_; have HO127 := n1_; have HO130 := n2_; have BK105 := n3_; have BK109 := n4_; have BK123 := n5_; have HB := n6_; clear n0_ n1_ n2_ n3_ n4_ n5_ n6_; (try clear hb); (try clear hk); (try clear ho0)
         obtain ⟨Ao73, co73, eo73⟩ := Kd.S_slice HO130.out
         (first | subst eo73 | (injection eo73 with f1_ f2_ f3_; have f4_ := f1_.symm; have f5_ := f3_.symm; clear f1_ f2_ f3_; subst f4_; subst f5_))
         refine hK.out _ _ ⟨(blk_cell BK123.out 0).trans rfl, (blk_cell BK123.out 1).trans rfl, (blk_cell BK123.out 2).trans rfl, (blk_cell BK105.out 0).trans rfl, (blk_cell BK105.out 1).trans rfl, (blk_cell BK105.out 2).trans rfl, (blk_cell BK109.out 0).trans rfl, (blk_cell BK109.out 1).trans rfl, (blk_cell BK109.out 2).trans rfl⟩ (fun hHeld => ?_)
         clear hK K
         refine norm_ (a' := ?_) ?_ ?_; rotate_left; (show Act.put _ (some 74) _ = _; simp only [P6_]; rfl)
         refine on_ 8 (some 75) rfl rfl HT_ (by kernel_rfl) (by decide) (fun K hK => ?_)
         refine gs_ Try.func18 #[.slice Ao73 t128.length co73] ?_
         with_reducible refine (impl_Determinant.calls k1 _ _ t128 t131 _ ?side1 ?side2 A52.out).mono ?_
         (case side1 => repeat (first | exact (Kd.S_reads' HO130.out).2.2 | (with_reducible refine Kd.C_alloc ?_ _) | (with_reducible refine Kd.C_drewN ?_ _) | (with_reducible refine Kd.C_drew ?_)))
         (case side2 => exact (Kd.S_reads' HO130.out).2.1)
         rintro e w74 ⟨rfl, hb⟩
         refine ⟨_, rfl, ?_⟩
         have n0_ := A_ (Kd.R_below (by (with_reducible repeat (first | apply Kd.R_alloc | apply Kd.R_drewN | apply Kd.R_drew)); exact HO_6.out) hb)
         have n1_ := A_ (Kd.S_below (by (with_reducible repeat (first | apply Kd.S_alloc | apply Kd.S_drewN | apply Kd.S_drew)); exact HO127.out) hb)
         have n2_ := A_ (Kd.S_below (by (with_reducible repeat (first | apply Kd.S_alloc | apply Kd.S_drewN | apply Kd.S_drew)); exact HO130.out) hb)
         have n3_ := A_ (blk_below (g := gb105) (o := .cells #[.int .i64 t102, .int .i64 t103, .int .i64 t104] 42 (0, 0)) (by (with_reducible repeat first | refine cA_ ?_ _ | refine cB_ ?_ | refine cC_ ?_ _); exact BK105.1) hb)
         have n4_ := A_ (blk_below (g := gb109) (o := .cells #[.int .i64 t106, .int .i64 t107, .int .i64 t108] 42 (0, 0)) (by (with_reducible repeat first | refine cA_ ?_ _ | refine cB_ ?_ | refine cC_ ?_ _); exact BK109.1) hb)
         have n5_ := A_ (blk_below (g := gb123) (o := .cells #[.int .i64 t120, .int .i64 t121, .int .i64 t122] 42 (0, 0)) (by (with_reducible repeat first | refine cA_ ?_ _ | refine cB_ ?_ | refine cC_ ?_ _); exact BK123.1) hb)
         have n6_ := A_ (below_step (by repeat first | exact HB.1 | apply bA_ | apply bB_ | apply bC_ | refine below_set ?_ GE105.out | refine below_set ?_ GE109.out | refine below_set ?_ GE123.out) hb)
         clear HO_6 HO127 HO130 BK105 BK109 BK123 HB; have HO_6 := n0_; have HO127 := n1_; have HO130 := n2_; have BK105 := n3_; have BK109 := n4_; have BK123 := n5_; have HB := n6_; clear n0_ n1_ n2_ n3_ n4_ n5_ n6_; (try clear hb); (try clear hk)
         refine hK.out _ _ ⟨(blk_cell BK123.out 0).trans rfl, (blk_cell BK123.out 1).trans rfl, (blk_cell BK123.out 2).trans rfl, (blk_cell BK105.out 0).trans rfl, (blk_cell BK105.out 1).trans rfl, (blk_cell BK105.out 2).trans rfl, (blk_cell BK109.out 0).trans rfl, (blk_cell BK109.out 1).trans rfl, (blk_cell BK109.out 2).trans rfl⟩ (fun hHeld => ?_)
         clear hK K
         refine norm_ (a' := ?_) ?_ ?_; rotate_left; (show Act.put _ (some 75) _ = _; simp only [P6_]; rfl)
         refine on_ 10 (some 77) rfl rfl HT_ (by kernel_rfl) (by decide) (fun K hK => ?_)
         refine gs_ Try.func35 #[.agg #[.int .i64 t102, .int .i64 t103, .int .i64 t104]] ?_
         with_reducible refine (impl_CountTrees.calls k1 t102 t103 t104 t132 _ A53.out).mono ?_
         rintro e w75 ⟨rfl, hb⟩
         refine ⟨_, rfl, ?_⟩
         have n0_ := A_ (Kd.R_below (by (with_reducible repeat (first | apply Kd.R_alloc | apply Kd.R_drewN | apply Kd.R_drew)); exact HO_6.out) hb)
         have n1_ := A_ (Kd.S_below (by (with_reducible repeat (first | apply Kd.S_alloc | apply Kd.S_drewN | apply Kd.S_drew)); exact HO127.out) hb)
         have n2_ := A_ (Kd.S_below (by (with_reducible repeat (first | apply Kd.S_alloc | apply Kd.S_drewN | apply Kd.S_drew)); exact HO130.out) hb)
         have n3_ := A_ (blk_below (g := gb105) (o := .cells #[.int .i64 t102, .int .i64 t103, .int .i64 t104] 42 (0, 0)) (by (with_reducible repeat first | refine cA_ ?_ _ | refine cB_ ?_ | refine cC_ ?_ _); exact BK105.1) hb)
         have n4_ := A_ (blk_below (g := gb109) (o := .cells #[.int .i64 t106, .int .i64 t107, .int .i64 t108] 42 (0, 0)) (by (with_reducible repeat first | refine cA_ ?_ _ | refine cB_ ?_ | refine cC_ ?_ _); exact BK109.1) hb)
         have n5_ := A_ (blk_below (g := gb123) (o := .cells #[.int .i64 t120, .int .i64 t121, .int .i64 t122] 42 (0, 0)) (by (with_reducible repeat first | refine cA_ ?_ _ | refine cB_ ?_ | refine cC_ ?_ _); exact BK123.1) hb)
         have n6_ := A_ (below_step (by repeat first | exact HB.1 | apply bA_ | apply bB_ | apply bC_ | refine below_set ?_ GE105.out | refine below_set ?_ GE109.out | refine below_set ?_ GE123.out) hb)
         clear HO_6 HO127 HO130 BK105 BK109 BK123 HB; have HO_6 := n0_; have HO127 := n1_; have HO130 := n2_; have BK105 := n3_; have BK109 := n4_; have BK123 := n5_; have HB := n6_; clear n0_ n1_ n2_ n3_ n4_ n5_ n6_; (try clear hb); (try clear hk)
         refine hK.out _ _ ⟨(blk_cell BK123.out 0).trans rfl, (blk_cell BK123.out 1).trans rfl, (blk_cell BK123.out 2).trans rfl, (blk_cell BK105.out 0).trans rfl, (blk_cell BK105.out 1).trans rfl, (blk_cell BK105.out 2).trans rfl, (blk_cell BK109.out 0).trans rfl, (blk_cell BK109.out 1).trans rfl, (blk_cell BK109.out 2).trans rfl⟩ (fun hHeld => ?_)
         clear hK K
         refine norm_ (a' := ?_) ?_ ?_; rotate_left; (show Act.put _ (some 77) _ = _; simp only [P6_]; rfl)
         refine pv_ 11 78 HT_ ?_; refine pv_ 12 79 HT_ ?_; refine pv_ 13 80 HT_ ?_; refine pv_ 14 81 HT_ ?_; refine pv_ 15 82 HT_ ?_; refine tv_ 16 83 rfl HT_ HW_ hHeld (by rintro w' ⟨s0, s1, s2, s3, s4, s5, s6, s7, s8⟩; go_simp; with_reducible rfl) ?_
         refine on_ 17 (some 84) rfl rfl HT_ (by kernel_rfl) (by decide) (fun K hK => ?_)
         refine gs_ Try.func35 #[.agg #[.int .i64 t106, .int .i64 t107, .int .i64 t108]] ?_
         with_reducible refine (impl_CountTrees.calls k1 t106 t107 t108 t133 _ A55.out).mono ?_
         rintro e w76 ⟨rfl, hb⟩
         refine ⟨_, rfl, ?_⟩
         have n0_ := A_ (Kd.R_below (by (with_reducible repeat (first | apply Kd.R_alloc | apply Kd.R_drewN | apply Kd.R_drew)); exact HO_6.out) hb)
         have n1_ := A_ (Kd.S_below (by (with_reducible repeat (first | apply Kd.S_alloc | apply Kd.S_drewN | apply Kd.S_drew)); exact HO127.out) hb)
         have n2_ := A_ (Kd.S_below (by (with_reducible repeat (first | apply Kd.S_alloc | apply Kd.S_drewN | apply Kd.S_drew)); exact HO130.out) hb)
         have n3_ := A_ (blk_below (g := gb105) (o := .cells #[.int .i64 t102, .int .i64 t103, .int .i64 t104] 42 (0, 0)) (by (with_reducible repeat first | refine cA_ ?_ _ | refine cB_ ?_ | refine cC_ ?_ _); exact BK105.1) hb)
         have n4_ := A_ (blk_below (g := gb109) (o := .cells #[.int .i64 t106, .int .i64 t107, .int .i64 t108] 42 (0, 0)) (by (with_reducible repeat first | refine cA_ ?_ _ | refine cB_ ?_ | refine cC_ ?_ _); exact BK109.1) hb)
         have n5_ := A_ (blk_below (g := gb123) (o := .cells #[.int .i64 t120, .int .i64 t121, .int .i64 t122] 42 (0, 0)) (by (with_reducible repeat first | refine cA_ ?_ _ | refine cB_ ?_ | refine cC_ ?_ _); exact BK123.1) hb)
         have n6_ := A_ (below_step (by repeat first | exact HB.1 | apply bA_ | apply bB_ | apply bC_ | refine below_set ?_ GE105.out | refine below_set ?_ GE109.out | refine below_set ?_ GE123.out) hb)
         clear HO_6 HO127 HO130 BK105 BK109 BK123 HB; have HO_6 := n0_; have HO127 := n1_; have HO130 := n2_; have BK105 := n3_; have BK109 := n4_; have BK123 := n5_; have HB := n6_; clear n0_ n1_ n2_ n3_ n4_ n5_ n6_; (try clear hb); (try clear hk)
         refine hK.out _ _ ⟨(blk_cell BK123.out 0).trans rfl, (blk_cell BK123.out 1).trans rfl, (blk_cell BK123.out 2).trans rfl, (blk_cell BK105.out 0).trans rfl, (blk_cell BK105.out 1).trans rfl, (blk_cell BK105.out 2).trans rfl, (blk_cell BK109.out 0).trans rfl, (blk_cell BK109.out 1).trans rfl, (blk_cell BK109.out 2).trans rfl⟩ (fun hHeld => ?_)
         clear hK K
         refine norm_ (a' := ?_) ?_ ?_; rotate_left; (show Act.put _ (some 84) _ = _; simp only [P6_]; rfl)
         refine pv_ 18 85 HT_ ?_; refine pv_ 19 86 HT_ ?_; refine pv_ 20 87 HT_ ?_; refine pv_ 21 88 HT_ ?_; refine pv_ 23 90 HT_ ?_; refine pv_ 25 92 HT_ ?_; refine tv_ 22 89 rfl HT_ HW_ hHeld (by rintro w' ⟨s0, s1, s2, s3, s4, s5, s6, s7, s8⟩; go_simp; with_reducible rfl) ?_
         refine tv_ 24 91 rfl HT_ HW_ hHeld (by rintro w' ⟨s0, s1, s2, s3, s4, s5, s6, s7, s8⟩; go_simp; with_reducible rfl) ?_
         refine tv_ 26 93 rfl HT_ HW_ hHeld (by rintro w' ⟨s0, s1, s2, s3, s4, s5, s6, s7, s8⟩; go_simp; with_reducible rfl) ?_
         refine pv_ 27 94 HT_ ?_; refine tv_ 29 96 rfl HT_ HW_ hHeld (by rintro w' ⟨s0, s1, s2, s3, s4, s5, s6, s7, s8⟩; go_simp; with_reducible rfl) ?_
         refine on_ 28 (some 95) rfl rfl HT_ (by kernel_rfl) (by decide) (fun K hK => ?_)
         refine gs_ Try.func34 #[.agg #[.int .i64 t102, .int .i64 t103], .int .i64 0, .int .i64 (Go.bits .andNot .i64 t122 t104)] ?_
         with_reducible refine (impl_CountFixed.calls k1 t102 t103 0 (Go.bits .andNot .i64 t122 t104) t134 _ A57.out).mono ?_
         rintro e w77 ⟨rfl, hb⟩
         refine ⟨_, rfl, ?_⟩
         have n0_ := A_ (Kd.R_below (by (with_reducible repeat (first | apply Kd.R_alloc | apply Kd.R_drewN | apply Kd.R_drew)); exact HO_6.out) hb)
         have n1_ := A_ (Kd.S_below (by (with_reducible repeat (first | apply Kd.S_alloc | apply Kd.S_drewN | apply Kd.S_drew)); exact HO127.out) hb)
         have n2_ := A_ (Kd.S_below (by (with_reducible repeat (first | apply Kd.S_alloc | apply Kd.S_drewN | apply Kd.S_drew)); exact HO130.out) hb)
         have n3_ := A_ (blk_below (g := gb105) (o := .cells #[.int .i64 t102, .int .i64 t103, .int .i64 t104] 42 (0, 0)) (by (with_reducible repeat first | refine cA_ ?_ _ | refine cB_ ?_ | refine cC_ ?_ _); exact BK105.1) hb)
         have n4_ := A_ (blk_below (g := gb109) (o := .cells #[.int .i64 t106, .int .i64 t107, .int .i64 t108] 42 (0, 0)) (by (with_reducible repeat first | refine cA_ ?_ _ | refine cB_ ?_ | refine cC_ ?_ _); exact BK109.1) hb)
         have n5_ := A_ (blk_below (g := gb123) (o := .cells #[.int .i64 t120, .int .i64 t121, .int .i64 t122] 42 (0, 0)) (by (with_reducible repeat first | refine cA_ ?_ _ | refine cB_ ?_ | refine cC_ ?_ _); exact BK123.1) hb)
         have n6_ := A_ (below_step (by repeat first | exact HB.1 | apply bA_ | apply bB_ | apply bC_ | refine below_set ?_ GE105.out | refine below_set ?_ GE109.out | refine below_set ?_ GE123.out) hb)
         clear HO_6 HO127 HO130 BK105 BK109 BK123 HB; have HO_6 := n0_; have HO127 := n1_; have HO130 := n2_; have BK105 := n3_; have BK109 := n4_; have BK123 := n5_; have HB := n6_; clear n0_ n1_ n2_ n3_ n4_ n5_ n6_; (try clear hb); (try clear hk)
         refine hK.out _ _ ⟨(blk_cell BK123.out 0).trans rfl, (blk_cell BK123.out 1).trans rfl, (blk_cell BK123.out 2).trans rfl, (blk_cell BK105.out 0).trans rfl, (blk_cell BK105.out 1).trans rfl, (blk_cell BK105.out 2).trans rfl, (blk_cell BK109.out 0).trans rfl, (blk_cell BK109.out 1).trans rfl, (blk_cell BK109.out 2).trans rfl⟩ (fun hHeld => ?_)
         clear hK K
         refine norm_ (a' := ?_) ?_ ?_; rotate_left; (show Act.put _ (some 95) _ = _; simp only [P6_]; rfl)
         refine on_ 30 (some 97) rfl rfl HT_ (by kernel_rfl) (by decide) (fun K hK => ?_)
         refine gs_ Try.func35 #[.agg #[.int .i64 t102, .int .i64 t103, .int .i64 t104]] ?_
         with_reducible refine (impl_CountTrees.calls k1 t102 t103 t104 t135 _ A58.out).mono ?_
         rintro e w78 ⟨rfl, hb⟩
         refine ⟨_, rfl, ?_⟩
         have n0_ := A_ (Kd.R_below (by (with_reducible repeat (first | apply Kd.R_alloc | apply Kd.R_drewN | apply Kd.R_drew)); exact HO_6.out) hb)
         have n1_ := A_ (Kd.S_below (by (with_reducible repeat (first | apply Kd.S_alloc | apply Kd.S_drewN | apply Kd.S_drew)); exact HO127.out) hb)
         have n2_ := A_ (Kd.S_below (by (with_reducible repeat (first | apply Kd.S_alloc | apply Kd.S_drewN | apply Kd.S_drew)); exact HO130.out) hb)
         have n3_ := A_ (blk_below (g := gb105) (o := .cells #[.int .i64 t102, .int .i64 t103, .int .i64 t104] 42 (0, 0)) (by (with_reducible repeat first | refine cA_ ?_ _ | refine cB_ ?_ | refine cC_ ?_ _); exact BK105.1) hb)
         have n4_ := A_ (blk_below (g := gb109) (o := .cells #[.int .i64 t106, .int .i64 t107, .int .i64 t108] 42 (0, 0)) (by (with_reducible repeat first | refine cA_ ?_ _ | refine cB_ ?_ | refine cC_ ?_ _); exact BK109.1) hb)
         have n5_ := A_ (blk_below (g := gb123) (o := .cells #[.int .i64 t120, .int .i64 t121, .int .i64 t122] 42 (0, 0)) (by (with_reducible repeat first | refine cA_ ?_ _ | refine cB_ ?_ | refine cC_ ?_ _); exact BK123.1) hb)
         have n6_ := A_ (below_step (by repeat first | exact HB.1 | apply bA_ | apply bB_ | apply bC_ | refine below_set ?_ GE105.out | refine below_set ?_ GE109.out | refine below_set ?_ GE123.out) hb)
         clear HO_6 HO127 HO130 BK105 BK109 BK123 HB; have HO_6 := n0_; have HO127 := n1_; have HO130 := n2_; have BK105 := n3_; have BK109 := n4_; have BK123 := n5_; have HB := n6_; clear n0_ n1_ n2_ n3_ n4_ n5_ n6_; (try clear hb); (try clear hk)
         refine hK.out _ _ ⟨(blk_cell BK123.out 0).trans rfl, (blk_cell BK123.out 1).trans rfl, (blk_cell BK123.out 2).trans rfl, (blk_cell BK105.out 0).trans rfl, (blk_cell BK105.out 1).trans rfl, (blk_cell BK105.out 2).trans rfl, (blk_cell BK109.out 0).trans rfl, (blk_cell BK109.out 1).trans rfl, (blk_cell BK109.out 2).trans rfl⟩ (fun hHeld => ?_)
         clear hK K
         refine norm_ (a' := ?_) ?_ ?_; rotate_left; (show Act.put _ (some 97) _ = _; simp only [P6_]; rfl)
         refine pv_ 31 98 HT_ ?_; refine pv_ 32 99 HT_ ?_; refine pv_ 33 2 HT_ ?_
         refine done_ (done_of HT_.out (by kernel_rfl)) ?_
         try go_wp2
         go_ret
         exact ⟨by first | rfl | (simp [errW_none, errW_some] <;> rfl) | (simp [*, errW_none, errW_some] <;> rfl), by repeat (first | (with_reducible first | exact HB.out | apply below_alloc | apply pw_below_drewN | apply below_drew1 | refine below_set ?_ GE105.out | refine below_set ?_ GE109.out | refine below_set ?_ GE123.out) | exact HB.out)⟩
        ·rw [if_neg c56] at H
         have c56b0 : ((t112.length : Int) == t133) = false := beq_eq_false_iff_ne.mpr c56
         have c56b1 : ((t112.length : Int) != t133) = true := bne_iff_ne.mpr c56
         obtain rfl := Option.some.inj H
         obtain ⟨Ao79, co79, eo79⟩ := Kd.R_slice HO_6.out
         subst eo79
         have hnb80 := NB105_109.out
         have hnc80 := NB109_105.out
         obtain ⟨hcz81_0, hcz81_1, hcz81_2⟩ := kk3_ BK105.1
         have hfz81_0 := bf_ BK105.out 0
         have hfz81_1 := bf_ BK105.out 1
         have hfz81_2 := bf_ BK105.out 2
         try go_wp2_with (first | ((with_reducible refine gate_callee (f := 46) rfl ?_); refine gl_ 66 Try.func46 #[.agg #[.int .i64 t102, .int .i64 t103]] ?_; (with_reducible refine (impl_FullMaze.calls t102 t103 t120 t121 t122 _ A47.out).mono ?_); rintro e w82 ⟨rfl, hb⟩; (try clear A47); refine ⟨_, rfl, ?_⟩; have n0_ := A_ (Kd.R_below (by (with_reducible repeat (first | apply Kd.R_alloc | apply Kd.R_drewN | apply Kd.R_drew)); exact HO_6.out) hb); have n1_ := A_ (blk_below (g := gb105) (o := .cells #[.int .i64 t102, .int .i64 t103, .int .i64 t104] 42 (0, 0)) (by (with_reducible repeat first | refine cA_ ?_ _ | refine cB_ ?_ | refine cC_ ?_ _); exact BK105.1) hb); have n2_ := A_ (blk_below (g := gb109) (o := .cells #[.int .i64 t106, .int .i64 t107, .int .i64 t108] 42 (0, 0)) (by (with_reducible repeat first | refine cA_ ?_ _ | refine cB_ ?_ | refine cC_ ?_ _); exact BK109.1) hb); have n3_ := A_ (below_step (by repeat first | exact HB.1 | apply bA_ | apply bB_ | apply bC_ | refine below_set ?_ GE105.out | refine below_set ?_ GE109.out) hb); clear HO_6 BK105 BK109 HB; have HO_6 := n0_; have BK105 := n1_; have BK109 := n2_; have HB := n3_; clear n0_ n1_ n2_ n3_; (try clear hb); (try clear hk)) | ((with_reducible refine gate_dst (N := 8) rfl ?_); (try (refine gate_guard (by rfl) ?_; dsimp only)); refine box_event ?hg (N := 8) ?hd (cs := #[.int .i64 0, .int .i64 0, .int .i64 0]) (t := 42) ?hr ?_; (case hd => rfl); (case hg => rfl); (case hr => first | (go_simp; done) | (go_simp; rfl)); intro gb123 hg w83 hbox hb; have n0_ := A_ (Kd.R_below (Kd.R_elderB (by (with_reducible repeat (first | apply Kd.R_alloc | apply Kd.R_drewN | apply Kd.R_drew)); exact HO_6.out) gb123 (Nat.le_of_eq hg.symm)) hb); have n1_ := A_ (blk_below (g := gb105) (o := .cells #[.int .i64 t102, .int .i64 t103, .int .i64 t104] 42 (0, 0)) (by (with_reducible repeat first | refine cA_ ?_ _ | refine cB_ ?_ | refine cC_ ?_ _); exact BK105.1) hb); have n2_ := A_ (blk_below (g := gb109) (o := .cells #[.int .i64 t106, .int .i64 t107, .int .i64 t108] 42 (0, 0)) (by (with_reducible repeat first | refine cA_ ?_ _ | refine cB_ ?_ | refine cC_ ?_ _); exact BK109.1) hb); have n3_ := A_ (below_step (by repeat first | exact HB.1 | apply bA_ | apply bB_ | apply bC_ | refine below_set ?_ GE105.out | refine below_set ?_ GE109.out) hb); have n4_ := A_ (hbox); have n5_ := A_ ((by rw [hg]; exact (below_size (by repeat first | exact HB.1 | apply bA_ | apply bB_ | apply bC_ | refine below_set ?_ GE105.out | refine below_set ?_ GE109.out)) : w.heap.size ≤ gb123)); have n6_ := n5_; have n7_ := A_ ((by rw [hg]; exact Nat.ne_of_lt (blk_lt (g := gb105) (o := .cells #[.int .i64 t102, .int .i64 t103, .int .i64 t104] 42 (0, 0)) (by (with_reducible repeat first | refine cA_ ?_ _ | refine cB_ ?_ | refine cC_ ?_ _); exact BK105.1)) : gb105 ≠ gb123)); have n8_ := A_ ((by rw [hg]; exact Nat.ne_of_gt (blk_lt (g := gb105) (o := .cells #[.int .i64 t102, .int .i64 t103, .int .i64 t104] 42 (0, 0)) (by (with_reducible repeat first | refine cA_ ?_ _ | refine cB_ ?_ | refine cC_ ?_ _); exact BK105.1)) : gb123 ≠ gb105)); have n9_ := A_ ((by rw [hg]; exact Nat.ne_of_lt (blk_lt (g := gb109) (o := .cells #[.int .i64 t106, .int .i64 t107, .int .i64 t108] 42 (0, 0)) (by (with_reducible repeat first | refine cA_ ?_ _ | refine cB_ ?_ | refine cC_ ?_ _); exact BK109.1)) : gb109 ≠ gb123)); have n10_ := A_ ((by rw [hg]; exact Nat.ne_of_gt (blk_lt (g := gb109) (o := .cells #[.int .i64 t106, .int .i64 t107, .int .i64 t108] 42 (0, 0)) (by (with_reducible repeat first | refine cA_ ?_ _ | refine cB_ ?_ | refine cC_ ?_ _); exact BK109.1)) : gb123 ≠ gb109)); clear HO_6 BK105 BK109 HB; have HO_6 := n0_; have BK105 := n1_; have BK109 := n2_; have HB := n3_; have BK123 := n4_; have GW123 := n5_; have GE123 := n6_; have NB105_123 := n7_; have NB123_105 := n8_; have NB109_123 := n9_; have NB123_109 := n10_; clear n0_ n1_ n2_ n3_ n4_ n5_ n6_ n7_ n8_ n9_ n10_ hb hbox hg; have hnb84 := NB123_105.out; have hnc84 := NB105_123.out; have hnb85 := NB123_109.out; have hnc85 := NB109_123.out; obtain ⟨hcz86_0, hcz86_1, hcz86_2⟩ := kk3_ BK123.1; have hfz86_0 := bf_ BK123.out 0; have hfz86_1 := bf_ BK123.out 1; have hfz86_2 := bf_ BK123.out 2))
         have n0_ : Aside0 (Kd.R k42 42 (((w83.setCell ⟨gb123, 0, none⟩ (.int .i64 t120)).setCell ⟨gb123, 1, none⟩ (.int .i64 t121)).setCell ⟨gb123, 2, none⟩ (.int .i64 t122)) w.heap.size (fun k_ => k_ ≠ gb105 ∧ k_ ≠ gb109 ∧ k_ ≠ gb123) (.slice Ao79 t112.length co79) t112) := ⟨by (with_reducible repeat (first | apply Kd.R_alloc | apply Kd.R_drewN | apply Kd.R_drew)); exact Kd.R_mono (Kd.R_far (p := ⟨gb123, 2, none⟩) (Kd.R_far (p := ⟨gb123, 1, none⟩) (Kd.R_far (p := ⟨gb123, 0, none⟩) (Kd.R_mono HO_6.out (fun k_ hk => (⟨hk, hk.2⟩ : _ ∧ k_ ≠ gb123))) (fun _ hk => hk.2) (.int .i64 t120)) (fun _ hk => hk.2) (.int .i64 t121)) (fun _ hk => hk.2) (.int .i64 t122)) (fun _ hk => ⟨hk.1.1.1, ⟨hk.1.1.2, hk.1.2⟩⟩)⟩
         have n1_ : Aside0 ((((w83.setCell ⟨gb123, 0, none⟩ (.int .i64 t120)).setCell ⟨gb123, 1, none⟩ (.int .i64 t121)).setCell ⟨gb123, 2, none⟩ (.int .i64 t122)).heap[gb105]? = some (.cells #[.int .i64 t102, .int .i64 t103, .int .i64 t104] 42 (0, 0))) := ⟨by (with_reducible repeat (first | refine blk_drewN ?_ _ | refine blk_drew ?_ | refine blk_alloc ?_ _)); refine blk_far ?_ NB105_123.out _; (with_reducible repeat (first | refine blk_drewN ?_ _ | refine blk_drew ?_ | refine blk_alloc ?_ _)); refine blk_far ?_ NB105_123.out _; (with_reducible repeat (first | refine blk_drewN ?_ _ | refine blk_drew ?_ | refine blk_alloc ?_ _)); refine blk_far ?_ NB105_123.out _; (with_reducible repeat (first | refine blk_drewN ?_ _ | refine blk_drew ?_ | refine blk_alloc ?_ _)); exact BK105.out⟩
         have n2_ : Aside0 ((((w83.setCell ⟨gb123, 0, none⟩ (.int .i64 t120)).setCell ⟨gb123, 1, none⟩ (.int .i64 t121)).setCell ⟨gb123, 2, none⟩ (.int .i64 t122)).heap[gb109]? = some (.cells #[.int .i64 t106, .int .i64 t107, .int .i64 t108] 42 (0, 0))) := ⟨by (with_reducible repeat (first | refine blk_drewN ?_ _ | refine blk_drew ?_ | refine blk_alloc ?_ _)); refine blk_far ?_ NB109_123.out _; (with_reducible repeat (first | refine blk_drewN ?_ _ | refine blk_drew ?_ | refine blk_alloc ?_ _)); refine blk_far ?_ NB109_123.out _; (with_reducible repeat (first | refine blk_drewN ?_ _ | refine blk_drew ?_ | refine blk_alloc ?_ _)); refine blk_far ?_ NB109_123.out _; (with_reducible repeat (first | refine blk_drewN ?_ _ | refine blk_drew ?_ | refine blk_alloc ?_ _)); exact BK109.out⟩
         have n3_ : Aside0 ((((w83.setCell ⟨gb123, 0, none⟩ (.int .i64 t120)).setCell ⟨gb123, 1, none⟩ (.int .i64 t121)).setCell ⟨gb123, 2, none⟩ (.int .i64 t122)).heap[gb123]? = some (.cells #[.int .i64 t120, .int .i64 t121, .int .i64 t122] 42 (0, 0))) := ⟨by (with_reducible repeat (first | refine blk_drewN ?_ _ | refine blk_drew ?_ | refine blk_alloc ?_ _)); refine blk_put (cs := #[.int .i64 t120, .int .i64 t121, .int .i64 0]) ?_ 2 _ rfl; (with_reducible repeat (first | refine blk_drewN ?_ _ | refine blk_drew ?_ | refine blk_alloc ?_ _)); refine blk_put (cs := #[.int .i64 t120, .int .i64 0, .int .i64 0]) ?_ 1 _ rfl; (with_reducible repeat (first | refine blk_drewN ?_ _ | refine blk_drew ?_ | refine blk_alloc ?_ _)); refine blk_put (cs := #[.int .i64 0, .int .i64 0, .int .i64 0]) ?_ 0 _ rfl; (with_reducible repeat (first | refine blk_drewN ?_ _ | refine blk_drew ?_ | refine blk_alloc ?_ _)); exact BK123.out⟩
         have n4_ : Aside0 (Below w.heap.size w (((w83.setCell ⟨gb123, 0, none⟩ (.int .i64 t120)).setCell ⟨gb123, 1, none⟩ (.int .i64 t121)).setCell ⟨gb123, 2, none⟩ (.int .i64 t122))) := ⟨by repeat (first | (with_reducible first | exact HB.out | apply below_alloc | apply pw_below_drewN | apply below_drew1 | refine below_set ?_ GE105.out | refine below_set ?_ GE109.out | refine below_set ?_ GE123.out) | exact HB.out)⟩
         (try clear HO_6); (try clear BK105); (try clear BK109); (try clear BK123); (try clear HB)
         generalize (((w83.setCell ⟨gb123, 0, none⟩ (.int .i64 t120)).setCell ⟨gb123, 1, none⟩ (.int .i64 t121)).setCell ⟨gb123, 2, none⟩ (.int .i64 t122)) = w87 at n0_ n1_ n2_ n3_ n4_ ⊢
         have HO_6 := n0_; have BK105 := n1_; have BK109 := n2_; have BK123 := n3_; have HB := n4_; clear n0_ n1_ n2_ n3_ n4_
         have n0_ := A_ (Kd.R_drew HO_6.out)
         have n1_ := A_ (blk_drew BK105.out); have n2_ := A_ (blk_drew BK109.out); have n3_ := A_ (blk_drew BK123.out); have n4_ := A_ (below_drew1 HB.out); clear HO_6 BK105 BK109 BK123 HB; have HO_6 := n0_; have BK105 := n1_; have BK109 := n2_; have BK123 := n3_; have HB := n4_; clear n0_ n1_ n2_ n3_ n4_
         refine start_ (n := 34) (S := fun w' => w'.cell? ⟨gb123, 0, none⟩ = some (.int .i64 t120) ∧ w'.cell? ⟨gb123, 1, none⟩ = some (.int .i64 t121) ∧ w'.cell? ⟨gb123, 2, none⟩ = some (.int .i64 t122) ∧ w'.cell? ⟨gb105, 0, none⟩ = some (.int .i64 t102) ∧ w'.cell? ⟨gb105, 1, none⟩ = some (.int .i64 t103) ∧ w'.cell? ⟨gb105, 2, none⟩ = some (.int .i64 t104) ∧ w'.cell? ⟨gb109, 0, none⟩ = some (.int .i64 t106) ∧ w'.cell? ⟨gb109, 1, none⟩ = some (.int .i64 t107) ∧ w'.cell? ⟨gb109, 2, none⟩ = some (.int .i64 t108)) (ds := []) #[false, false, false, false, false, false, false, false, false, false, false, false, false, false, false, false, false, false, false, false, false, false, false, false, false, false, false, false, false, false, false, false, false, false] (by kernel_rfl) rfl rfl ⟨(blk_cell BK123.out 0).trans rfl, (blk_cell BK123.out 1).trans rfl, (blk_cell BK123.out 2).trans rfl, (blk_cell BK105.out 0).trans rfl, (blk_cell BK105.out 1).trans rfl, (blk_cell BK105.out 2).trans rfl, (blk_cell BK109.out 0).trans rfl, (blk_cell BK109.out 1).trans rfl, (blk_cell BK109.out 2).trans rfl⟩ (fun hHeld => ?_); refine with_tabW laws_FnTreeCounts.tab13 laws_FnTreeCounts.bits13 (fun HT_ HW_ => ?_)
         generalize w87.drew = w88 at HO_6 BK105 BK109 BK123 HB hHeld ⊢; refine tv_ 0 67 rfl HT_ HW_ hHeld (by rintro w' ⟨s0, s1, s2, s3, s4, s5, s6, s7, s8⟩; go_simp; with_reducible rfl) ?_
         refine on_ 1 (some 68) rfl rfl HT_ (by kernel_rfl) (by decide) (fun K hK => ?_)
         refine gs_ Try.func35 #[.agg #[.int .i64 t120, .int .i64 t121, .int .i64 t122]] ?_
         with_reducible refine (impl_CountTrees.calls k1 t120 t121 t122 t124 _ A48.out).mono ?_
         rintro e w89 ⟨rfl, hb⟩
         refine ⟨_, rfl, ?_⟩
         have n0_ := A_ (Kd.R_below (by (with_reducible repeat (first | apply Kd.R_alloc | apply Kd.R_drewN | apply Kd.R_drew)); exact HO_6.out) hb)
         have n1_ := A_ (blk_below (g := gb105) (o := .cells #[.int .i64 t102, .int .i64 t103, .int .i64 t104] 42 (0, 0)) (by (with_reducible repeat first | refine cA_ ?_ _ | refine cB_ ?_ | refine cC_ ?_ _); exact BK105.1) hb)
         have n2_ := A_ (blk_below (g := gb109) (o := .cells #[.int .i64 t106, .int .i64 t107, .int .i64 t108] 42 (0, 0)) (by (with_reducible repeat first | refine cA_ ?_ _ | refine cB_ ?_ | refine cC_ ?_ _); exact BK109.1) hb)
         have n3_ := A_ (blk_below (g := gb123) (o := .cells #[.int .i64 t120, .int .i64 t121, .int .i64 t122] 42 (0, 0)) (by (with_reducible repeat first | refine cA_ ?_ _ | refine cB_ ?_ | refine cC_ ?_ _); exact BK123.1) hb)
         have n4_ := A_ (below_step (by repeat first | exact HB.1 | apply bA_ | apply bB_ | apply bC_ | refine below_set ?_ GE105.out | refine below_set ?_ GE109.out | refine below_set ?_ GE123.out) hb)
         clear HO_6 BK105 BK109 BK123 HB; have HO_6 := n0_; have BK105 := n1_; have BK109 := n2_; have BK123 := n3_; have HB := n4_; clear n0_ n1_ n2_ n3_ n4_; (try clear hb); (try clear hk)
         refine hK.out _ _ ⟨(blk_cell BK123.out 0).trans rfl, (blk_cell BK123.out 1).trans rfl, (blk_cell BK123.out 2).trans rfl, (blk_cell BK105.out 0).trans rfl, (blk_cell BK105.out 1).trans rfl, (blk_cell BK105.out 2).trans rfl, (blk_cell BK109.out 0).trans rfl, (blk_cell BK109.out 1).trans rfl, (blk_cell BK109.out 2).trans rfl⟩ (fun hHeld => ?_)
         clear hK K
         refine norm_ (a' := ?_) ?_ ?_; rotate_left; (show Act.put _ (some 68) _ = _; simp only [P6_]; rfl)
         refine pv_ 2 69 HT_ ?_; refine pv_ 3 70 HT_ ?_; refine pv_ 6 73 HT_ ?_; refine tv_ 4 71 rfl HT_ HW_ hHeld (by rintro w' ⟨s0, s1, s2, s3, s4, s5, s6, s7, s8⟩; go_simp; with_reducible rfl) ?_
         refine tv_ 9 76 rfl HT_ HW_ hHeld (by rintro w' ⟨s0, s1, s2, s3, s4, s5, s6, s7, s8⟩; go_simp; with_reducible rfl) ?_
         refine on_ 5 (some 72) rfl rfl HT_ (by kernel_rfl) (by decide) (fun K hK => ?_)
         refine gs_ Try.func30 #[.agg #[.int .i64 t102, .int .i64 t103, .int .i64 t104]] ?_
         with_reducible refine (impl_LaplaceOf.calls k1 t102 t103 t104 t125 _ A50.out).mono ?_
         rintro e w90 ⟨v126, rfl, ho0, hb⟩
         refine ⟨_, rfl, ?_⟩
         have n0_ := A_ (Kd.R_below (by (with_reducible repeat (first | apply Kd.R_alloc | apply Kd.R_drewN | apply Kd.R_drew)); exact HO_6.out) hb)
         have n1_ := A_ (Kd.S_lower ho0 (below_size (by repeat first | exact HB.1 | apply bA_ | apply bB_ | apply bC_ | refine below_set ?_ GE105.out | refine below_set ?_ GE109.out | refine below_set ?_ GE123.out)))
         have n2_ := A_ (blk_below (g := gb105) (o := .cells #[.int .i64 t102, .int .i64 t103, .int .i64 t104] 42 (0, 0)) (by (with_reducible repeat first | refine cA_ ?_ _ | refine cB_ ?_ | refine cC_ ?_ _); exact BK105.1) hb)
         have n3_ := A_ (blk_below (g := gb109) (o := .cells #[.int .i64 t106, .int .i64 t107, .int .i64 t108] 42 (0, 0)) (by (with_reducible repeat first | refine cA_ ?_ _ | refine cB_ ?_ | refine cC_ ?_ _); exact BK109.1) hb)
         have n4_ := A_ (blk_below (g := gb123) (o := .cells #[.int .i64 t120, .int .i64 t121, .int .i64 t122] 42 (0, 0)) (by (with_reducible repeat first | refine cA_ ?_ _ | refine cB_ ?_ | refine cC_ ?_ _); exact BK123.1) hb)
         have n5_ := A_ (below_step (by repeat first | exact HB.1 | apply bA_ | apply bB_ | apply bC_ | refine below_set ?_ GE105.out | refine below_set ?_ GE109.out | refine below_set ?_ GE123.out) hb)
         clear HO_6 BK105 BK109 BK123 HB; have HO_6 := n0_; have HO127 := n1_; have BK105 := n2_; have BK109 := n3_; have BK123 := n4_; have HB := n5_; clear n0_ n1_ n2_ n3_ n4_ n5_; (try clear hb); (try clear hk); (try clear ho0)
         obtain ⟨Ao91, co91, eo91⟩ := Kd.S_slice HO127.out
         (first | subst eo91 | (injection eo91 with f1_ f2_ f3_; have f4_ := f1_.symm; have f5_ := f3_.symm; clear f1_ f2_ f3_; subst f4_; subst f5_))
         refine hK.out _ _ ⟨(blk_cell BK123.out 0).trans rfl, (blk_cell BK123.out 1).trans rfl, (blk_cell BK123.out 2).trans rfl, (blk_cell BK105.out 0).trans rfl, (blk_cell BK105.out 1).trans rfl, (blk_cell BK105.out 2).trans rfl, (blk_cell BK109.out 0).trans rfl, (blk_cell BK109.out 1).trans rfl, (blk_cell BK109.out 2).trans rfl⟩ (fun hHeld => ?_)
         clear hK K
         refine norm_ (a' := ?_) ?_ ?_; rotate_left; (show Act.put _ (some 72) _ = _; simp only [P6_]; rfl)
         refine on_ 7 (some 74) rfl rfl HT_ (by kernel_rfl) (by decide) (fun K hK => ?_)
         refine gs_ Try.func21 #[.slice Ao91 t125.length co91, .int .i64 (Int.tmod t110 t111)] ?_
         with_reducible refine (impl_WithoutRow.calls k1 _ _ t125 (Int.tmod t110 t111) t128 _ ?side1 ?side2 A51.out).mono ?_
         (case side1 => repeat (first | exact (Kd.S_reads' HO127.out).2.2 | (with_reducible refine Kd.C_alloc ?_ _) | (with_reducible refine Kd.C_drewN ?_ _) | (with_reducible refine Kd.C_drew ?_)))
         (case side2 => exact (Kd.S_reads' HO127.out).2.1)
         rintro e w92 ⟨v129, rfl, ho0, hb⟩
         refine ⟨_, rfl, ?_⟩
         have n0_ := A_ (Kd.R_below (by (with_reducible repeat (first | apply Kd.R_alloc | apply Kd.R_drewN | apply Kd.R_drew)); exact HO_6.out) hb)
         have n1_ := A_ (Kd.S_elder' (by (with_reducible repeat (first | apply Kd.S_alloc | apply Kd.S_drewN | apply Kd.S_drew)); exact HO127.out) (Kd.S_base ho0) hb)
         have n2_ := A_ (Kd.S_lower (Kd.S_new' ho0 (Kd.S_lt (by (with_reducible repeat (first | apply Kd.S_alloc | apply Kd.S_drewN | apply Kd.S_drew)); exact HO127.out))) (below_size (by repeat first | exact HB.1 | apply bA_ | apply bB_ | apply bC_ | refine below_set ?_ GE105.out | refine below_set ?_ GE109.out | refine below_set ?_ GE123.out)))
         have n3_ := A_ (blk_below (g := gb105) (o := .cells #[.int .i64 t102, .int .i64 t103, .int .i64 t104] 42 (0, 0)) (by (with_reducible repeat first | refine cA_ ?_ _ | refine cB_ ?_ | refine cC_ ?_ _); exact BK105.1) hb)
         have n4_ := A_ (blk_below (g := gb109) (o := .cells #[.int .i64 t106, .int .i64 t107, .int .i64 t108] 42 (0, 0)) (by (with_reducible repeat first | refine cA_ ?_ _ | refine cB_ ?_ | refine cC_ ?_ _); exact BK109.1) hb)
         have n5_ := A_ (blk_below (g := gb123) (o := .cells #[.int .i64 t120, .int .i64 t121, .int .i64 t122] 42 (0, 0)) (by (with_reducible repeat first | refine cA_ ?_ _ | refine cB_ ?_ | refine cC_ ?_ _); exact BK123.1) hb)
         have n6_ := A_ (below_step (by repeat first | exact HB.1 | apply bA_ | apply bB_ | apply bC_ | refine below_set ?_ GE105.out | refine below_set ?_ GE109.out | refine below_set ?_ GE123.out) hb)
         clear HO_6 HO127 BK105 BK109 BK123 HB; have HO_6 := n0_; have HO127 := n1_; have HO130 := n2_; have BK105 := n3_; have BK109 := n4_; have BK123 := n5_; have HB := n6_; clear n0_ n1_ n2_ n3_ n4_ n5_ n6_; (try clear hb); (try clear hk); (try clear ho0)
         obtain ⟨Ao93, co93, eo93⟩ := Kd.S_slice HO130.out
         (first | subst eo93 | (injection eo93 with f1_ f2_ f3_; have f4_ := f1_.symm; have f5_ := f3_.symm; clear f1_ f2_ f3_; subst f4_; subst f5_))
         refine hK.out _ _ ⟨(blk_cell BK123.out 0).trans rfl, (blk_cell BK123.out 1).trans rfl, (blk_cell BK123.out 2).trans rfl, (blk_cell BK105.out 0).trans rfl, (blk_cell BK105.out 1).trans rfl, (blk_cell BK105.out 2).trans rfl, (blk_cell BK109.out 0).trans rfl, (blk_cell BK109.out 1).trans rfl, (blk_cell BK109.out 2).trans rfl⟩ (fun hHeld => ?_)
         clear hK K
         refine norm_ (a' := ?_) ?_ ?_; rotate_left; (show Act.put _ (some 74) _ = _; simp only [P6_]; rfl)
         refine on_ 8 (some 75) rfl rfl HT_ (by kernel_rfl) (by decide) (fun K hK => ?_)
         refine gs_ Try.func18 #[.slice Ao93 t128.length co93] ?_
         with_reducible refine (impl_Determinant.calls k1 _ _ t128 t131 _ ?side1 ?side2 A52.out).mono ?_
         (case side1 => repeat (first | exact (Kd.S_reads' HO130.out).2.2 | (with_reducible refine Kd.C_alloc ?_ _) | (with_reducible refine Kd.C_drewN ?_ _) | (with_reducible refine Kd.C_drew ?_)))
         (case side2 => exact (Kd.S_reads' HO130.out).2.1)
         rintro e w94 ⟨rfl, hb⟩
         refine ⟨_, rfl, ?_⟩
         have n0_ := A_ (Kd.R_below (by (with_reducible repeat (first | apply Kd.R_alloc | apply Kd.R_drewN | apply Kd.R_drew)); exact HO_6.out) hb)
         have n1_ := A_ (Kd.S_below (by (with_reducible repeat (first | apply Kd.S_alloc | apply Kd.S_drewN | apply Kd.S_drew)); exact HO127.out) hb)
         have n2_ := A_ (Kd.S_below (by (with_reducible repeat (first | apply Kd.S_alloc | apply Kd.S_drewN | apply Kd.S_drew)); exact HO130.out) hb)
         have n3_ := A_ (blk_below (g := gb105) (o := .cells #[.int .i64 t102, .int .i64 t103, .int .i64 t104] 42 (0, 0)) (by (with_reducible repeat first | refine cA_ ?_ _ | refine cB_ ?_ | refine cC_ ?_ _); exact BK105.1) hb)
         have n4_ := A_ (blk_below (g := gb109) (o := .cells #[.int .i64 t106, .int .i64 t107, .int .i64 t108] 42 (0, 0)) (by (with_reducible repeat first | refine cA_ ?_ _ | refine cB_ ?_ | refine cC_ ?_ _); exact BK109.1) hb)
         have n5_ := A_ (blk_below (g := gb123) (o := .cells #[.int .i64 t120, .int .i64 t121, .int .i64 t122] 42 (0, 0)) (by (with_reducible repeat first | refine cA_ ?_ _ | refine cB_ ?_ | refine cC_ ?_ _); exact BK123.1) hb)
         have n6_ := A_ (below_step (by repeat first | exact HB.1 | apply bA_ | apply bB_ | apply bC_ | refine below_set ?_ GE105.out | refine below_set ?_ GE109.out | refine below_set ?_ GE123.out) hb)
         clear HO_6 HO127 HO130 BK105 BK109 BK123 HB; have HO_6 := n0_; have HO127 := n1_; have HO130 := n2_; have BK105 := n3_; have BK109 := n4_; have BK123 := n5_; have HB := n6_; clear n0_ n1_ n2_ n3_ n4_ n5_ n6_; (try clear hb); (try clear hk)
         refine hK.out _ _ ⟨(blk_cell BK123.out 0).trans rfl, (blk_cell BK123.out 1).trans rfl, (blk_cell BK123.out 2).trans rfl, (blk_cell BK105.out 0).trans rfl, (blk_cell BK105.out 1).trans rfl, (blk_cell BK105.out 2).trans rfl, (blk_cell BK109.out 0).trans rfl, (blk_cell BK109.out 1).trans rfl, (blk_cell BK109.out 2).trans rfl⟩ (fun hHeld => ?_)
         clear hK K
         refine norm_ (a' := ?_) ?_ ?_; rotate_left; (show Act.put _ (some 75) _ = _; simp only [P6_]; rfl)
         refine on_ 10 (some 77) rfl rfl HT_ (by kernel_rfl) (by decide) (fun K hK => ?_)
         refine gs_ Try.func35 #[.agg #[.int .i64 t102, .int .i64 t103, .int .i64 t104]] ?_
         with_reducible refine (impl_CountTrees.calls k1 t102 t103 t104 t132 _ A53.out).mono ?_
         rintro e w95 ⟨rfl, hb⟩
         refine ⟨_, rfl, ?_⟩
         have n0_ := A_ (Kd.R_below (by (with_reducible repeat (first | apply Kd.R_alloc | apply Kd.R_drewN | apply Kd.R_drew)); exact HO_6.out) hb)
         have n1_ := A_ (Kd.S_below (by (with_reducible repeat (first | apply Kd.S_alloc | apply Kd.S_drewN | apply Kd.S_drew)); exact HO127.out) hb)
         have n2_ := A_ (Kd.S_below (by (with_reducible repeat (first | apply Kd.S_alloc | apply Kd.S_drewN | apply Kd.S_drew)); exact HO130.out) hb)
         have n3_ := A_ (blk_below (g := gb105) (o := .cells #[.int .i64 t102, .int .i64 t103, .int .i64 t104] 42 (0, 0)) (by (with_reducible repeat first | refine cA_ ?_ _ | refine cB_ ?_ | refine cC_ ?_ _); exact BK105.1) hb)
         have n4_ := A_ (blk_below (g := gb109) (o := .cells #[.int .i64 t106, .int .i64 t107, .int .i64 t108] 42 (0, 0)) (by (with_reducible repeat first | refine cA_ ?_ _ | refine cB_ ?_ | refine cC_ ?_ _); exact BK109.1) hb)
         have n5_ := A_ (blk_below (g := gb123) (o := .cells #[.int .i64 t120, .int .i64 t121, .int .i64 t122] 42 (0, 0)) (by (with_reducible repeat first | refine cA_ ?_ _ | refine cB_ ?_ | refine cC_ ?_ _); exact BK123.1) hb)
         have n6_ := A_ (below_step (by repeat first | exact HB.1 | apply bA_ | apply bB_ | apply bC_ | refine below_set ?_ GE105.out | refine below_set ?_ GE109.out | refine below_set ?_ GE123.out) hb)
         clear HO_6 HO127 HO130 BK105 BK109 BK123 HB; have HO_6 := n0_; have HO127 := n1_; have HO130 := n2_; have BK105 := n3_; have BK109 := n4_; have BK123 := n5_; have HB := n6_; clear n0_ n1_ n2_ n3_ n4_ n5_ n6_; (try clear hb); (try clear hk)
         refine hK.out _ _ ⟨(blk_cell BK123.out 0).trans rfl, (blk_cell BK123.out 1).trans rfl, (blk_cell BK123.out 2).trans rfl, (blk_cell BK105.out 0).trans rfl, (blk_cell BK105.out 1).trans rfl, (blk_cell BK105.out 2).trans rfl, (blk_cell BK109.out 0).trans rfl, (blk_cell BK109.out 1).trans rfl, (blk_cell BK109.out 2).trans rfl⟩ (fun hHeld => ?_)
         clear hK K
         refine norm_ (a' := ?_) ?_ ?_; rotate_left; (show Act.put _ (some 77) _ = _; simp only [P6_]; rfl)
         refine pv_ 11 78 HT_ ?_; refine pv_ 12 79 HT_ ?_; refine pv_ 13 80 HT_ ?_; refine pv_ 14 81 HT_ ?_; refine pv_ 15 82 HT_ ?_; refine tv_ 16 83 rfl HT_ HW_ hHeld (by rintro w' ⟨s0, s1, s2, s3, s4, s5, s6, s7, s8⟩; go_simp; with_reducible rfl) ?_
         refine on_ 17 (some 84) rfl rfl HT_ (by kernel_rfl) (by decide) (fun K hK => ?_)
         refine gs_ Try.func35 #[.agg #[.int .i64 t106, .int .i64 t107, .int .i64 t108]] ?_
         with_reducible refine (impl_CountTrees.calls k1 t106 t107 t108 t133 _ A55.out).mono ?_
         rintro e w96 ⟨rfl, hb⟩
         refine ⟨_, rfl, ?_⟩
         have n0_ := A_ (Kd.R_below (by (with_reducible repeat (first | apply Kd.R_alloc | apply Kd.R_drewN | apply Kd.R_drew)); exact HO_6.out) hb)
         have n1_ := A_ (Kd.S_below (by (with_reducible repeat (first | apply Kd.S_alloc | apply Kd.S_drewN | apply Kd.S_drew)); exact HO127.out) hb)
         have n2_ := A_ (Kd.S_below (by (with_reducible repeat (first | apply Kd.S_alloc | apply Kd.S_drewN | apply Kd.S_drew)); exact HO130.out) hb)
         have n3_ := A_ (blk_below (g := gb105) (o := .cells #[.int .i64 t102, .int .i64 t103, .int .i64 t104] 42 (0, 0)) (by (with_reducible repeat first | refine cA_ ?_ _ | refine cB_ ?_ | refine cC_ ?_ _); exact BK105.1) hb)
         have n4_ := A_ (blk_below (g := gb109) (o := .cells #[.int .i64 t106, .int .i64 t107, .int .i64 t108] 42 (0, 0)) (by (with_reducible repeat first | refine cA_ ?_ _ | refine cB_ ?_ | refine cC_ ?_ _); exact BK109.1) hb)
         have n5_ := A_ (blk_below (g := gb123) (o := .cells #[.int .i64 t120, .int .i64 t121, .int .i64 t122] 42 (0, 0)) (by (with_reducible repeat first | refine cA_ ?_ _ | refine cB_ ?_ | refine cC_ ?_ _); exact BK123.1) hb)
         have n6_ := A_ (below_step (by repeat first | exact HB.1 | apply bA_ | apply bB_ | apply bC_ | refine below_set ?_ GE105.out | refine below_set ?_ GE109.out | refine below_set ?_ GE123.out) hb)
         clear HO_6 HO127 HO130 BK105 BK109 BK123 HB; have HO_6 := n0_; have HO127 := n1_; have HO130 := n2_; have BK105 := n3_; have BK109 := n4_; have BK123 := n5_; have HB := n6_; clear n0_ n1_ n2_ n3_ n4_ n5_ n6_; (try clear hb); (try clear hk)
         refine hK.out _ _ ⟨(blk_cell BK123.out 0).trans rfl, (blk_cell BK123.out 1).trans rfl, (blk_cell BK123.out 2).trans rfl, (blk_cell BK105.out 0).trans rfl, (blk_cell BK105.out 1).trans rfl, (blk_cell BK105.out 2).trans rfl, (blk_cell BK109.out 0).trans rfl, (blk_cell BK109.out 1).trans rfl, (blk_cell BK109.out 2).trans rfl⟩ (fun hHeld => ?_)
         clear hK K
         refine norm_ (a' := ?_) ?_ ?_; rotate_left; (show Act.put _ (some 84) _ = _; simp only [P6_]; rfl)
         refine pv_ 18 85 HT_ ?_; refine pv_ 19 86 HT_ ?_; refine pv_ 20 87 HT_ ?_; refine pw_ 21 88 HT_ ?_; refine pw_ 22 89 HT_ ?_; refine pw_ 23 90 HT_ ?_; refine pw_ 24 91 HT_ ?_; refine pw_ 25 92 HT_ ?_; refine pw_ 26 93 HT_ ?_; refine pw_ 27 94 HT_ ?_; refine pw_ 28 95 HT_ ?_; refine pw_ 29 96 HT_ ?_; refine pw_ 30 97 HT_ ?_; refine pw_ 31 98 HT_ ?_; refine pv_ 32 99 HT_ ?_; refine pv_ 33 2 HT_ ?_
         refine done_ (done_of HT_.out (by kernel_rfl)) ?_
         try go_wp2
         go_ret
         exact ⟨by first | rfl | (simp [errW_none, errW_some] <;> rfl) | (simp [*, errW_none, errW_some] <;> rfl), by repeat (first | (with_reducible first | exact HB.out | apply below_alloc | apply pw_below_drewN | apply below_drew1 | refine below_set ?_ GE105.out | refine below_set ?_ GE109.out | refine below_set ?_ GE123.out) | exact HB.out)⟩
       ·rw [if_neg c54] at H; exact absurd H (by simp)
      ·rw [if_neg c49] at H; exact absurd H (by simp)
end Go.Proofs.Ytoohcdfokejkdaa.P
namespace Go.Proofs.Ytoohcdfokejkdaa.P
open Go.RowKit Go.Proofs.YtoohcdfokejkdaaW.PrintWords
set_option linter.unusedVariables false
set_option linter.unusedSimpArgs false
section
variable {α β : Type}
theorem Ev.tt {c : Prop} [Decidable c] {g f : Nat → Option α} {r : α} (h : c) (e : Ev g r) : Ev (fun k => if c then g k else f k) r := by simpa only [if_pos h] using e
theorem Ev.ff {c : Prop} [Decidable c] {g f : Nat → Option α} {r : α} (h : ¬ c) (e : Ev f r) : Ev (fun k => if c then g k else f k) r := by simpa only [if_neg h] using e
theorem Ev.ite {c : Prop} [Decidable c] {g f : Nat → Option α} {r : α} (e1 : c → Ev g r) (e2 : ¬ c → Ev f r) : Ev (fun k => if c then g k else f k) r := by
 by_cases h : c
 ·exact Ev.tt h (e1 h)
 ·exact Ev.ff h (e2 h)
theorem Ev.bnd0 {o : Option α} {f : Nat → α → Option β} {a : α} {r : β} (h : o = some a) (k : Ev (fun n => f n a) r) : Ev (fun n => o.bind (f n)) r := by subst h; exact k
theorem Ev.ret {a r : α} (h : a = r) : Ev (fun _ => some a) r := ⟨0, fun _ _ => by rw [h]⟩
theorem Ev.eq {g : Nat → Option α} {r r' : α} (h : Ev g r) (e : r = r') : Ev g r' := e ▸ h
end
theorem wrap64_id {x : Int} (h0 : -9223372036854775808 ≤ x) (h1 : x ≤ 9223372036854775807) : wrap64 x = x := by unfold wrap64; omega
theorem wsucc {i : Nat} (h : i < 4611686018427387904) : wrap64 ((i : Int) + 1) = ((i + 1 : Nat) : Int) := by unfold wrap64; omega
theorem rd_nat (l : List Int) (i : Nat) : rd l (i : Int) = l.getD i 0 := rfl
theorem rd_get {l : List Int} {i : Nat} (h : i < l.length) : rd l (i : Int) = l[i] := by simp [rd_nat, List.getD_eq_getElem?_getD, List.getElem?_eq_getElem h]
end Go.Proofs.Ytoohcdfokejkdaa.P
namespace Go.Proofs.Ytoohcdfokejkdaa.P
open Go Go.RowKit Go.Proofs.YtoohcdfokejkdaaW.PrintWords
set_option linter.unusedVariables false
set_option linter.unusedSimpArgs false

theorem wrap_small {n : Nat} (h : n < 9223372036854775808) : IntKind.i64.wrap (n : Int) = n := by
 rw [IntKind.wrap_i64]; omega
theorem shl_pow {k : Nat} (h : k < 63) : shl .i64 1 (k : Int) = ((2 ^ k : Nat) : Int) := by
 have h1 : (2 : Nat) ^ k < 2 ^ 63 := Nat.pow_lt_pow_right (by decide) h
 unfold shl
 rw [show min (k : Int).toNat IntKind.i64.bits = k by simp [IntKind.bits]; omega, Int.one_mul]
 have := wrap_small (n := 2 ^ k) (by simpa using h1)
 simpa using this
theorem bits_and {a b : Nat} (ha : a < 4611686018427387904) (hb : b < 4611686018427387904) : Go.bits .and .i64 a b = ((a &&& b : Nat) : Int) :=
 (bits_nat .i64 62 (by decide) (fun n h0 h1 => by rw [IntKind.wrap_i64]; omega) a b (by simpa using ha) (by simpa using hb)).1
theorem bits_or {a b : Nat} (ha : a < 4611686018427387904) (hb : b < 4611686018427387904) : Go.bits .or .i64 a b = ((a ||| b : Nat) : Int) :=
 (bits_nat .i64 62 (by decide) (fun n h0 h1 => by rw [IntKind.wrap_i64]; omega) a b (by simpa using ha) (by simpa using hb)).2
theorem bits_xor {a b : Nat} (ha : a < 4611686018427387904) (hb : b < 4611686018427387904) : Go.bits .xor .i64 a b = ((a ^^^ b : Nat) : Int) := by
 have e : (BitVec.ofInt 64 (a : Int) ^^^ BitVec.ofInt 64 (b : Int)).toNat = a ^^^ b := by
  rw [BitVec.ofInt_natCast, BitVec.ofInt_natCast, BitVec.toNat_xor, BitVec.toNat_ofNat, BitVec.toNat_ofNat, Nat.mod_eq_of_lt (by omega), Nat.mod_eq_of_lt (by omega)]
 show IntKind.i64.wrap ((BitVec.ofInt 64 (a : Int) ^^^ BitVec.ofInt 64 (b : Int)).toNat : Int) = _
 rw [e]
 exact wrap_small (Nat.lt_of_lt_of_le (Nat.xor_lt_two_pow (n := 62) (by simpa using ha) (by simpa using hb)) (by decide))
def andNot (a b : Nat) : Nat := a ^^^ (a &&& b)
theorem testBit_andNot (a b i : Nat) : (andNot a b).testBit i = (a.testBit i && !b.testBit i) := by
 simp [andNot]
 cases a.testBit i <;> cases b.testBit i <;> rfl
theorem andNot_le (a b : Nat) : andNot a b ≤ a := by
 apply Nat.le_of_testBit
 intro i h
 rw [testBit_andNot] at h
 simp at h
 exact h.1
theorem bits_andNot {a b : Nat} (ha : a < 4611686018427387904) (hb : b < 4611686018427387904) : Go.bits .andNot .i64 a b = ((andNot a b : Nat) : Int) := by
 have e : (BitVec.ofInt 64 (a : Int) &&& ~~~ BitVec.ofInt 64 (b : Int)).toNat = andNot a b := by
  rw [BitVec.ofInt_natCast, BitVec.ofInt_natCast]
  apply Nat.eq_of_testBit_eq
  intro i
  rw [testBit_andNot, BitVec.testBit_toNat, BitVec.getLsbD_and, BitVec.getLsbD_not, BitVec.getLsbD_ofNat, BitVec.getLsbD_ofNat]
  by_cases h : i < 64
  ·simp [h]
  ·have : a.testBit i = false := Nat.testBit_lt_two_pow (Nat.lt_of_lt_of_le (by simpa using ha : a < 2 ^ 62) (Nat.pow_le_pow_right (by decide) (by omega)))
   simp [h, this]
 show IntKind.i64.wrap ((BitVec.ofInt 64 (a : Int) &&& ~~~ BitVec.ofInt 64 (b : Int)).toNat : Int) = _
 rw [e]
 exact wrap_small (by have := andNot_le a b; omega)
theorem shr_nat {m : Nat} (hm : m < 4611686018427387904) (k : Nat) : shr .i64 (m : Int) (k : Int) = ((m / 2 ^ k : Nat) : Int) := by
 unfold shr
 by_cases h : k ≤ 64
 ·rw [show min (k : Int).toNat IntKind.i64.bits = k by simp [IntKind.bits]; omega]
  simp
 ·rw [show min (k : Int).toNat IntKind.i64.bits = 64 by simp [IntKind.bits]; omega]
  have h1 : m / 2 ^ k = 0 := Nat.div_eq_of_lt (Nat.lt_of_lt_of_le (by simpa using hm : m < 2 ^ 62) (Nat.pow_le_pow_right (by decide) (by omega)))
  rw [h1]
  have : (m : Int) / 2 ^ 64 = ((m / 2 ^ 64 : Nat) : Int) := by simp
  rw [this, Nat.div_eq_of_lt (by omega)]
theorem bit_test {m : Nat} (hm : m < 4611686018427387904) (k : Nat) (c : Int) : (Go.bits .and .i64 (shr .i64 (m : Int) (k : Int)) 1 == c) = (((m.testBit k).toNat : Int) == c) := by
 rw [shr_nat hm, show (1 : Int) = ((1 : Nat) : Int) from rfl, bits_and (Nat.lt_of_le_of_lt (Nat.div_le_self _ _) hm) (by decide)]
 congr 2
 rw [Nat.testBit_eq_decide_div_mod_eq, Nat.and_one_is_mod]
 have := Nat.mod_two_eq_zero_or_one (m / 2 ^ k)
 rcases this with h | h <;> simp [h]
theorem bit_one {m : Nat} (hm : m < 4611686018427387904) (k : Nat) : (Go.bits .and .i64 (shr .i64 (m : Int) (k : Int)) 1 == 1) = m.testBit k := by
 rw [bit_test hm]
 cases m.testBit k <;> rfl
theorem bit_zero {m : Nat} (hm : m < 4611686018427387904) (k : Nat) : (Go.bits .and .i64 (shr .i64 (m : Int) (k : Int)) 1 == 0) = !m.testBit k := by
 rw [bit_test hm]
 cases m.testBit k <;> rfl
def setB (o g : Nat) (b : Bool) : Nat := if b then o ||| 2 ^ g else andNot o (2 ^ g)
theorem testBit_setB (o g : Nat) (b : Bool) (i : Nat) : (setB o g b).testBit i = if i = g then b else o.testBit i := by
 unfold setB
 cases b
 ·simp only [Bool.false_eq_true, if_false, testBit_andNot, Nat.testBit_two_pow]
  by_cases h : i = g
  ·simp [h]
  ·simp [h, show ¬ g = i from fun e => h e.symm]
 ·simp only [if_true, Nat.testBit_or, Nat.testBit_two_pow]
  by_cases h : i = g
  ·simp [h]
  ·simp [h, show ¬ g = i from fun e => h e.symm]
theorem setB_lt {o g n : Nat} (b : Bool) (ho : o < 2 ^ n) (hg : g < n) : setB o g b < 2 ^ n := by
 unfold setB
 split
 ·exact Nat.or_lt_two_pow ho (Nat.pow_lt_pow_right (by decide) hg)
 ·exact Nat.lt_of_le_of_lt (andNot_le _ _) ho
theorem setB_self {o g : Nat} : setB o g (o.testBit g) = o := by
 apply Nat.eq_of_testBit_eq
 intro i
 rw [testBit_setB]
 split
 ·rename_i h; rw [h]
 ·rfl
theorem xor_setB {o g : Nat} {b : Bool} (h : (o.testBit g) ≠ b) : o ^^^ 2 ^ g = setB o g b := by
 apply Nat.eq_of_testBit_eq
 intro i
 rw [testBit_setB, Nat.testBit_xor, Nat.testBit_two_pow]
 by_cases e : i = g
 ·subst e
  cases hb : b <;> cases ho : o.testBit i <;> simp_all
 ·simp [e, show ¬ g = i from fun e' => e e'.symm]
end Go.Proofs.Ytoohcdfokejkdaa.P
namespace Go.Proofs.Ytoohcdfokejkdaa.P
open Go.RowKit Go.Proofs.YtoohcdfokejkdaaW.PrintWords
set_option linter.unusedVariables false
set_option linter.unusedSimpArgs false

def pop : Nat → Nat → Nat
 | 0, _ => 0
 | n + 1, s => pop n s + (s.testBit n).toNat
theorem pop_le (n s : Nat) : pop n s ≤ n := by
 induction n with
 | zero => simp [pop]
 | succ n ih => simp only [pop]; have := Bool.toNat_le (s.testBit n); omega
theorem pop_congr {n s t : Nat} (h : ∀ i, i < n → s.testBit i = t.testBit i) : pop n s = pop n t := by
 induction n with
 | zero => rfl
 | succ n ih => simp only [pop]; rw [ih (fun i hi => h i (by omega)), h n (by omega)]
theorem pop_add (m n s : Nat) : pop (m + n) s = pop m s + pop n (s / 2 ^ m) := by
 induction n with
 | zero => simp [pop]
 | succ n ih =>
  rw [← Nat.add_assoc]
  simp only [pop]
  rw [ih, Nat.add_assoc, Nat.testBit_div_two_pow, Nat.add_comm n m]
theorem pop_mod (n s : Nat) : pop n (s % 2 ^ n) = pop n s := pop_congr fun i hi => by rw [Nat.testBit_mod_two_pow]; simp [hi]
theorem pop_big {n m s : Nat} (h : s < 2 ^ n) (hm : n ≤ m) : pop m s = pop n s := by
 obtain ⟨d, rfl⟩ := Nat.exists_eq_add_of_le hm
 rw [pop_add, Nat.div_eq_of_lt h]
 have : pop d 0 = 0 := by
  induction d with
  | zero => rfl
  | succ d ih => simp only [pop, Nat.zero_testBit]; rw [ih (by omega)]; rfl
 rw [this, Nat.add_zero]
def sumTo : Nat → (Nat → Int) → Int
 | 0, _ => 0
 | n + 1, f => sumTo n f + f n
theorem sumTo_congr {n : Nat} {f g : Nat → Int} (h : ∀ i, i < n → f i = g i) : sumTo n f = sumTo n g := by
 induction n with
 | zero => rfl
 | succ n ih => simp only [sumTo]; rw [ih (fun i hi => h i (by omega)), h n (by omega)]
theorem sumTo_zero {n : Nat} {f : Nat → Int} (h : ∀ i, i < n → f i = 0) : sumTo n f = 0 := by
 induction n with
 | zero => rfl
 | succ n ih => simp only [sumTo]; rw [ih (fun i hi => h i (by omega)), h n (by omega)]; rfl
theorem sumTo_one {n : Nat} {f g : Nat → Int} {k : Nat} (hk : k < n) (h : ∀ i, i < n → i ≠ k → g i = f i) : sumTo n g = sumTo n f + (g k - f k) := by
 induction n with
 | zero => omega
 | succ n ih =>
  simp only [sumTo]
  by_cases e : k = n
  ·subst e
   rw [sumTo_congr (fun i hi => h i (by omega) (by omega))]
   omega
  ·rw [ih (by omega) (fun i hi hne => h i (by omega) hne), h n (by omega) (fun e' => e e'.symm)]
   omega
def del (s k : Nat) : Nat := andNot s (2 ^ k)
theorem testBit_del (s k i : Nat) : (del s k).testBit i = (s.testBit i && decide (i ≠ k)) := by
 unfold del
 rw [testBit_andNot, Nat.testBit_two_pow]
 by_cases h : i = k
 ·simp [h]
 ·simp [h, show ¬ k = i from fun e => h e.symm]
theorem del_le (s k : Nat) : del s k ≤ s := andNot_le _ _
theorem del_lt {s k : Nat} (h : s.testBit k = true) : del s k < s := by
 refine Nat.lt_of_le_of_ne (del_le s k) fun e => ?_
 have := testBit_del s k k
 rw [e, h] at this
 simp at this
theorem pop_del {n s k : Nat} (hk : k < n) (h : s.testBit k = true) : pop n s = pop n (del s k) + 1 := by
 induction n with
 | zero => omega
 | succ n ih =>
  simp only [pop]
  by_cases e : k = n
  ·subst e
   rw [testBit_del, h, pop_congr (s := del s k) (t := s) (fun i hi => by rw [testBit_del]; simp; omega)]
   simp
  ·rw [ih (by omega), testBit_del]
   simp [show ¬ n = k from fun e' => e e'.symm]
   omega
def above (n s k : Nat) : Nat := pop n (s / 2 ^ (k + 1))
def sgn (c : Nat) : Int := if c % 2 = 0 then 1 else -1
theorem sgn_succ (c : Nat) : sgn (c + 1) = -sgn c := by
 unfold sgn
 by_cases h : c % 2 = 0
 ·rw [if_pos h, if_neg (by omega)]
 ·rw [if_neg h, if_pos (by omega)]; rfl
def Dn (a : Nat → Nat → Int) (n : Nat) : Nat → Nat → Int
 | 0, _ => 1
 | r + 1, s => sumTo n fun k => if s.testBit k then sgn (above n s k) * a r k * Dn a n r (del s k) else 0
def Ds (a : Nat → Nat → Int) (n s : Nat) : Int := Dn a n (pop n s) s
def term (a : Nat → Nat → Int) (n s k : Nat) : Int := sgn (above n s k) * a (pop n s - 1) k * Ds a n (del s k)
theorem Ds_sum {a : Nat → Nat → Int} {n s : Nat} (h : pop n s ≠ 0) : Ds a n s = sumTo n fun k => if s.testBit k then term a n s k else 0 := by
 unfold Ds
 obtain ⟨r, hr⟩ : ∃ r, pop n s = r + 1 := ⟨pop n s - 1, by omega⟩
 rw [hr]
 simp only [Dn]
 refine sumTo_congr fun k hk => ?_
 by_cases hb : s.testBit k = true
 ·rw [if_pos hb, if_pos hb]
  unfold term Ds
  rw [pop_del hk hb] at hr
  rw [pop_del hk hb, show pop n (del s k) = r by omega]
  rfl
 ·rw [if_neg hb, if_neg hb]
theorem pop_ne {n s : Nat} (hs : s < 2 ^ n) (h0 : s ≠ 0) : pop n s ≠ 0 := by
 intro h
 apply h0
 apply Nat.eq_of_testBit_eq
 intro i
 rw [Nat.zero_testBit]
 by_cases hi : i < n
 ·cases hb : s.testBit i
  ·rfl
  ·have := pop_del hi hb; omega
 ·exact Nat.testBit_lt_two_pow (Nat.lt_of_lt_of_le hs (Nat.pow_le_pow_right (by decide) (by omega)))
theorem Ds_zero (a : Nat → Nat → Int) (n : Nat) : Ds a n 0 = 1 := by
 unfold Ds
 rw [show pop n 0 = 0 from by rw [pop_big (n := 0) (by decide) (by omega)]; rfl]
 rfl
theorem pop_full (n : Nat) : pop n (2 ^ n - 1) = n := by
 have : ∀ m, m ≤ n → pop m (2 ^ n - 1) = m := by
  intro m
  induction m with
  | zero => intro _; rfl
  | succ m ih =>
   intro h
   simp only [pop]
   rw [ih (by omega), Nat.testBit_two_pow_sub_one]
   simp
   omega
 exact this n (Nat.le_refl n)
theorem sumTo_add (n : Nat) (f g : Nat → Int) : sumTo n (fun i => f i + g i) = sumTo n f + sumTo n g := by
 induction n with
 | zero => rfl
 | succ n ih => simp only [sumTo]; rw [ih]; omega
theorem sumTo_mul (n : Nat) (c : Int) (f : Nat → Int) : sumTo n (fun i => c * f i) = c * sumTo n f := by
 induction n with
 | zero => simp [sumTo]
 | succ n ih => simp only [sumTo]; rw [ih, Int.mul_add]
theorem sumTo_neg (n : Nat) (f : Nat → Int) : sumTo n (fun i => -f i) = -sumTo n f := by
 induction n with
 | zero => rfl
 | succ n ih => simp only [sumTo]; rw [ih]; omega
theorem sumTo_comm (m n : Nat) (f : Nat → Nat → Int) : sumTo m (fun i => sumTo n (fun j => f i j)) = sumTo n (fun j => sumTo m (fun i => f i j)) := by
 induction m with
 | zero => simp only [sumTo]; exact (sumTo_zero fun _ _ => rfl).symm
 | succ m ih => simp only [sumTo]; rw [ih, ← sumTo_add]
theorem sumTo_two {n i : Nat} {f g : Nat → Int} (h1 : i + 1 < n) (hs : g i + g (i + 1) = -(f i + f (i + 1))) (h : ∀ k, k < n → k ≠ i → k ≠ i + 1 → g k = -f k) : sumTo n g = -sumTo n f := by
 have e1 : sumTo n (fun k => g k + f k) = 0 := by
  have : ∀ m, m ≤ n → sumTo m (fun k => g k + f k) = if m = i + 1 then g i + f i else 0 := by
   intro m
   induction m with
   | zero => intro _; simp [sumTo]
   | succ m ih =>
    intro hm
    simp only [sumTo]
    rw [ih (by omega)]
    by_cases a : m = i
    ·subst a; simp
    ·by_cases b : m = i + 1
     ·subst b; simp; omega
     ·have := h m (by omega) a b
      simp [a, b]; omega
  rw [this n (Nat.le_refl n), if_neg (by omega)]
 rw [sumTo_add] at e1
 omega
theorem sgn_par {a b : Nat} (h : a % 2 = b % 2) : sgn a = sgn b := by unfold sgn; rw [h]
def er (i : Nat) (A : Nat → Nat → Int) : Nat → Nat → Int := fun j => if j < i then A j else A (j + 1)
def ec (c : Nat) (A : Nat → Nat → Int) : Nat → Nat → Int := fun j d => if d < c then A j d else A j (d + 1)
def rp (A : Nat → Nat → Int) (i : Nat) (v : Nat → Int) : Nat → Nat → Int := fun j => if j = i then v else A j
def swp (A : Nat → Nat → Int) (i j : Nat) : Nat → Nat → Int := fun k => if k = i then A j else if k = j then A i else A k
def dt : Nat → (Nat → Nat → Int) → Int
 | 0, _ => 1
 | r + 1, A => sumTo (r + 1) fun i => sgn (r - i) * A i r * dt r (er i A)
theorem dt_congr : ∀ {r : Nat} {A B : Nat → Nat → Int}, (∀ i c, i < r → c < r → A i c = B i c) → dt r A = dt r B
 | 0, _, _, _ => rfl
 | r + 1, A, B, h => by
  simp only [dt]
  refine sumTo_congr fun i hi => ?_
  rw [h i r hi (by omega), dt_congr (A := er i A) (B := er i B)]
  intro j c hj hc
  unfold er
  split
  ·exact h j c (by omega) (by omega)
  ·exact h (j + 1) c (by omega) (by omega)
theorem er_rp_same (A : Nat → Nat → Int) (i : Nat) (v : Nat → Int) : er i (rp A i v) = er i A := by
 funext j
 unfold er rp
 split
 ·rw [if_neg (by omega)]
 ·rw [if_neg (by omega)]
theorem er_rp (A : Nat → Nat → Int) {k i : Nat} (h : k ≠ i) (v : Nat → Int) : er k (rp A i v) = rp (er k A) (if i < k then i else i - 1) v := by
 funext j
 simp only [er, rp]
 by_cases hk : i < k
 ·rw [if_pos hk]
  repeat' split
  all_goals first | rfl | omega
 ·rw [if_neg hk]
  repeat' split
  all_goals first | rfl | omega
theorem rp_same (A : Nat → Nat → Int) (i : Nat) (v : Nat → Int) : rp A i v i = v := if_pos rfl
theorem rp_ne (A : Nat → Nat → Int) {i j : Nat} (h : j ≠ i) (v : Nat → Int) : rp A i v j = A j := if_neg h
theorem dt_lin : ∀ {r : Nat} (A : Nat → Nat → Int) {i : Nat} (hi : i < r) (c d : Int) (u v : Nat → Int), dt r (rp A i (fun x => c * u x + d * v x)) = c * dt r (rp A i u) + d * dt r (rp A i v)
 | 0, _, _, hi, _, _, _, _ => by omega
 | r + 1, A, i, hi, c, d, u, v => by
  simp only [dt]
  rw [← sumTo_mul, ← sumTo_mul, ← sumTo_add]
  refine sumTo_congr fun k hk => ?_
  by_cases e : k = i
  ·subst e
   simp only [rp_same, er_rp_same]
   grind
  ·simp only [rp_ne _ e, er_rp _ e]
   rw [dt_lin (er k A) (by split <;> omega)]
   grind
theorem dt_adj : ∀ {r : Nat} (A : Nat → Nat → Int) {i : Nat} (hi : i + 1 < r), dt r (swp A i (i + 1)) = -dt r A
 | 0, _, _, hi => by omega
 | r + 1, A, i, hi => by
  simp only [dt]
  have h1 : er i (swp A i (i + 1)) = er (i + 1) A := by
   funext j; unfold er swp
   repeat' split
   all_goals first | rfl | omega | (congr 1; omega)
  have h2 : er (i + 1) (swp A i (i + 1)) = er i A := by
   funext j; unfold er swp
   repeat' split
   all_goals first | rfl | omega | (congr 1; omega)
  refine sumTo_two (i := i) hi ?_ ?_
  ·rw [h1, h2, show swp A i (i + 1) i = A (i + 1) from if_pos rfl, show swp A i (i + 1) (i + 1) = A i by unfold swp; rw [if_neg (by omega), if_pos rfl], show r - i = (r - (i + 1)) + 1 by omega, sgn_succ]
   grind
  ·intro k hk n1 n2
   have h3 : er k (swp A i (i + 1)) = swp (er k A) (if i < k then i else i - 1) ((if i < k then i else i - 1) + 1) := by
    funext j; simp only [er, swp]
    by_cases hk : i < k
    ·rw [if_pos hk]
     repeat' split
     all_goals first | rfl | omega | (congr 1; omega)
    ·rw [if_neg hk]
     repeat' split
     all_goals first | rfl | omega | (congr 1; omega)
   rw [h3, dt_adj (er k A) (by split <;> omega), show swp A i (i + 1) k = A k by unfold swp; rw [if_neg n1, if_neg n2]]
   grind
theorem dt_same : ∀ (d : Nat) {r : Nat} (A : Nat → Nat → Int) {i : Nat}, i + 1 + d < r → (∀ c, A i c = A (i + 1 + d) c) → dt r A = 0
 | 0, r, A, i, hj, h => by
  have h1 := dt_adj A (i := i) hj
  have h2 : swp A i (i + 1) = A := by
   funext k c; unfold swp
   split
   ·rename_i e; subst e; exact (h c).symm
   ·split
    ·rename_i e; subst e; exact h c
    ·rfl
  rw [h2] at h1
  omega
 | d + 1, r, A, i, hj, h => by
  have h1 := dt_adj A (i := i + 1 + d) (by omega)
  have h2 := dt_same d (r := r) (swp A (i + 1 + d) (i + 1 + d + 1)) (i := i) (by omega) (fun c => by
   unfold swp
   rw [if_neg (by omega), if_neg (by omega), if_pos rfl]
   exact h c)
  omega
theorem dt_eq {r : Nat} (A : Nat → Nat → Int) {i j : Nat} (hij : i ≠ j) (hi : i < r) (hj : j < r) (h : ∀ c, A i c = A j c) : dt r A = 0 := by
 rcases Nat.lt_or_gt_of_ne hij with hl | hl
 ·exact dt_same (j - i - 1) A (i := i) (by omega) (fun c => by rw [show i + 1 + (j - i - 1) = j by omega]; exact h c)
 ·exact dt_same (i - j - 1) A (i := j) (by omega) (fun c => by rw [show j + 1 + (i - j - 1) = i by omega]; exact (h c).symm)
theorem rp_self (A : Nat → Nat → Int) (i : Nat) : rp A i (A i) = A := by
 funext j; unfold rp; split
 ·rename_i e; rw [e]
 ·rfl
theorem dt_addrow {r : Nat} (A : Nat → Nat → Int) {i j : Nat} (hij : i ≠ j) (hi : i < r) (hj : j < r) (d : Int) : dt r (rp A i (fun x => A i x + d * A j x)) = dt r A := by
 have h := dt_lin A hi 1 d (A i) (A j)
 rw [rp_self, dt_eq (rp A i (A j)) hij hi hj (fun c => by rw [rp_same, rp_ne _ (Ne.symm hij)])] at h
 simp only [Int.one_mul, Int.mul_zero, Int.add_zero] at h
 exact h
theorem er_ec (A : Nat → Nat → Int) (i c : Nat) : er i (ec c A) = ec c (er i A) := by
 funext j d
 by_cases h : j < i <;> by_cases h2 : d < c <;> simp [er, ec, h, h2]
theorem dt_lastvec : ∀ (r : Nat) (A : Nat → Nat → Int), dt (r + 1) A = sumTo (r + 1) fun c => sgn (r - c) * A r c * dt r (ec c A)
 | 0, A => rfl
 | r + 1, A => by
  have L : dt (r + 2) A = sumTo (r + 1) (fun i => sgn (r + 1 - i) * A i (r + 1) * dt (r + 1) (er i A)) + sgn (r + 1 - (r + 1)) * A (r + 1) (r + 1) * dt (r + 1) (er (r + 1) A) := rfl
  rw [L]
  show _ = sumTo (r + 1) (fun c => sgn (r + 1 - c) * A (r + 1) c * dt (r + 1) (ec c A)) + sgn (r + 1 - (r + 1)) * A (r + 1) (r + 1) * dt (r + 1) (ec (r + 1) A)
  have e1 : dt (r + 1) (er (r + 1) A) = dt (r + 1) (ec (r + 1) A) := dt_congr fun i c hi hc => by unfold er ec; rw [if_pos hi, if_pos hc]
  rw [e1]
  congr 1
  have e2 : sumTo (r + 1) (fun i => sgn (r + 1 - i) * A i (r + 1) * dt (r + 1) (er i A)) = sumTo (r + 1) (fun i => sumTo (r + 1) fun c => sgn (r + 1 - i) * sgn (r - c) * (A i (r + 1) * A (r + 1) c) * dt r (ec c (er i A))) := by
   refine sumTo_congr fun i hi => ?_
   rw [dt_lastvec r (er i A), ← sumTo_mul]
   refine sumTo_congr fun c hc => ?_
   rw [show er i A r = A (r + 1) from if_neg (by omega)]
   grind
  have e3 : sumTo (r + 1) (fun c => sgn (r + 1 - c) * A (r + 1) c * dt (r + 1) (ec c A)) = sumTo (r + 1) (fun c => sumTo (r + 1) fun i => sgn (r + 1 - i) * sgn (r - c) * (A i (r + 1) * A (r + 1) c) * dt r (ec c (er i A))) := by
   refine sumTo_congr fun c hc => ?_
   show _ * dt (r + 1) (ec c A) = _
   simp only [dt]
   rw [← sumTo_mul]
   refine sumTo_congr fun i hi => ?_
   rw [show ec c A i r = A i (r + 1) from if_neg (by omega), er_ec, show r + 1 - c = (r - c) + 1 by omega, show r + 1 - i = (r - i) + 1 by omega, sgn_succ, sgn_succ]
   grind
  rw [e2, e3, sumTo_comm]
def tr (A : Nat → Nat → Int) : Nat → Nat → Int := fun i c => A c i
theorem dt_tr : ∀ (r : Nat) (A : Nat → Nat → Int), dt r (tr A) = dt r A
 | 0, A => rfl
 | r + 1, A => by
  rw [dt_lastvec r A]
  simp only [dt]
  refine sumTo_congr fun i hi => ?_
  have : er i (tr A) = tr (ec i A) := by
   funext j c; simp only [er, tr, ec]
   split <;> rfl
  rw [this, dt_tr r (ec i A)]
  rfl
theorem dt_vec {r : Nat} : ∀ (d p : Nat) (A : Nat → Nat → Int), p + d = r → dt (r + 1) A = sumTo (r + 1) fun c => sgn (p + c) * A p c * dt r (er p (ec c A))
 | 0, p, A, h => by
  have : p = r := by omega
  subst this
  rw [dt_lastvec]
  refine sumTo_congr fun c hc => ?_
  rw [sgn_par (show (p - c) % 2 = (p + c) % 2 by omega)]
  congr 1
  exact dt_congr fun i c' hi hc' => by unfold er; rw [if_pos hi]
 | d + 1, p, A, h => by
  have h1 := dt_adj A (i := p) (r := r + 1) (by omega)
  have h2 := dt_vec (r := r) d (p + 1) (swp A p (p + 1)) (by omega)
  rw [h2] at h1
  have h3 : sumTo (r + 1) (fun c => sgn (p + 1 + c) * swp A p (p + 1) (p + 1) c * dt r (er (p + 1) (ec c (swp A p (p + 1))))) = -sumTo (r + 1) fun c => sgn (p + c) * A p c * dt r (er p (ec c A)) := by
   rw [← sumTo_neg]
   refine sumTo_congr fun c hc => ?_
   have h4 : er (p + 1) (ec c (swp A p (p + 1))) = er p (ec c A) := by
    funext j d
    have h4 : er (p + 1) (swp A p (p + 1)) = er p A := by
     funext j; simp only [er, swp]
     repeat' split
     all_goals first | rfl | omega | (congr 1; omega)
    rw [er_ec, h4, er_ec]
   rw [h4, show swp A p (p + 1) (p + 1) = A p by unfold swp; rw [if_neg (by omega), if_pos rfl], show p + 1 + c = p + c + 1 by omega, sgn_succ]
   grind
  omega
theorem sumTo_single {n q : Nat} {f : Nat → Int} (hq : q < n) (h : ∀ i, i < n → i ≠ q → f i = 0) : sumTo n f = f q := by
 have := sumTo_one (f := fun _ => 0) (g := f) hq (fun i hi hne => h i hi hne)
 rw [sumTo_zero (f := fun _ => 0) (fun _ _ => rfl)] at this
 omega
theorem dt_unit {r : Nat} (A : Nat → Nat → Int) {p q : Nat} (hp : p ≤ r) (hq : q ≤ r) (h : ∀ c, c ≤ r → c ≠ q → A p c = 0) : dt (r + 1) A = sgn (p + q) * A p q * dt r (er p (ec q A)) := by
 rw [dt_vec (r - p) p A (by omega)]
 refine sumTo_single (f := fun c => sgn (p + c) * A p c * dt r (er p (ec c A))) (by omega) fun c hc hne => ?_
 rw [h c (by omega) hne]
 simp
theorem dt_zero {r : Nat} (A : Nat → Nat → Int) {i : Nat} (hi : i < r) (h : ∀ c, c < r → A i c = 0) : dt r A = 0 := by
 have := dt_lin A hi 0 0 (A i) (A i)
 rw [show dt r (rp A i fun x => 0 * A i x + 0 * A i x) = dt r A from dt_congr fun j c hj hc => by
  unfold rp; split
  ·rename_i e; subst e; rw [h c hc]; simp
  ·rfl] at this
 simpa using this
end Go.Proofs.Ytoohcdfokejkdaa.P
namespace Go.Proofs.Ytoohcdfokejkdaa.P
open Go.RowKit Go.Proofs.YtoohcdfokejkdaaW.PrintWords
set_option linter.unusedVariables false
set_option linter.unusedSimpArgs false

def dl (x y : Nat) : Int := if x = y then 1 else 0
theorem dl_self (x : Nat) : dl x x = 1 := if_pos rfl
theorem dl_ne {x y : Nat} (h : x ≠ y) : dl x y = 0 := if_neg h
def vg (l : Nat → Nat) (r : Nat) (e : Nat × Nat) (x : Nat) : Int := if x = r then 0 else dl x (l e.1) - dl x (l e.2)
def dg (l : Nat → Nat) (r x y : Nat) : Int := if x = y ∧ (l x ≠ x ∨ x = r) then 1 else 0
def sg (e : Nat → Nat × Nat) (E : Nat) (l : Nat → Nat) (r : Nat) (U : Nat → Bool) (x y : Nat) : Int := sumTo E fun g => if U g then vg l r (e g) x * vg l r (e g) y else 0
def big (e : Nat → Nat × Nat) (E : Nat) (l : Nat → Nat) (r : Nat) (U : Nat → Bool) (x y : Nat) : Int := dg l r x y + sg e E l r U x y
theorem unit_row {r : Nat} {A : Nat → Nat → Int} {t : Nat} (ht : t ≤ r) (h : ∀ c, c ≤ r → A t c = dl t c) : dt (r + 1) A = dt r (er t (ec t A)) := by
 rw [dt_unit A ht ht (fun c hc hne => by rw [h c hc, dl_ne (Ne.symm hne)]), h t ht, dl_self, sgn_par (show (t + t) % 2 = 0 % 2 by omega)]
 simp [sgn]
theorem minor_congr {r : Nat} {A B : Nat → Nat → Int} {t : Nat} (ht : t ≤ r) (h : ∀ x y, x ≤ r → y ≤ r → x ≠ t → y ≠ t → A x y = B x y) : dt r (er t (ec t A)) = dt r (er t (ec t B)) := by
 refine dt_congr fun i c hi hc => ?_
 by_cases h1 : i < t <;> by_cases h2 : c < t <;> simp only [er, ec, h1, h2, if_true, if_false] <;> exact h _ _ (by omega) (by omega) (by omega) (by omega)
section
variable {e : Nat → Nat × Nat} {E : Nat} {l : Nat → Nat} {r : Nat} {U : Nat → Bool} {g P Q : Nat}
def lq (l : Nat → Nat) (P Q : Nat) : Nat → Nat := fun x => if l x = Q then P else l x
def uq (U : Nat → Bool) (g : Nat) : Nat → Bool := fun h => U h && decide (h ≠ g)
theorem sg_split (hg : g < E) (hU : U g = true) (x y : Nat) : sg e E l r U x y = sg e E l r (uq U g) x y + vg l r (e g) x * vg l r (e g) y := by
 unfold sg
 rw [sumTo_one hg (f := fun h => if uq U g h then vg l r (e h) x * vg l r (e h) y else 0) (g := fun h => if U h then vg l r (e h) x * vg l r (e h) y else 0) (fun i hi hne => by simp [uq, hne])]
 simp [uq, hU]
theorem lq_ne (hPQ : P ≠ Q) (x : Nat) : lq l P Q x ≠ Q := by
 unfold lq; split
 ·exact hPQ
 ·assumption
theorem dl_lq (hPQ : P ≠ Q) {x : Nat} (hx : x ≠ Q) (a : Nat) : dl x (lq l P Q a) = dl x (l a) + if x = P then dl Q (l a) else 0 := by
 unfold lq dl
 by_cases h : l a = Q
 ·rw [if_pos h, h, if_neg hx, if_pos rfl]; simp
 ·rw [if_neg h, if_neg (show ¬ Q = l a from fun e => h e.symm)]; simp
variable (hl : ∀ x, l (l x) = l x) (hr : l r = r) (hg : g < E) (hU : U g = true) (hP : P = l (e g).1 ∧ Q = l (e g).2 ∨ P = l (e g).2 ∧ Q = l (e g).1) (hPQ : P ≠ Q)
include hl hr hg hU hP hPQ
omit hr hg hU hPQ in
theorem lP : l P = P := by rcases hP with ⟨h, _⟩ | ⟨h, _⟩ <;> rw [h, hl]
omit hr hg hU hPQ in
theorem lQ : l Q = Q := by rcases hP with ⟨_, h⟩ | ⟨_, h⟩ <;> rw [h, hl]
omit hl hr hPQ in
theorem sg_w (x y : Nat) : sg e E l r U x y = sg e E l r (uq U g) x y + (if x = r then 0 else dl x P - dl x Q) * (if y = r then 0 else dl y P - dl y Q) := by
 rw [sg_split hg hU]
 congr 1
 unfold vg
 rcases hP with ⟨h1, h2⟩ | ⟨h1, h2⟩
 ·rw [h1, h2]
 ·rw [h1, h2]
  split <;> split <;> grind
omit hr hg hU in
theorem dg_lq {x : Nat} (hx : x ≠ Q) (y : Nat) : dg (lq l P Q) r x y = dg l r x y := by
 have h1 := lP hl hP
 unfold dg lq
 by_cases h : l x = Q
 ·rw [if_pos h]
  have : x ≠ P := by rintro rfl; exact hPQ (h1.symm.trans h)
  simp [h, Ne.symm hx, Ne.symm this]
 ·rw [if_neg h]
omit hr in
theorem big_join_far {v : Nat} (hPv : P < v) (hQv : Q < v) (h1 : r ≠ P) (h2 : r ≠ Q) : dt v (big e E l r U) = dt v (big e E l r (uq U g)) + dt v (big e E (lq l P Q) r (uq U g)) := by
 obtain ⟨v, rfl⟩ : ∃ u, v = u + 1 := ⟨v - 1, by omega⟩
 have l1 := lP hl hP
 have l2 := lQ hl hP
 generalize hB : big e E l r (uq U g) = B
 generalize hw : (fun x => if x = r then (0 : Int) else dl x P - dl x Q) = w
 have hwP : w P = 1 := by rw [← hw]; simp [h1.symm, dl, hPQ]
 have hwQ : w Q = -1 := by rw [← hw]; simp [h2.symm, dl, hPQ.symm]
 have hw0 : ∀ x, x ≠ P → x ≠ Q → w x = 0 := fun x a b => by rw [← hw]; simp [dl, a, b]
 have hM : ∀ x y, big e E l r U x y = B x y + w x * w y := by
  intro x y
  rw [← hB, ← hw]
  unfold big
  rw [sg_w hg hU hP x y, ← Int.add_assoc]
 generalize hMM : big e E l r U = M at *
 have a1 := dt_addrow M (i := P) (j := Q) hPQ hPv hQv 1
 have a2 : (fun c => M P c + 1 * M Q c) = fun c => B P c + B Q c := by
  funext c
  rw [hM, hM, hwP, hwQ]; omega
 rw [a2] at a1
 have a3 : rp M P (fun c => B P c + B Q c) = rp (rp B P (fun c => B P c + 1 * B Q c)) Q (fun c => 1 * B Q c + (-1) * w c) := by
  funext x c
  unfold rp
  by_cases x1 : x = P
  ·subst x1; simp [hPQ]
  ·by_cases x2 : x = Q
   ·subst x2; rw [if_neg x1, if_pos rfl, hM, hwQ]; omega
   ·rw [if_neg x1, if_neg x2, if_neg x1, hM, hw0 x x1 x2]; omega
 rw [a3, dt_lin _ hQv, show rp (rp B P (fun c => B P c + 1 * B Q c)) Q (B Q) = rp B P (fun c => B P c + 1 * B Q c) by
  funext x; unfold rp
  by_cases x2 : x = Q
  ·subst x2; rw [if_pos rfl, if_neg hPQ.symm]
  ·rw [if_neg x2], dt_addrow B hPQ hPv hQv 1] at a1
 -- the second one
 generalize hG : rp (rp B P (fun c => B P c + 1 * B Q c)) Q w = G at *
 have b1 := dt_addrow (tr G) (i := P) (j := Q) hPQ hPv hQv 1
 rw [dt_tr, ← dt_tr] at b1
 generalize hG' : tr (rp (tr G) P (fun x => tr G P x + 1 * tr G Q x)) = G' at *
 have c1 : ∀ x y, G' x y = if y = P then G x P + G x Q else G x y := by
  intro x y
  rw [← hG']
  unfold tr rp
  split <;> simp
 have gQ : ∀ y, G Q y = w y := fun y => by rw [← hG, rp_same]
 have b2 : dt (v + 1) G' = -dt v (er Q (ec Q G')) := by
  rw [dt_unit G' (p := Q) (q := Q) (by omega) (by omega) (fun c hc hne => by
   rw [c1]
   by_cases x1 : c = P
   ·rw [if_pos x1, gQ, gQ, hwP, hwQ]; rfl
   ·rw [if_neg x1, gQ, hw0 c x1 hne]), c1, if_neg hPQ.symm, gQ, hwQ, sgn_par (show (Q + Q) % 2 = 0 % 2 by omega)]
  simp [sgn]
 have b3 : dt (v + 1) (big e E (lq l P Q) r (uq U g)) = dt v (er Q (ec Q (big e E (lq l P Q) r (uq U g)))) := by
  refine unit_row (by omega) fun c hc => ?_
  have z : ∀ h, vg (lq l P Q) r (e h) Q = 0 := fun h => by
   unfold vg
   rw [dl_ne (Ne.symm (lq_ne hPQ _)), dl_ne (Ne.symm (lq_ne hPQ _))]; simp
  unfold big sg dg
  rw [sumTo_zero fun i hi => by rw [z]; simp]
  have : lq l P Q Q ≠ Q := lq_ne hPQ _
  simp [this, dl]
 have b4 : dt v (er Q (ec Q (big e E (lq l P Q) r (uq U g)))) = dt v (er Q (ec Q G')) := by
  refine minor_congr (by omega) fun x y hx hy hxQ hyQ => ?_
  have vx : ∀ x, x ≠ Q → ∀ h, vg (lq l P Q) r (e h) x = vg l r (e h) x + if x = P then vg l r (e h) Q else 0 := by
   intro x hxQ h
   unfold vg
   rw [dl_lq hPQ hxQ, dl_lq hPQ hxQ, if_neg h2.symm]
   by_cases x1 : x = P
   ·rw [if_pos x1, if_neg (by rw [x1]; exact h1.symm), if_pos x1, if_pos x1]; rw [if_neg (by rw [x1]; exact h1.symm)]; omega
   ·rw [if_neg x1, if_neg x1, if_neg x1]; simp
  have sgP : ∀ y, B P y = sg e E l r (uq U g) P y := fun y => by
   rw [← hB]; unfold big dg
   rw [if_neg (fun hh => hh.2.elim (fun h => h l1) (fun h => h1 h.symm))]; omega
  have sgQ : ∀ y, B Q y = sg e E l r (uq U g) Q y := fun y => by
   rw [← hB]; unfold big dg
   rw [if_neg (fun hh => hh.2.elim (fun h => h l2) (fun h => h2 h.symm))]; omega
  have sgx : ∀ x, x ≠ Q → B x Q = sg e E l r (uq U g) x Q := fun x hxQ => by
   rw [← hB]; unfold big dg
   rw [if_neg (by rintro ⟨h, _⟩; exact hxQ h)]; omega
  have sgxP : ∀ x, x ≠ P → B x P = sg e E l r (uq U g) x P := fun x hxQ => by
   rw [← hB]; unfold big dg
   rw [if_neg (by rintro ⟨h, _⟩; exact hxQ h)]; omega
  have dP : ∀ y, dg l r P y = 0 := fun y => by unfold dg; rw [if_neg (fun hh => hh.2.elim (fun h => h l1) (fun h => h1 h.symm))]
  have dP' : ∀ x, x ≠ P → dg l r x P = 0 := fun x hx => by unfold dg; rw [if_neg (by rintro ⟨h, _⟩; exact hx h)]
  have gP : ∀ y, G P y = B P y + B Q y := fun y => by rw [← hG, rp_ne _ hPQ, rp_same]; omega
  have gx : ∀ x, x ≠ P → x ≠ Q → G x = B x := fun x a b => by rw [← hG, rp_ne _ b, rp_ne _ a]
  have key : big e E (lq l P Q) r (uq U g) x y = dg l r x y + (sg e E l r (uq U g) x y + (if x = P then sg e E l r (uq U g) Q y else 0) + (if y = P then sg e E l r (uq U g) x Q else 0) + (if x = P ∧ y = P then sg e E l r (uq U g) Q Q else 0)) := by
   unfold big
   rw [dg_lq hl hP hPQ hxQ]
   congr 1
   unfold sg
   simp only [vx x hxQ, vx y hyQ]
   by_cases x1 : x = P <;> by_cases y1 : y = P <;> simp only [x1, y1, if_true, if_false, and_self, and_true, and_false, false_and, true_and, Int.add_zero]
   ·rw [← sumTo_add, ← sumTo_add, ← sumTo_add]
    refine sumTo_congr fun i hi => ?_
    split <;> grind
   ·rw [← sumTo_add]
    refine sumTo_congr fun i hi => ?_
    split <;> grind
   ·rw [← sumTo_add]
    refine sumTo_congr fun i hi => ?_
    split <;> grind
  rw [key, c1]
  by_cases x1 : x = P
  ·subst x1
   by_cases y1 : y = x
   ·subst y1
    simp only [if_true, and_self]
    rw [gP, gP, sgP, sgP, sgQ, sgQ, dP]; omega
   ·simp only [if_true, y1, if_false, and_false]
    rw [gP, sgP, sgQ, dP]; omega
  ·rw [gx x x1 hxQ]
   simp only [x1, false_and, if_false]
   by_cases y1 : y = P
   ·subst y1
    rw [if_pos rfl, if_pos rfl, sgxP x x1, sgx x hxQ, dP' x x1]; omega
   ·rw [if_neg y1, if_neg y1, ← hB]
    unfold big; omega
 rw [b3, b4]
 omega
omit hr in
theorem big_join_near {v : Nat} (hPv : P < v) (hQv : Q < v) (h : r = P ∨ r = Q) : dt v (big e E l r U) = dt v (big e E l r (uq U g)) + dt v (big e E (lq l P Q) P (uq U g)) := by
 obtain ⟨v, rfl⟩ : ∃ u, v = u + 1 := ⟨v - 1, by omega⟩
 have l1 := lP hl hP
 have l2 := lQ hl hP
 obtain ⟨t, htv, htr, ht⟩ : ∃ t, t < v + 1 ∧ t ≠ r ∧ (r = P ∧ t = Q ∨ r = Q ∧ t = P) := by
  rcases h with h | h
  ·exact ⟨Q, hQv, by rw [h]; exact hPQ.symm, .inl ⟨h, rfl⟩⟩
  ·exact ⟨P, hPv, by rw [h]; exact hPQ, .inr ⟨h, rfl⟩⟩
 generalize hB : big e E l r (uq U g) = B
 have hM : ∀ x y, big e E l r U x y = B x y + dl x t * dl y t := by
  intro x y
  rw [← hB]
  unfold big
  rw [sg_w hg hU hP x y, ← Int.add_assoc]
  congr 1
  rcases ht with ⟨e1, e2⟩ | ⟨e1, e2⟩
  ·rw [e1, e2]
   unfold dl
   by_cases a : x = P <;> by_cases b : y = P <;> by_cases c : x = Q <;> by_cases d : y = Q <;> simp_all
  ·rw [e1, e2]
   unfold dl
   by_cases a : x = P <;> by_cases b : y = P <;> by_cases c : x = Q <;> by_cases d : y = Q <;> simp_all
 have a1 : big e E l r U = rp B t (fun c => 1 * B t c + 1 * dl t c) := by
  funext x c
  rw [hM]
  unfold rp
  by_cases e1 : x = t
  ·subst e1
   rw [if_pos rfl, dl_self, show dl c x = dl x c by unfold dl; simp [eq_comm]]; omega
  ·rw [if_neg e1, dl_ne e1]; omega
 rw [a1, dt_lin _ htv, rp_self]
 have b1 : dt (v + 1) (rp B t (dl t)) = dt v (er t (ec t (rp B t (dl t)))) := unit_row (by omega) fun c hc => by rw [rp_same]
 have b3 : dt (v + 1) (big e E (lq l P Q) P (uq U g)) = dt v (er t (ec t (big e E (lq l P Q) P (uq U g)))) := by
  refine unit_row (by omega) fun c hc => ?_
  have z : ∀ h, vg (lq l P Q) P (e h) t = 0 := fun h => by
   unfold vg
   rcases ht with ⟨e1, e2⟩ | ⟨e1, e2⟩
   ·rw [e2, dl_ne (Ne.symm (lq_ne hPQ _)), dl_ne (Ne.symm (lq_ne hPQ _))]; simp
   ·rw [if_pos e2]
  unfold big sg dg
  rw [sumTo_zero fun i hi => by rw [z]; simp]
  have : lq l P Q t ≠ t ∨ t = P := by
   rcases ht with ⟨e1, e2⟩ | ⟨e1, e2⟩
   ·left; rw [e2]; exact lq_ne hPQ _
   ·right; exact e2
  simp [this, dl]
 have b4 : dt v (er t (ec t (big e E (lq l P Q) P (uq U g)))) = dt v (er t (ec t (rp B t (dl t)))) := by
  refine minor_congr (by omega) fun x y hx hy hxt hyt => ?_
  rw [rp_ne _ hxt, ← hB]
  unfold big
  have vx : ∀ x, x ≠ t → ∀ h, vg (lq l P Q) P (e h) x = vg l r (e h) x := by
   intro x hxt h
   unfold vg
   rcases ht with ⟨e1, e2⟩ | ⟨e1, e2⟩
   ·rw [e2] at hxt
    rw [e1]
    by_cases x1 : x = P
    ·rw [if_pos x1, if_pos x1]
    ·rw [if_neg x1, if_neg x1, dl_lq hPQ hxt, dl_lq hPQ hxt, if_neg x1, if_neg x1]; omega
   ·rw [e2] at hxt
    rw [e1, if_neg hxt]
    by_cases x1 : x = Q
    ·rw [if_pos x1, x1, dl_ne (Ne.symm (lq_ne hPQ _)), dl_ne (Ne.symm (lq_ne hPQ _))]; rfl
    ·rw [if_neg x1, dl_lq hPQ x1, dl_lq hPQ x1, if_neg hxt, if_neg hxt]; omega
  congr 1
  ·rcases ht with ⟨e1, e2⟩ | ⟨e1, e2⟩
   ·rw [e2] at hxt
    have := dg_lq (r := r) hl hP hPQ hxt y
    rwa [e1] at this ⊢
   ·rw [e2] at hxt
    by_cases x1 : x = Q
    ·have := lq_ne (l := l) hPQ Q
     rw [x1, e1]
     unfold dg
     simp [this]
    ·rw [show dg (lq l P Q) P x y = dg (lq l P Q) r x y by unfold dg; rw [e1]; simp [hxt, x1]]
     exact dg_lq hl hP hPQ x1 y
  ·unfold sg
   simp only [vx x hxt, vx y hyt]
 rw [b1, b3, b4]
 omega
end
end Go.Proofs.Ytoohcdfokejkdaa.P
namespace Go.Proofs.Ytoohcdfokejkdaa.P
open Go.RowKit Go.Proofs.YtoohcdfokejkdaaW.PrintWords
set_option linter.unusedVariables false
set_option linter.unusedSimpArgs false

/-- Connected by the edges of n. -/
inductive Cn (e : Nat → Nat × Nat) (n : Nat) : Nat → Nat → Prop
  | refl (x : Nat) : Cn e n x x
  | fwd {x : Nat} (k : Nat) : n.testBit k = true → Cn e n x (e k).1 → Cn e n x (e k).2
  | bwd {x : Nat} (k : Nat) : n.testBit k = true → Cn e n x (e k).2 → Cn e n x (e k).1
theorem Cn.trans {e : Nat → Nat × Nat} {n x y z : Nat} (h : Cn e n x y) (g : Cn e n y z) : Cn e n x z := by
  induction g with
  | refl => exact h
  | fwd k hk _ ih => exact .fwd k hk ih
  | bwd k hk _ ih => exact .bwd k hk ih
theorem Cn.edge {e : Nat → Nat × Nat} {n k : Nat} (h : n.testBit k = true) : Cn e n (e k).1 (e k).2 := .fwd k h (.refl _)
theorem Cn.edge' {e : Nat → Nat × Nat} {n k : Nat} (h : n.testBit k = true) : Cn e n (e k).2 (e k).1 := .bwd k h (.refl _)
theorem Cn.symm {e : Nat → Nat × Nat} {n x y : Nat} (h : Cn e n x y) : Cn e n y x := by
  induction h with
  | refl => exact .refl _
  | fwd k hk _ ih => exact (Cn.edge' hk).trans ih
  | bwd k hk _ ih => exact (Cn.edge hk).trans ih
theorem Cn.mono {e : Nat → Nat × Nat} {n m x y : Nat} (hm : ∀ i, n.testBit i = true → m.testBit i = true) (h : Cn e n x y) : Cn e m x y := by
  induction h with
  | refl => exact .refl _
  | fwd k hk _ ih => exact .fwd k (hm k hk) ih
  | bwd k hk _ ih => exact .bwd k (hm k hk) ih
theorem Cn_add {e : Nat → Nat × Nat} {n k x y : Nat} : Cn e (setB n k true) x y ↔ Cn e n x y ∨ (Cn e n x (e k).1 ∧ Cn e n (e k).2 y) ∨ (Cn e n x (e k).2 ∧ Cn e n (e k).1 y) := by
  have hm : ∀ i, n.testBit i = true → (setB n k true).testBit i = true := fun i hi => by rw [testBit_setB]; split <;> simp [hi]
  have hk : (setB n k true).testBit k = true := by rw [testBit_setB]; simp
  constructor
  · intro h
    induction h with
    | refl => exact .inl (.refl _)
    | fwd j hj _ ih =>
      rw [testBit_setB] at hj
      by_cases e1 : j = k
      · subst e1
        rcases ih with ih | ⟨h1, h2⟩ | ⟨h1, h2⟩
        · exact .inr (.inl ⟨ih, .refl _⟩)
        · exact .inr (.inl ⟨h1, .refl _⟩)
        · exact .inl h1
      · rw [if_neg e1] at hj
        rcases ih with ih | ⟨h1, h2⟩ | ⟨h1, h2⟩
        · exact .inl (.fwd j hj ih)
        · exact .inr (.inl ⟨h1, .fwd j hj h2⟩)
        · exact .inr (.inr ⟨h1, .fwd j hj h2⟩)
    | bwd j hj _ ih =>
      rw [testBit_setB] at hj
      by_cases e1 : j = k
      · subst e1
        rcases ih with ih | ⟨h1, h2⟩ | ⟨h1, h2⟩
        · exact .inr (.inr ⟨ih, .refl _⟩)
        · exact .inl h1
        · exact .inr (.inr ⟨h1, .refl _⟩)
      · rw [if_neg e1] at hj
        rcases ih with ih | ⟨h1, h2⟩ | ⟨h1, h2⟩
        · exact .inl (.bwd j hj ih)
        · exact .inr (.inl ⟨h1, .bwd j hj h2⟩)
        · exact .inr (.inr ⟨h1, .bwd j hj h2⟩)
  · rintro (h | ⟨h1, h2⟩ | ⟨h1, h2⟩)
    · exact h.mono hm
    · exact ((h1.mono hm).trans (Cn.edge hk)).trans (h2.mono hm)
    · exact ((h1.mono hm).trans (Cn.edge' hk)).trans (h2.mono hm)
theorem Cn_zero {e : Nat → Nat × Nat} {x y : Nat} : Cn e 0 x y ↔ x = y := by
  constructor
  · intro h
    induction h with
    | refl => rfl
    | fwd k hk => simp at hk
    | bwd k hk => simp at hk
  · rintro rfl; exact .refl _
/-- The first k bits of n. -/
def low (n k : Nat) : Nat := n % 2 ^ k
theorem testBit_low (n k i : Nat) : (low n k).testBit i = (decide (i < k) && n.testBit i) := Nat.testBit_mod_two_pow ..
theorem low_all {n k : Nat} (h : n < 2 ^ k) : low n k = n := Nat.mod_eq_of_lt h
theorem low_succ_set {n k : Nat} (h : n.testBit k = true) : low n (k + 1) = setB (low n k) k true := by
  apply Nat.eq_of_testBit_eq
  intro i
  rw [testBit_setB, testBit_low, testBit_low]
  by_cases e : i = k
  · subst e; simp [h]
  · rw [if_neg e]
    congr 1
    rw [decide_eq_decide]; omega
theorem low_succ_not {n k : Nat} (h : n.testBit k = false) : low n (k + 1) = low n k := by
  apply Nat.eq_of_testBit_eq
  intro i
  rw [testBit_low, testBit_low]
  by_cases e : i = k
  · subst e; simp [h]
  · congr 1
    rw [decide_eq_decide]; omega
/-- The least vertex of the part of v, by the first k edges. -/
def lab (e : Nat → Nat × Nat) (n : Nat) : Nat → Nat → Nat
  | 0, v => v
  | k + 1, v =>
    if n.testBit k = true then
      (if lab e n k v = max (lab e n k (e k).1) (lab e n k (e k).2) then min (lab e n k (e k).1) (lab e n k (e k).2) else lab e n k v)
    else lab e n k v
theorem lab_facts (e : Nat → Nat × Nat) (n : Nat) : ∀ k, (∀ v, lab e n k v ≤ v ∧ lab e n k (lab e n k v) = lab e n k v) ∧ ∀ x y, lab e n k x = lab e n k y ↔ Cn e (low n k) x y
  | 0 => by
    refine ⟨fun v => ⟨Nat.le_refl _, rfl⟩, fun x y => ?_⟩
    have : low n 0 = 0 := by unfold low; simp [Nat.mod_one]
    rw [this, Cn_zero]
    rfl
  | k + 1 => by
    obtain ⟨h1, h2⟩ := lab_facts e n k
    cases hb : n.testBit k with
    | false =>
      simp only [lab, hb, Bool.false_eq_true, if_false]
      rw [low_succ_not hb]
      exact ⟨h1, h2⟩
    | true =>
      simp only [lab, hb, if_true]
      rw [low_succ_set hb]
      refine ⟨fun v => ?_, fun x y => ?_⟩
      · have a1 := h1 v
        have a2 := h1 (e k).1
        have a3 := h1 (e k).2
        grind
      · rw [Cn_add, ← h2, ← h2, ← h2, ← h2, ← h2]
        grind
/-- Tells whether a vertex is the least of its part. -/
theorem lab_le (e : Nat → Nat × Nat) (n k v : Nat) : lab e n k v ≤ v := ((lab_facts e n k).1 v).1
theorem lab_lab (e : Nat → Nat × Nat) (n k v : Nat) : lab e n k (lab e n k v) = lab e n k v := ((lab_facts e n k).1 v).2
theorem lab_iff {e : Nat → Nat × Nat} {n k : Nat} (hn : n < 2 ^ k) (x y : Nat) : lab e n k x = lab e n k y ↔ Cn e n x y := by
  have := (lab_facts e n k).2 x y
  rwa [low_all hn] at this
theorem lab_least {e : Nat → Nat × Nat} {n k : Nat} (hn : n < 2 ^ k) {x y : Nat} (h : Cn e n x y) : lab e n k x ≤ y := by
  rw [(lab_iff hn x y).2 h]
  exact lab_le ..
theorem lab_cn {e : Nat → Nat × Nat} {n k : Nat} (hn : n < 2 ^ k) (x : Nat) : Cn e n x (lab e n k x) := (lab_iff hn _ _).1 (lab_lab ..).symm
/-- How many of the numbers under v. -/
def cnt (p : Nat → Bool) : Nat → Nat
  | 0 => 0
  | v + 1 => cnt p v + (p v).toNat
theorem cnt_congr {p q : Nat → Bool} {v : Nat} (h : ∀ i, i < v → p i = q i) : cnt p v = cnt q v := by
  induction v with
  | zero => rfl
  | succ n ih => simp only [cnt]; rw [ih (fun i hi => h i (by omega)), h n (by omega)]
theorem cnt_le (p : Nat → Bool) (v : Nat) : cnt p v ≤ v := by
  induction v with
  | zero => simp [cnt]
  | succ n ih => simp only [cnt]; have := Bool.toNat_le (p n); omega
theorem cnt_one {p q : Nat → Bool} {v m : Nat} (hm : m < v) (h1 : p m = true) (h2 : q m = false) (h : ∀ i, i < v → i ≠ m → p i = q i) : cnt p v = cnt q v + 1 := by
  induction v with
  | zero => omega
  | succ n ih =>
    simp only [cnt]
    by_cases e : m = n
    · subst e
      rw [cnt_congr (q := q) (fun i hi => h i (by omega) (by omega)), h1, h2]
      simp
    · rw [ih (by omega) (fun i hi hne => h i (by omega) hne), h n (by omega) (fun e' => e e'.symm)]
      omega
theorem cnt_zero_iff {p : Nat → Bool} {v : Nat} : cnt p v = 0 ↔ ∀ i, i < v → p i = false := by
  induction v with
  | zero => simp [cnt]
  | succ n ih =>
    simp only [cnt]
    constructor
    · intro h i hi
      by_cases e : i = n
      · subst e
        cases hp : p i
        · rfl
        · rw [hp] at h; simp at h
      · exact ih.1 (by omega) i (by omega)
    · intro h
      rw [ih.2 (fun i hi => h i (by omega)), h n (by omega)]
      rfl
/-- The number of parts of v vertices, by k edges. -/
def parts (e : Nat → Nat × Nat) (v k n : Nat) : Nat := cnt (fun c => lab e n k c == c) v
theorem rep_iff {e : Nat → Nat × Nat} {n k : Nat} (hn : n < 2 ^ k) (c : Nat) : (lab e n k c == c) = true ↔ ∀ y, Cn e n c y → c ≤ y := by
  rw [beq_iff_eq]
  constructor
  · intro h y hy
    have := lab_least hn hy
    omega
  · intro h
    have := h _ (lab_cn hn c)
    have := lab_le e n k c
    omega
theorem parts_zero (e : Nat → Nat × Nat) (v k : Nat) : parts e v k 0 = v := by
  have : ∀ k c, lab e 0 k c = c := by
    intro k
    induction k with
    | zero => intro c; rfl
    | succ k ih => intro c; simp [lab, ih]
  unfold parts
  simp only [this, beq_self_eq_true]
  induction v with
  | zero => rfl
  | succ n ih => simp only [cnt]; rw [ih]; rfl
/-- One more edge joins two parts, or none. -/
theorem parts_add {e : Nat → Nat × Nat} {v k n j : Nat} (hn : n < 2 ^ k) (hj : j < k) (h1 : (e j).1 < v) (h2 : (e j).2 < v) :
    (Cn e n (e j).1 (e j).2 → parts e v k (setB n j true) = parts e v k n) ∧ (¬ Cn e n (e j).1 (e j).2 → parts e v k n = parts e v k (setB n j true) + 1) := by
  have hn' : setB n j true < 2 ^ k := setB_lt true hn hj
  constructor
  · intro hc
    unfold parts
    refine cnt_congr fun c hcv => ?_
    rw [Bool.eq_iff_iff, rep_iff hn, rep_iff hn']
    simp only [Cn_add]
    constructor
    · intro h y hy; exact h y (.inl hy)
    · rintro h y (hy | ⟨ha, hb⟩ | ⟨ha, hb⟩)
      · exact h y hy
      · exact h y ((ha.trans hc).trans hb)
      · exact h y ((ha.trans hc.symm).trans hb)
  · intro hc
    have hne : lab e n k (e j).1 ≠ lab e n k (e j).2 := fun h => hc ((lab_iff hn _ _).1 h)
    have l1 := lab_le e n k (e j).1
    have l2 := lab_le e n k (e j).2
    have c1 := lab_cn (e := e) hn (e j).1
    have c2 := lab_cn (e := e) hn (e j).2
    unfold parts
    refine cnt_one (m := max (lab e n k (e j).1) (lab e n k (e j).2)) (by omega) ?_ ?_ ?_
    · have := lab_lab e n k (e j).1
      have := lab_lab e n k (e j).2
      rw [beq_iff_eq]
      rcases Nat.le_total (lab e n k (e j).1) (lab e n k (e j).2) with hle | hle
      · rw [Nat.max_eq_right hle]; assumption
      · rw [Nat.max_eq_left hle]; assumption
    · rw [Bool.eq_false_iff]
      intro h
      rw [rep_iff hn'] at h
      rcases Nat.le_total (lab e n k (e j).1) (lab e n k (e j).2) with hle | hle
      · rw [Nat.max_eq_right hle] at h
        have := h (lab e n k (e j).1) (Cn_add.2 (.inr (.inr ⟨c2.symm, c1⟩)))
        omega
      · rw [Nat.max_eq_left hle] at h
        have := h (lab e n k (e j).2) (Cn_add.2 (.inr (.inl ⟨c1.symm, c2⟩)))
        omega
    · intro c hcv hcm
      rw [Bool.eq_iff_iff, rep_iff hn, rep_iff hn']
      simp only [Cn_add]
      constructor
      · rintro h y (hy | ⟨ha, hb⟩ | ⟨ha, hb⟩)
        · exact h y hy
        · have e1 : lab e n k (e j).1 = c := by
            have := h _ (ha.trans c1)
            have := lab_least (e := e) hn ha.symm
            omega
          have := lab_least (e := e) hn hb
          have := lab_le e n k c
          omega
        · have e1 : lab e n k (e j).2 = c := by
            have := h _ (ha.trans c2)
            have := lab_least (e := e) hn ha.symm
            omega
          have := lab_least (e := e) hn hb
          omega
      · intro h y hy; exact h y (.inl hy)
theorem pop_setB {m n j : Nat} (hj : j < m) (h : n.testBit j = false) : pop m (setB n j true) = pop m n + 1 := by
  induction m with
  | zero => omega
  | succ m ih =>
    simp only [pop]
    by_cases e : j = m
    · subst e
      rw [pop_congr (t := n) (fun i hi => by rw [testBit_setB, if_neg (by omega)]), testBit_setB, if_pos rfl, h]
      simp
    · rw [ih (by omega), testBit_setB, if_neg (by omega)]
      omega
theorem setB_off_on {n j : Nat} (h : n.testBit j = true) : setB (setB n j false) j true = n := by
  apply Nat.eq_of_testBit_eq
  intro i
  rw [testBit_setB, testBit_setB]
  by_cases e : i = j
  · subst e; simp [h]
  · simp [e]
theorem setB_bit (n j : Nat) (b : Bool) : (setB n j b).testBit j = b := by rw [testBit_setB, if_pos rfl]
theorem setB_ne {n j i : Nat} (b : Bool) (h : i ≠ j) : (setB n j b).testBit i = n.testBit i := by rw [testBit_setB, if_neg h]
theorem setB_same {n j : Nat} {b : Bool} (h : n.testBit j = b) : setB n j b = n := by rw [← h, setB_self]
/-- A statement over masks, from none on, an edge at a time. -/
theorem mask_induction {P : Nat → Prop} {k : Nat} (h0 : P 0) (hs : ∀ n j, n < 2 ^ k → j < k → n.testBit j = false → P n → P (setB n j true)) : ∀ n, n < 2 ^ k → P n := by
  intro n hn
  have : ∀ d, d ≤ k → P (low n d) := by
    intro d
    induction d with
    | zero => intro _; have : low n 0 = 0 := by unfold low; simp [Nat.mod_one]
              rw [this]; exact h0
    | succ d ih =>
      intro hd
      cases hb : n.testBit d with
      | false => rw [low_succ_not hb]; exact ih (by omega)
      | true =>
        rw [low_succ_set hb]
        refine hs _ _ (Nat.lt_of_le_of_lt (Nat.mod_le _ _) hn) (by omega) ?_ (ih (by omega))
        rw [testBit_low]; simp
  have := this k (Nat.le_refl k)
  rwa [low_all hn] at this
/-- A graph: the ends of its edges are vertices. -/
def Gr (e : Nat → Nat × Nat) (v k : Nat) : Prop := ∀ j, j < k → (e j).1 < v ∧ (e j).2 < v
/-- The number of loops is no number under 0. -/
theorem loops_nonneg {e : Nat → Nat × Nat} {v k : Nat} (hg : Gr e v k) : ∀ n, n < 2 ^ k → v ≤ pop k n + parts e v k n := by
  refine mask_induction ?_ ?_
  · rw [parts_zero]; omega
  · intro n j hn hj hb ih
    have hp := parts_add (e := e) hn hj (hg j hj).1 (hg j hj).2
    rw [pop_setB hj hb]
    by_cases hc : Cn e n (e j).1 (e j).2
    · rw [hp.1 hc]; omega
    · have := hp.2 hc; omega
theorem lt_of_testBit {n k j : Nat} (hn : n < 2 ^ k) (h : n.testBit j = true) : j < k := by
  rcases Nat.lt_or_ge j k with h1 | h1
  · exact h1
  · rw [Nat.testBit_lt_two_pow (Nat.lt_of_lt_of_le hn (Nat.pow_le_pow_right (by decide) h1))] at h
    cases h
/-- Taking an edge away. -/
theorem parts_del {e : Nat → Nat × Nat} {v k n j : Nat} (hg : Gr e v k) (hn : n < 2 ^ k) (hb : n.testBit j = true) :
    pop k n = pop k (setB n j false) + 1 ∧ (Cn e (setB n j false) (e j).1 (e j).2 → parts e v k (setB n j false) = parts e v k n) ∧ (¬ Cn e (setB n j false) (e j).1 (e j).2 → parts e v k (setB n j false) = parts e v k n + 1) := by
  have hj := lt_of_testBit hn hb
  have hp := parts_add (e := e) (setB_lt false hn hj) hj (hg j hj).1 (hg j hj).2
  have h2 := pop_setB (m := k) (n := setB n j false) hj (setB_bit ..)
  rw [setB_off_on hb] at hp h2
  exact ⟨h2, fun h => (hp.1 h).symm, hp.2⟩
/-- No loops: every edge is a bridge. -/
theorem bridge_of_forest {e : Nat → Nat × Nat} {v k n j : Nat} (hg : Gr e v k) (hn : n < 2 ^ k) (hf : pop k n + parts e v k n = v) (hb : n.testBit j = true) : ¬ Cn e (setB n j false) (e j).1 (e j).2 := by
  intro hc
  obtain ⟨h1, h2, _⟩ := parts_del hg hn hb
  have := h2 hc
  have := loops_nonneg hg (setB n j false) (setB_lt false hn (lt_of_testBit hn hb))
  omega
theorem parts_pos {e : Nat → Nat × Nat} {v k n : Nat} (hn : n < 2 ^ k) (hv : 0 < v) : 0 < parts e v k n := by
  rcases Nat.eq_zero_or_pos (parts e v k n) with h | h
  · have := cnt_zero_iff.1 h 0 hv
    have h0 := lab_le e n k 0
    simp at this
    omega
  · exact h
/-- One part: all are connected. -/
theorem parts_one {e : Nat → Nat × Nat} {v k n : Nat} (hn : n < 2 ^ k) (hv : 0 < v) : parts e v k n = 1 ↔ ∀ x, x < v → Cn e n 0 x := by
  have h0 : (lab e n k 0 == 0) = true := by have := lab_le e n k 0; rw [beq_iff_eq]; omega
  have hq : cnt (fun c => c == 0) v = 1 := by
    obtain ⟨v, rfl⟩ : ∃ u, v = u + 1 := ⟨v - 1, by omega⟩
    clear hv
    induction v with
    | zero => rfl
    | succ v ih => simp only [cnt] at *; rw [ih]; simp
  constructor
  · intro h x hx
    have hl := lab_lab e n k x
    have hle := lab_le e n k x
    have hxc := lab_cn (e := e) hn x
    by_cases hz : lab e n k x = 0
    · rw [hz] at hxc; exact hxc.symm
    · exfalso
      unfold parts at h
      have : 2 ≤ cnt (fun c => lab e n k c == c) v := by
        have h2 : cnt (fun c => c == 0 || c == lab e n k x) v = cnt (fun c => c == 0) v + 1 := cnt_one (m := lab e n k x) (by omega) (by simp) (by simpa using hz) (fun i hi hne => by simp [hne])
        have hmono : ∀ (p q : Nat → Bool) (u : Nat), (∀ i, p i = true → q i = true) → cnt p u ≤ cnt q u := by
          intro p q u hpq
          induction u with
          | zero => exact Nat.le_refl _
          | succ u ih =>
            simp only [cnt]
            have := hpq u
            cases hp : p u <;> cases hq : q u <;> simp_all <;> omega
        have h3 := hmono (fun c => c == 0 || c == lab e n k x) (fun c => lab e n k c == c) v (fun i hi => by
          simp at hi
          rcases hi with rfl | rfl
          · exact h0
          · simpa using hl)
        omega
      omega
  · intro h
    unfold parts
    rw [← hq]
    refine cnt_congr fun c hc => ?_
    have := lab_least hn (h c hc).symm
    rw [Bool.eq_iff_iff, beq_iff_eq, beq_iff_eq]
    constructor
    · intro h1; omega
    · rintro rfl; omega
theorem cnt_add {p q r : Nat → Bool} {v : Nat} (h : ∀ i, i < v → (p i).toNat = (q i).toNat + (r i).toNat) : cnt p v = cnt q v + cnt r v := by
  induction v with
  | zero => rfl
  | succ n ih => simp only [cnt]; rw [ih (fun i hi => h i (by omega)), h n (by omega)]; omega
theorem cnt_single {p : Nat → Bool} {v m : Nat} (hm : m < v) (h : ∀ i, i < v → i ≠ m → p i = false) : cnt p v = (p m).toNat := by
  cases hp : p m with
  | false => rw [cnt_zero_iff.2 fun i hi => by by_cases e : i = m; · rw [e, hp]
                                               · exact h i hi e]; rfl
  | true =>
    rw [cnt_one (q := fun _ => false) hm hp rfl (fun i hi hne => h i hi hne), cnt_zero_iff.2 (fun _ _ => rfl)]
    rfl
theorem cnt_pos {p : Nat → Bool} {v m : Nat} (hm : m < v) (hp : p m = true) : 0 < cnt p v := by
  rcases Nat.eq_zero_or_pos (cnt p v) with h | h
  · rw [cnt_zero_iff.1 h m hm] at hp; cases hp
  · exact h
/-- Neither chosen nor banned. -/
def und (c b : Nat) : Nat → Bool := fun g => !c.testBit g && !b.testBit g
/-- One part, and no loop. -/
def perf (e : Nat → Nat × Nat) (V E t : Nat) : Bool := decide (parts e V E t = 1 ∧ pop E t + 1 = V)
def sup (E c b t : Nat) : Bool := decide (∀ i, i < E → (c.testBit i = true → t.testBit i = true) ∧ (b.testBit i = true → t.testBit i = false))
/-- How many perfect ones have all that is chosen and nothing that is banned. -/
def trees (e : Nat → Nat × Nat) (V E c b : Nat) : Nat := cnt (fun t => sup E c b t && perf e V E t) (2 ^ E)
theorem sup_iff {E c b t : Nat} : sup E c b t = true ↔ ∀ i, i < E → (c.testBit i = true → t.testBit i = true) ∧ (b.testBit i = true → t.testBit i = false) := by unfold sup; rw [decide_eq_true_eq]
theorem sup_split {E c b g t : Nat} (hg : g < E) (hu : und c b g = true) : (sup E c b t).toNat = (sup E (setB c g true) b t).toNat + (sup E c (setB b g true) t).toNat := by
  simp only [und, Bool.and_eq_true, Bool.not_eq_true'] at hu
  have h1 : sup E (setB c g true) b t = (sup E c b t && t.testBit g) := by
    rw [Bool.eq_iff_iff, Bool.and_eq_true, sup_iff, sup_iff]
    simp only [testBit_setB]
    constructor
    · intro h
      refine ⟨fun i hi => ⟨fun hc => (h i hi).1 (by split <;> simp [hc]), (h i hi).2⟩, (h g hg).1 (by simp)⟩
    · rintro ⟨h, h2⟩ i hi
      refine ⟨fun hc => ?_, (h i hi).2⟩
      split at hc
      · rename_i e; rw [e]; exact h2
      · exact (h i hi).1 hc
  have h2 : sup E c (setB b g true) t = (sup E c b t && !t.testBit g) := by
    rw [Bool.eq_iff_iff, Bool.and_eq_true, sup_iff, sup_iff]
    simp only [testBit_setB, Bool.not_eq_true']
    constructor
    · intro h
      refine ⟨fun i hi => ⟨(h i hi).1, fun hc => (h i hi).2 (by split <;> simp [hc])⟩, (h g hg).2 (by simp)⟩
    · rintro ⟨h, h2⟩ i hi
      refine ⟨(h i hi).1, fun hc => ?_⟩
      split at hc
      · rename_i e; rw [e]; exact h2
      · exact (h i hi).2 hc
  rw [h1, h2]
  cases sup E c b t <;> cases t.testBit g <;> rfl
theorem trees_split {e : Nat → Nat × Nat} {V E c b g : Nat} (hg : g < E) (hu : und c b g = true) : trees e V E c b = trees e V E (setB c g true) b + trees e V E c (setB b g true) := by
  unfold trees
  refine cnt_add fun t ht => ?_
  have := sup_split (t := t) hg hu
  cases h1 : perf e V E t
  · simp
  · simpa using this
theorem perf_iff {e : Nat → Nat × Nat} {V E t : Nat} : perf e V E t = true ↔ parts e V E t = 1 ∧ pop E t + 1 = V := by unfold perf; rw [decide_eq_true_eq]
theorem perf_bridge {e : Nat → Nat × Nat} {V E t j : Nat} (hg : Gr e V E) (ht : t < 2 ^ E) (hp : perf e V E t = true) (hb : t.testBit j = true) : ¬ Cn e (setB t j false) (e j).1 (e j).2 := by
  rw [perf_iff] at hp
  exact bridge_of_forest hg ht (by omega) hb
/-- No tree holds a loop. -/
theorem trees_loop {e : Nat → Nat × Nat} {V E c b g : Nat} (hG : Gr e V E) (hc : c < 2 ^ E) (hg : g < E) (hu : und c b g = true) (hl : Cn e c (e g).1 (e g).2) : trees e V E (setB c g true) b = 0 := by
  simp only [und, Bool.and_eq_true, Bool.not_eq_true'] at hu
  unfold trees
  rw [cnt_zero_iff]
  intro t ht
  rw [Bool.and_eq_false_iff]
  cases hp : perf e V E t
  · exact .inr rfl
  · left
    rw [Bool.eq_false_iff]
    intro hs
    rw [sup_iff] at hs
    have hb : t.testBit g = true := (hs g hg).1 (setB_bit ..)
    refine perf_bridge hG ht hp hb (hl.mono fun i hi => ?_)
    have hne : i ≠ g := by rintro rfl; rw [hu.1] at hi; cases hi
    rw [setB_ne _ hne]
    exact (hs i (lt_of_testBit hc hi)).1 (by rw [setB_ne _ hne]; exact hi)
theorem dt_one : ∀ {r : Nat} {A : Nat → Nat → Int}, (∀ x y, x < r → y < r → A x y = dl x y) → dt r A = 1
  | 0, _, _ => rfl
  | r + 1, A, h => by
    rw [unit_row (t := r) (Nat.le_refl r) (fun c hc => h r c (by omega) (by omega))]
    refine dt_one fun x y hx hy => ?_
    simp only [er, ec, hx, hy, if_true]
    exact h x y (by omega) (by omega)
theorem lab_join {e : Nat → Nat × Nat} {E c g : Nat} (hc : c < 2 ^ E) (hg : g < E) (x : Nat) :
    lab e (setB c g true) E x = lq (lab e c E) (min (lab e c E (e g).1) (lab e c E (e g).2)) (max (lab e c E (e g).1) (lab e c E (e g).2)) x := by
  have hc' : setB c g true < 2 ^ E := setB_lt true hc hg
  have m : ∀ {x y}, Cn e c x y → Cn e (setB c g true) x y := fun h => h.mono fun i hi => by rw [testBit_setB]; split <;> simp [hi]
  have hk : Cn e (setB c g true) (e g).1 (e g).2 := Cn.edge (setB_bit ..)
  have c1 := m (lab_cn (e := e) hc (e g).1)
  have c2 := m (lab_cn (e := e) hc (e g).2)
  have cx := m (lab_cn (e := e) hc x)
  have hcn : Cn e (setB c g true) x (lq (lab e c E) (min (lab e c E (e g).1) (lab e c E (e g).2)) (max (lab e c E (e g).1) (lab e c E (e g).2)) x) := by
    unfold lq
    split
    · rename_i h
      rcases Nat.le_total (lab e c E (e g).1) (lab e c E (e g).2) with hle | hle
      · rw [Nat.max_eq_right hle] at h
        rw [Nat.min_eq_left hle]
        rw [h] at cx
        exact ((cx.trans c2.symm).trans hk.symm).trans c1
      · rw [Nat.max_eq_left hle] at h
        rw [Nat.min_eq_right hle]
        rw [h] at cx
        exact ((cx.trans c1.symm).trans hk).trans c2
    · exact cx
  have hle : ∀ z, Cn e (setB c g true) x z → lq (lab e c E) (min (lab e c E (e g).1) (lab e c E (e g).2)) (max (lab e c E (e g).1) (lab e c E (e g).2)) x ≤ z := by
    intro z hz
    rw [Cn_add] at hz
    unfold lq
    rcases hz with h | ⟨h1, h2⟩ | ⟨h1, h2⟩
    · have := lab_least hc h
      split
      · rename_i e1; omega
      · exact this
    · have e1 := (lab_iff hc _ _).2 h1
      have e2 := lab_least hc h2
      split
      · omega
      · rename_i e3; omega
    · have e1 := (lab_iff hc _ _).2 h1
      have e2 := lab_least hc h2
      split
      · omega
      · rename_i e3; omega
  have a := lab_least hc' hcn
  have b := hle _ (lab_cn hc' x)
  omega
/-- The matrix with all that is neither chosen nor banned. -/
def treeM (e : Nat → Nat × Nat) (E c b k : Nat) : Nat → Nat → Int := big e E (lab e c E) (lab e c E k) (und c b)
theorem und_ban (c b g : Nat) : und c (setB b g true) = uq (und c b) g := by
  funext h
  simp only [und, uq, testBit_setB]
  by_cases e : h = g
  · simp [e]
  · simp [e]
theorem und_choose (c b g : Nat) : und (setB c g true) b = uq (und c b) g := by
  funext h
  simp only [und, uq, testBit_setB]
  by_cases e : h = g
  · simp [e]
  · simp [e]
theorem treeM_split {e : Nat → Nat × Nat} {V E c b g k : Nat} (hG : Gr e V E) (hc : c < 2 ^ E) (hg : g < E) (hu : und c b g = true) (hk : k < V) (hl : ¬ Cn e c (e g).1 (e g).2) :
    dt V (treeM e E c b k) = dt V (treeM e E c (setB b g true) k) + dt V (treeM e E (setB c g true) b k) := by
  have hne : lab e c E (e g).1 ≠ lab e c E (e g).2 := fun h => hl ((lab_iff hc _ _).1 h)
  have q1 := lab_le e c E (e g).1
  have q2 := lab_le e c E (e g).2
  have q3 := (hG g hg).1
  have q4 := (hG g hg).2
  have hPQ : min (lab e c E (e g).1) (lab e c E (e g).2) ≠ max (lab e c E (e g).1) (lab e c E (e g).2) := by omega
  have hPP : min (lab e c E (e g).1) (lab e c E (e g).2) = lab e c E (e g).1 ∧ max (lab e c E (e g).1) (lab e c E (e g).2) = lab e c E (e g).2 ∨ min (lab e c E (e g).1) (lab e c E (e g).2) = lab e c E (e g).2 ∧ max (lab e c E (e g).1) (lab e c E (e g).2) = lab e c E (e g).1 := by omega
  have hlf : lab e (setB c g true) E = lq (lab e c E) (min (lab e c E (e g).1) (lab e c E (e g).2)) (max (lab e c E (e g).1) (lab e c E (e g).2)) := funext fun x => lab_join hc hg x
  unfold treeM
  rw [und_ban, und_choose, hlf]
  by_cases hr : lab e c E k = min (lab e c E (e g).1) (lab e c E (e g).2) ∨ lab e c E k = max (lab e c E (e g).1) (lab e c E (e g).2)
  · have hr' : lq (lab e c E) (min (lab e c E (e g).1) (lab e c E (e g).2)) (max (lab e c E (e g).1) (lab e c E (e g).2)) k = min (lab e c E (e g).1) (lab e c E (e g).2) := by
      unfold lq
      split
      · rfl
      · rcases hr with h | h
        · exact h
        · contradiction
    rw [hr']
    exact big_join_near (fun x => lab_lab e c E x) hg hu hPP hPQ (by omega) (by omega) hr
  · have hr' : lq (lab e c E) (min (lab e c E (e g).1) (lab e c E (e g).2)) (max (lab e c E (e g).1) (lab e c E (e g).2)) k = lab e c E k := by
      unfold lq
      rw [if_neg fun h => hr (.inr h)]
    rw [hr']
    exact big_join_far (fun x => lab_lab e c E x) hg hu hPP hPQ (by omega) (by omega) (fun h => hr (.inl h)) (fun h => hr (.inr h))
theorem treeM_loop {e : Nat → Nat × Nat} {V E c b g k : Nat} (hc : c < 2 ^ E) (hl : Cn e c (e g).1 (e g).2) : dt V (treeM e E c b k) = dt V (treeM e E c (setB b g true) k) := by
  refine dt_congr fun x y hx hy => ?_
  unfold treeM big sg
  congr 1
  refine sumTo_congr fun h hh => ?_
  rw [und_ban]
  unfold uq
  by_cases e1 : h = g
  · subst e1
    have : vg (lab e c E) (lab e c E k) (e h) x = 0 := by unfold vg; rw [(lab_iff hc _ _).2 hl]; split <;> omega
    rw [this]; simp
  · simp [e1]
theorem trees_det {e : Nat → Nat × Nat} {V E k : Nat} (hG : Gr e V E) (hk : k < V) : ∀ d c b, c < 2 ^ E → b < 2 ^ E → (∀ i, c.testBit i = true → b.testBit i = false) → pop E c + parts e V E c = V → cnt (und c b) E = d →
    dt V (treeM e E c b k) = (trees e V E c b : Int)
  | 0, c, b, hc, hb, hd, hf, h0 => by
    rw [cnt_zero_iff] at h0
    have hM : ∀ x y, treeM e E c b k x y = dg (lab e c E) (lab e c E k) x y := fun x y => by
      unfold treeM big sg
      rw [sumTo_zero fun i hi => by rw [h0 i hi]; rfl]; omega
    have hcb : ∀ i, i < E → (b.testBit i = !c.testBit i) := fun i hi => by
      have h1 := h0 i hi
      have h2 := hd i
      unfold und at h1
      cases a : c.testBit i <;> cases a2 : b.testBit i <;> simp_all
    have hN : trees e V E c b = (perf e V E c).toNat := by
      unfold trees
      rw [cnt_single hc (fun t ht hne => by
        rw [Bool.and_eq_false_iff]; left
        rw [Bool.eq_false_iff]
        intro hs
        rw [sup_iff] at hs
        apply hne
        apply Nat.eq_of_testBit_eq
        intro i
        by_cases hi : i < E
        · have := hs i hi
          have := hcb i hi
          cases a : c.testBit i <;> simp_all
        · rw [Nat.testBit_lt_two_pow (Nat.lt_of_lt_of_le ht (Nat.pow_le_pow_right (by decide) (by omega))), Nat.testBit_lt_two_pow (Nat.lt_of_lt_of_le hc (Nat.pow_le_pow_right (by decide) (by omega)))])]
      rw [show sup E c b c = true from sup_iff.2 fun i hi => ⟨id, fun h => by
        have := hcb i hi; rw [h] at this
        cases a : c.testBit i
        · rfl
        · rw [a] at this; exact absurd this (by decide)⟩, Bool.true_and]
    rw [hN]
    have hp : perf e V E c = decide (parts e V E c = 1) := by
      unfold perf
      rw [decide_eq_decide]
      omega
    have hkl := lab_le e c E k
    have hkk := lab_lab e c E k
    rw [hp]
    by_cases h1 : ∀ x, x < V → lab e c E x ≠ x ∨ x = lab e c E k
    · have : parts e V E c = 1 := by
        unfold parts
        rw [cnt_single (m := lab e c E k) (by omega) (fun x hx hne => by
          rcases h1 x hx with h | h
          · simpa using h
          · exact absurd h hne)]
        simp [hkk]
      rw [this, dt_one fun x y hx hy => by
        rw [hM]; unfold dg dl
        by_cases e1 : x = y
        · rw [if_pos ⟨e1, h1 x hx⟩, if_pos e1]
        · rw [if_neg (fun h => e1 h.1), if_neg e1]]
      rfl
    · have ⟨x, hx⟩ := Classical.not_forall.1 h1
      rw [Classical.not_imp, not_or, Classical.not_not] at hx
      obtain ⟨hxV, hx1, hx2⟩ := hx
      rw [dt_zero _ hxV fun y hy => by rw [hM]; unfold dg; exact if_neg fun h => h.2.elim (fun h => h hx1) hx2]
      have : parts e V E c ≠ 1 := by
        intro h
        unfold parts at h
        have h2 := cnt_one (p := fun x => lab e c E x == x) (q := fun z => (lab e c E z == z) && decide (z ≠ x)) hxV (by simp [hx1]) (by simp) (fun i hi hne => by simp [hne])
        have h3 := cnt_pos (p := fun z => (lab e c E z == z) && decide (z ≠ x)) (v := V) (m := lab e c E k) (by omega) (by simp [hkk, Ne.symm hx2])
        omega
      simp [this]
  | d + 1, c, b, hc, hb, hd, hf, h0 => by
    obtain ⟨g, hg, hu⟩ : ∃ g, g < E ∧ und c b g = true := by
      apply Classical.byContradiction
      intro h
      have : cnt (und c b) E = 0 := cnt_zero_iff.2 fun i hi => by
        rw [Bool.eq_false_iff]
        intro h2
        exact h ⟨i, hi, h2⟩
      omega
    have hu' := hu
    simp only [und, Bool.and_eq_true, Bool.not_eq_true'] at hu'
    have hcd : cnt (uq (und c b) g) E = d := by
      have := cnt_one (p := und c b) (q := uq (und c b) g) hg hu (by simp [uq]) (fun i hi hne => by simp [uq, hne])
      omega
    have hB := trees_det hG hk d c (setB b g true) hc (setB_lt true hb hg) (fun i hi => by
      rw [testBit_setB]
      split
      · rename_i e1; rw [e1, hu'.1] at hi; cases hi
      · exact hd i hi) hf (by rw [und_ban]; exact hcd)
    rw [trees_split hg hu]
    have hpa := parts_add (e := e) hc hg (hG g hg).1 (hG g hg).2
    by_cases hl : Cn e c (e g).1 (e g).2
    · rw [treeM_loop hc hl, hB, trees_loop hG hc hg hu hl, Nat.zero_add]
    · have hC := trees_det hG hk d (setB c g true) b (setB_lt true hc hg) hb (fun i hi => by
        rw [testBit_setB] at hi
        split at hi
        · rename_i e1; rw [e1]; exact hu'.2
        · exact hd i hi) (by rw [pop_setB hg hu'.1]; have := hpa.2 hl; omega) (by rw [und_choose]; exact hcd)
      rw [treeM_split hG hc hg hu hk hl, hB, hC]
      omega
def gridOk (w h : Int) : Bool := decide (1 ≤ w ∧ w ≤ 4 ∧ 1 ≤ h ∧ h ≤ 4)
theorem gridOk_iff {w h : Int} : gridOk w h = true ↔ 1 ≤ w ∧ w ≤ 4 ∧ 1 ≤ h ∧ h ≤ 4 := by simp [gridOk]
theorem grid_cases {w h : Int} (hg : gridOk w h = true) : (w = 1 ∨ w = 2 ∨ w = 3 ∨ w = 4) ∧ (h = 1 ∨ h = 2 ∨ h = 3 ∨ h = 4) := by
 rw [gridOk_iff] at hg
 omega
def cellsOf (w h : Int) : Int := if gridOk w h then w * h else 0
def eastOf (w h : Int) : Int := (w - 1) * h
def gapsOf (w h : Int) : Int := if gridOk w h then (w - 1) * h + w * (h - 1) else 0
theorem cellsOf_range (w h : Int) : 0 ≤ cellsOf w h ∧ cellsOf w h ≤ 16 := by
 unfold cellsOf
 split
 ·rename_i hg
  obtain ⟨h1 | h1 | h1 | h1, h2 | h2 | h2 | h2⟩ := grid_cases hg <;> subst h1 <;> subst h2 <;> decide
 ·omega
theorem gapsOf_range (w h : Int) : 0 ≤ gapsOf w h ∧ gapsOf w h ≤ 24 := by
 unfold gapsOf
 split
 ·rename_i hg
  obtain ⟨h1 | h1 | h1 | h1, h2 | h2 | h2 | h2⟩ := grid_cases hg <;> subst h1 <;> subst h2 <;> decide
 ·omega
theorem pow_le {n : Int} (h0 : 0 ≤ n) (h1 : n ≤ 24) : (1 : Int) ≤ 2 ^ n.toNat ∧ (2 : Int) ^ n.toNat ≤ 16777216 := by
 obtain ⟨m, rfl⟩ := Int.eq_ofNat_of_zero_le h0
 have : m ≤ 24 := by omega
 clear h0 h1
 revert m
 decide +kernel
def isCellI (w h c : Int) : Bool := decide (0 ≤ c ∧ c < cellsOf w h)
def nbI (w h c d : Int) : Int :=
 if 0 ≤ c ∧ c < cellsOf w h then
  (if d = 0 ∧ 0 < c / w then c - w else if d = 1 ∧ c % w < w - 1 then c + 1 else if d = 2 ∧ c / w < h - 1 then c + w else if d = 3 ∧ 0 < c % w then c - 1 else -1)
 else -1
theorem cellsOf_valid {w h c : Int} (h1 : 0 ≤ c) (h2 : c < cellsOf w h) : gridOk w h = true ∧ cellsOf w h = w * h := by
 unfold cellsOf at *
 by_cases hg : gridOk w h = true
 ·exact ⟨hg, if_pos hg⟩
 ·rw [if_neg hg] at h2; omega
def gapsN (w h : Int) : Nat := (gapsOf w h).toNat
theorem gapsN_le (w h : Int) : gapsN w h ≤ 24 := by have := gapsOf_range w h; unfold gapsN; omega
theorem gapsN_cast (w h : Int) : ((gapsN w h : Nat) : Int) = gapsOf w h := by have := gapsOf_range w h; unfold gapsN; omega
def mazeOk (w h o : Int) : Bool := gridOk w h && decide (0 ≤ o ∧ o < 2 ^ gapsN w h)
theorem mazeOk_iff {w h o : Int} : mazeOk w h o = true ↔ gridOk w h = true ∧ ∃ n : Nat, o = (n : Int) ∧ n < 2 ^ gapsN w h := by
 unfold mazeOk
 simp only [Bool.and_eq_true, decide_eq_true_eq]
 constructor
 ·rintro ⟨h1, h2, h3⟩
  obtain ⟨n, rfl⟩ := Int.eq_ofNat_of_zero_le h2
  exact ⟨h1, n, rfl, by exact_mod_cast h3⟩
 ·rintro ⟨h1, n, rfl, h3⟩
  exact ⟨h1, by omega, by exact_mod_cast h3⟩
theorem open_small {w h : Int} {n : Nat} (hn : n < 2 ^ gapsN w h) : n < 16777216 := Nat.lt_of_lt_of_le hn (Nat.pow_le_pow_right (by decide) (gapsN_le w h))
def openI (n : Nat) (g : Int) : Bool := decide (0 ≤ g) && n.testBit g.toNat
theorem openI_nat' (n j : Nat) : openI n (j : Int) = n.testBit j := by simp [openI]
def isGapI (w h g : Int) : Bool := decide (0 ≤ g ∧ g < gapsOf w h)
theorem gapsOf_valid {w h g : Int} (h1 : 0 ≤ g) (h2 : g < gapsOf w h) : gridOk w h = true ∧ gapsOf w h = (w - 1) * h + w * (h - 1) := by
 unfold gapsOf at *
 by_cases hg : gridOk w h = true
 ·exact ⟨hg, if_pos hg⟩
 ·rw [if_neg hg] at h2; omega
def gapI (w h c d : Int) : Int :=
 if nbI w h c d < 0 then -1 else if d = 1 ∨ d = 3 then (min c (nbI w h c d)) / w * (w - 1) + (min c (nbI w h c d)) % w else (w - 1) * h + min c (nbI w h c d)
def endsI (w h g : Int) : Int × Int :=
 if 0 ≤ g ∧ g < gapsOf w h then (if g < (w - 1) * h then (g / (w - 1) * w + g % (w - 1), g / (w - 1) * w + g % (w - 1) + 1) else (g - (w - 1) * h, g - (w - 1) * h + w)) else (-1, -1)
theorem nb_dir {w h c d : Int} (hn : 0 ≤ nbI w h c d) : (d = 0 ∨ d = 1 ∨ d = 2 ∨ d = 3) ∧ 0 ≤ c ∧ c < cellsOf w h := by
 unfold nbI at hn
 by_cases hc : 0 ≤ c ∧ c < cellsOf w h
 ·rw [if_pos hc] at hn
  refine ⟨?_, hc⟩
  repeat' split at hn
  all_goals omega
 ·rw [if_neg hc] at hn
  omega
theorem grid_nat {w h : Int} (hg : gridOk w h = true) : ∃ W H : Nat, w = W ∧ h = H ∧ 1 ≤ W ∧ W < 5 ∧ 1 ≤ H ∧ H < 5 := by
 have := gridOk_iff.1 hg
 exact ⟨w.toNat, h.toNat, by omega, by omega, by omega, by omega, by omega, by omega⟩
def StepFacts (w h c d : Int) : Prop :=
 nbI w h c d = -1 ∧ gapI w h c d = -1 ∨
 (0 ≤ nbI w h c d ∧ nbI w h c d < cellsOf w h ∧ nbI w h c d ≠ c ∧ 0 ≤ gapI w h c d ∧ gapI w h c d < gapsOf w h ∧
  endsI w h (gapI w h c d) = (min c (nbI w h c d), max c (nbI w h c d)) ∧ nbI w h (nbI w h c d) ((d + 2) % 4) = c ∧ gapI w h (nbI w h c d) ((d + 2) % 4) = gapI w h c d)
instance (w h c d : Int) : Decidable (StepFacts w h c d) := by unfold StepFacts; infer_instance
theorem step_facts_all : ∀ W : Nat, W < 5 → ∀ H : Nat, H < 5 → ∀ c : Nat, c < 16 → ∀ d : Nat, d < 4 → StepFacts W H c d := by decide +kernel
theorem step_facts (w h c d : Int) : StepFacts w h c d := by
 by_cases hn : 0 ≤ nbI w h c d
 ·obtain ⟨hd, h0, h1⟩ := nb_dir hn
  obtain ⟨hg, hcw⟩ := cellsOf_valid h0 h1
  obtain ⟨W, H, rfl, rfl, hW1, hW2, hH1, hH2⟩ := grid_nat hg
  have hcr := cellsOf_range (W : Int) (H : Int)
  have := step_facts_all W hW2 H hH2 c.toNat (by omega) d.toNat (by omega)
  rwa [show ((c.toNat : Nat) : Int) = c by omega, show ((d.toNat : Nat) : Int) = d by omega] at this
 ·have hm : nbI w h c d = -1 := by
   unfold nbI at *
   by_cases hc : 0 ≤ c ∧ c < cellsOf w h
   ·rw [if_pos hc] at *
    obtain ⟨hg, hcw⟩ := cellsOf_valid hc.1 hc.2
    have hgr := gridOk_iff.1 hg
    have hyw : c / w * w + c % w = c := by rw [Int.mul_comm]; exact Int.mul_ediv_add_emod c w
    have hx0 : 0 ≤ c % w := Int.emod_nonneg _ (by omega)
    repeat' split
    ·rename_i hh
     rw [if_pos hh] at hn
     have : w ≤ c := by
      have : w * 1 ≤ w * (c / w) := Int.mul_le_mul_of_nonneg_left (by omega) (by omega)
      rw [Int.mul_comm (c / w)] at hyw
      omega
     omega
    ·rename_i h1 hh
     rw [if_neg h1, if_pos hh] at hn
     omega
    ·rename_i h1 h2 hh
     rw [if_neg h1, if_neg h2, if_pos hh] at hn
     omega
    ·rename_i h1 h2 h3 hh
     rw [if_neg h1, if_neg h2, if_neg h3, if_pos hh] at hn
     have : 1 ≤ c := by
      have : 0 ≤ c / w * w := Int.mul_nonneg (Int.ediv_nonneg hc.1 (by omega)) (by omega)
      omega
     omega
    ·rfl
   ·rw [if_neg hc]
  refine .inl ⟨hm, ?_⟩
  unfold gapI
  rw [if_pos (by omega)]
def EndFacts (w h g : Int) : Prop :=
 0 ≤ g ∧ g < gapsOf w h → 0 ≤ (endsI w h g).1 ∧ (endsI w h g).1 < (endsI w h g).2 ∧ (endsI w h g).2 < cellsOf w h ∧
  (nbI w h (endsI w h g).1 1 = (endsI w h g).2 ∧ gapI w h (endsI w h g).1 1 = g ∨ nbI w h (endsI w h g).1 2 = (endsI w h g).2 ∧ gapI w h (endsI w h g).1 2 = g)
instance (w h g : Int) : Decidable (EndFacts w h g) := by unfold EndFacts; infer_instance
theorem end_facts_all : ∀ W : Nat, W < 5 → ∀ H : Nat, H < 5 → ∀ g : Nat, g < 24 → EndFacts W H g := by decide +kernel
theorem end_facts {w h g : Int} (h0 : 0 ≤ g) (h1 : g < gapsOf w h) : 0 ≤ (endsI w h g).1 ∧ (endsI w h g).1 < (endsI w h g).2 ∧ (endsI w h g).2 < cellsOf w h ∧
  (nbI w h (endsI w h g).1 1 = (endsI w h g).2 ∧ gapI w h (endsI w h g).1 1 = g ∨ nbI w h (endsI w h g).1 2 = (endsI w h g).2 ∧ gapI w h (endsI w h g).1 2 = g) := by
 obtain ⟨hg, _⟩ := gapsOf_valid h0 h1
 obtain ⟨W, H, rfl, rfl, hW1, hW2, hH1, hH2⟩ := grid_nat hg
 have hr := gapsOf_range (W : Int) (H : Int)
 have := end_facts_all W hW2 H hH2 g.toNat (by omega)
 rw [show ((g.toNat : Nat) : Int) = g by omega] at this
 exact this ⟨h0, h1⟩
theorem nb_lt {w h c d : Int} : nbI w h c d = -1 ∨ 0 ≤ nbI w h c d ∧ nbI w h c d < cellsOf w h := by
 rcases step_facts w h c d with h1 | h1
 ·exact .inl h1.1
 ·exact .inr ⟨h1.1, h1.2.1⟩
def stepI (w h : Int) (n : Nat) (c d : Int) : Int := if openI n (gapI w h c d) then nbI w h c d else -1
theorem step_lt {w h c d : Int} {n : Nat} : stepI w h n c d = -1 ∨ 0 ≤ stepI w h n c d ∧ stepI w h n c d < cellsOf w h := by
 unfold stepI
 split
 ·exact nb_lt
 ·exact .inl rfl
def upd (D : Nat → Int) (y : Nat) (v : Int) : Nat → Int := fun c => if c = y then v else D c
/-- One direction of one cell. -/
def relax (s : Nat → Nat → Int) (x d : Nat) (S : (Nat → Int) × List Nat) : (Nat → Int) × List Nat :=
  if 0 ≤ s x d ∧ S.1 (s x d).toNat < 0 then (upd S.1 (s x d).toNat (S.1 x + 1), S.2 ++ [(s x d).toNat]) else S
def bround (s : Nat → Nat → Int) (x : Nat) (S : (Nat → Int) × List Nat) : (Nat → Int) × List Nat := relax s x 3 (relax s x 2 (relax s x 1 (relax s x 0 S)))
def bfsF (s : Nat → Nat → Int) : Nat → (Nat → Int) × List Nat → Nat → (Nat → Int)
  | 0, S, _ => S.1
  | f + 1, S, i => match S.2[i]? with
    | none => S.1
    | some x => bfsF s f (bround s x S) (i + 1)
/-- The distances from a cell, or -1. -/
def bfsD (s : Nat → Nat → Int) (v src : Nat) : Nat → Int := bfsF s (v + 1) (upd (fun _ => -1) src 0, [src]) 0
/-- Steps stay among v cells. -/
def Rng (s : Nat → Nat → Int) (v : Nat) : Prop := ∀ x d, x < v → d < 4 → s x d = -1 ∨ (0 ≤ s x d ∧ s x d < (v : Int))

structure BInv (s : Nat → Nat → Int) (v src : Nat) (S : (Nat → Int) × List Nat) (i : Nat) (m : Nat) : Prop where
  src0 : S.1 src = 0
  zero : ∀ c, S.1 c = 0 → c = src
  srcq : src ∈ S.2
  inr : ∀ c ∈ S.2, c < v
  nodup : S.2.Nodup
  neg : ∀ c, S.1 c = -1 ∨ 0 ≤ S.1 c
  mem : ∀ c, 0 ≤ S.1 c ↔ c ∈ S.2
  sorted : S.2.Pairwise (fun a b => S.1 a ≤ S.1 b)
  top : ∀ x, S.2[i]? = some x → ∀ c ∈ S.2, S.1 c ≤ S.1 x + 1
  done : ∀ j x, S.2[j]? = some x → ∀ d, d < 4 → (j < i ∨ (j = i ∧ d < m)) → 0 ≤ s x d → 0 ≤ S.1 (s x d).toNat ∧ S.1 (s x d).toNat ≤ S.1 x + 1
  pred : ∀ c ∈ S.2, c = src ∨ ∃ c' d, c' ∈ S.2 ∧ d < 4 ∧ s c' d = (c : Int) ∧ S.1 c = S.1 c' + 1
theorem BInv.start {s : Nat → Nat → Int} {v src : Nat} (h : src < v) : BInv s v src (upd (fun _ => -1) src 0, [src]) 0 0 where
  src0 := by simp [upd]
  zero := fun c => by simp only [upd]; split <;> simp_all
  srcq := by simp
  inr := by simpa using h
  nodup := by simp
  neg := fun c => by simp only [upd]; split <;> simp
  mem := fun c => by
    simp only [upd, List.mem_singleton]
    split
    · rename_i e; simp [e]
    · rename_i e; simp [e]
  sorted := by simp
  top := fun x hx c hc => by
    simp at hx hc
    subst hx hc
    omega
  done := fun j x hx d hd hj => by omega
  pred := fun c hc => .inl (by simpa using hc)
theorem BInv.relax {s : Nat → Nat → Int} {v src : Nat} (hs : Rng s v) {S : (Nat → Int) × List Nat} {i m x : Nat} (hm : m < 4) (hx : S.2[i]? = some x) (I : BInv s v src S i m) :
    BInv s v src (relax s x m S) i (m + 1) ∧ (relax s x m S).2[i]? = some x := by
  have hxq : x ∈ S.2 := List.mem_of_getElem? hx
  have hi : i < S.2.length := by
    rcases Nat.lt_or_ge i S.2.length with h | h
    · exact h
    · rw [List.getElem?_eq_none h] at hx; cases hx
  have hxv := I.inr x hxq
  have hx0 := (I.mem x).2 hxq
  unfold Go.Proofs.Ytoohcdfokejkdaa.P.relax
  by_cases hc : 0 ≤ s x m ∧ S.1 (s x m).toNat < 0
  · rw [if_pos hc]
    obtain ⟨y, hy⟩ : ∃ y : Nat, s x m = y := ⟨(s x m).toNat, by omega⟩
    have hyv : y < v := by have := hs x m hxv hm; omega
    rw [hy] at hc ⊢
    simp only [Int.toNat_natCast] at hc ⊢
    have hyq : y ∉ S.2 := fun h => by have := (I.mem y).2 h; omega
    have keep : ∀ c, c ∈ S.2 → upd S.1 y (S.1 x + 1) c = S.1 c := by
      intro c h
      unfold upd
      rw [if_neg]
      rintro rfl
      exact hyq h
    have uy : upd S.1 y (S.1 x + 1) y = S.1 x + 1 := by unfold upd; rw [if_pos rfl]
    have idx : ∀ j z, (S.2 ++ [y])[j]? = some z → S.2[j]? = some z ∨ (j = S.2.length ∧ z = y) := by
      intro j z h
      rcases Nat.lt_or_ge j S.2.length with h1 | h1
      · rw [List.getElem?_append_left h1] at h; exact .inl h
      · rw [List.getElem?_append_right h1] at h
        have : j - S.2.length = 0 := by
          rcases Nat.eq_zero_or_pos (j - S.2.length) with h2 | h2
          · exact h2
          · rw [List.getElem?_eq_none (by simp only [List.length_singleton]; omega)] at h; cases h
        rw [this] at h
        simp at h
        exact .inr ⟨by omega, h.symm⟩
    have I0 : ∀ c, (upd S.1 y (S.1 x + 1), S.2 ++ [y]).1 c = 0 → c = src := by
      intro c
      show upd _ _ _ c = 0 → _
      unfold upd
      split
      · intro h; omega
      · exact I.zero c
    refine ⟨{ src0 := ?_, zero := I0, srcq := ?_, inr := ?_, nodup := ?_, neg := ?_, mem := ?_, sorted := ?_, top := ?_, done := ?_, pred := ?_ }, by rw [List.getElem?_append_left hi]; exact hx⟩
    · show upd _ _ _ src = 0
      rw [keep _ I.srcq]; exact I.src0
    · exact List.mem_append_left _ I.srcq
    · intro c hcq
      rcases List.mem_append.1 hcq with h | h
      · exact I.inr c h
      · simp at h; omega
    · rw [List.nodup_append]
      refine ⟨I.nodup, by simp, ?_⟩
      intro a ha b hb hab
      simp at hb
      subst hab hb
      exact hyq ha
    · intro c
      show upd _ _ _ c = -1 ∨ 0 ≤ upd _ _ _ c
      by_cases e : c = y
      · subst e; rw [uy]; omega
      · rw [show upd S.1 y (S.1 x + 1) c = S.1 c from if_neg e]; exact I.neg c
    · intro c
      rw [List.mem_append, List.mem_singleton]
      show 0 ≤ upd _ _ _ c ↔ _
      unfold upd
      by_cases e : c = y
      · rw [if_pos e]; exact ⟨fun _ => .inr e, fun _ => by omega⟩
      · rw [if_neg e, I.mem]; simp [e]
    · rw [List.pairwise_append]
      refine ⟨I.sorted.imp_of_mem fun {a b} ha hb h => ?_, by simp, ?_⟩
      · show upd _ _ _ a ≤ upd _ _ _ b
        rw [keep a ha, keep b hb]; exact h
      · intro a ha b hb
        simp at hb
        subst hb
        show upd _ _ _ a ≤ upd _ _ _ b
        rw [keep a ha, uy]
        exact I.top x hx a ha
    · intro z hz c hcq
      rw [List.getElem?_append_left hi, hx] at hz
      obtain rfl := Option.some.inj hz
      show upd _ _ _ c ≤ upd _ _ _ x + 1
      rw [keep x hxq]
      rcases List.mem_append.1 hcq with h | h
      · rw [keep c h]; exact I.top x hx c h
      · simp at h; subst h; rw [uy]; omega
    · intro j z hz d hd hj h0
      rcases idx j z hz with h | ⟨h, _⟩
      · have hzq : z ∈ S.2 := List.mem_of_getElem? h
        show 0 ≤ upd _ _ _ _ ∧ upd _ _ _ _ ≤ upd _ _ _ z + 1
        rw [keep z hzq]
        by_cases e : j = i ∧ d = m
        · obtain ⟨rfl, rfl⟩ := e
          rw [hx] at h
          obtain rfl := Option.some.inj h
          rw [hy, Int.toNat_natCast, uy]
          omega
        · have := I.done j z h d hd (by omega) h0
          have h1 := (I.mem _).1 this.1
          rw [keep _ h1]
          exact this
      · omega
    · intro c hcq
      rcases List.mem_append.1 hcq with h | h
      · rcases I.pred c h with h1 | ⟨c', d, h1, h2, h3, h4⟩
        · exact .inl h1
        · refine .inr ⟨c', d, List.mem_append_left _ h1, h2, h3, ?_⟩
          show upd _ _ _ c = upd _ _ _ c' + 1
          rw [keep c h, keep c' h1]; exact h4
      · simp at h
        subst h
        refine .inr ⟨x, m, List.mem_append_left _ hxq, hm, hy, ?_⟩
        show upd _ _ _ c = upd _ _ _ x + 1
        rw [uy, keep x hxq]
  · rw [if_neg hc]
    refine ⟨{ I with done := ?_ }, hx⟩
    intro j z hz d hd hj h0
    by_cases e : j = i ∧ d = m
    · obtain ⟨rfl, rfl⟩ := e
      rw [hx] at hz
      obtain rfl := Option.some.inj hz
      have h1 : 0 ≤ S.1 (s x d).toNat := by
        have := I.neg (s x d).toNat
        omega
      exact ⟨h1, I.top x hx _ ((I.mem _).1 h1)⟩
    · exact I.done j z hz d hd (by omega) h0
theorem BInv.next {s : Nat → Nat → Int} {v src : Nat} {S : (Nat → Int) × List Nat} {i x : Nat} (hx : S.2[i]? = some x) (I : BInv s v src S i 4) : BInv s v src S (i + 1) 0 :=
  { I with
    top := fun z hz c hc => by
      have h1 := I.top x hx c hc
      have h2 := List.pairwise_iff_getElem.1 I.sorted i (i + 1)
      obtain ⟨a, rfl⟩ := List.getElem?_eq_some_iff.1 hx
      obtain ⟨b, rfl⟩ := List.getElem?_eq_some_iff.1 hz
      have := h2 a b (by omega)
      omega
    done := fun j z hz d hd hj h0 => I.done j z hz d hd (by omega) h0 }
theorem BInv.round {s : Nat → Nat → Int} {v src : Nat} (hs : Rng s v) {S : (Nat → Int) × List Nat} {i x : Nat} (hx : S.2[i]? = some x) (I : BInv s v src S i 0) : BInv s v src (bround s x S) (i + 1) 0 := by
  obtain ⟨I1, h1⟩ := I.relax hs (by omega) hx
  obtain ⟨I2, h2⟩ := I1.relax hs (by omega) h1
  obtain ⟨I3, h3⟩ := I2.relax hs (by omega) h2
  obtain ⟨I4, h4⟩ := I3.relax hs (by omega) h3
  exact I4.next h4
theorem nodup_len {v : Nat} : ∀ {q : List Nat}, q.Nodup → (∀ c ∈ q, c < v) → q.length ≤ v := by
  induction v with
  | zero =>
    intro q _ h
    cases q with
    | nil => simp
    | cons a l => have := h a (by simp); omega
  | succ v ih =>
    intro q hn h
    have h1 := ih (q := q.erase v) (hn.erase v) (fun c hc => by
      have h1 := h c (List.mem_of_mem_erase hc)
      have : c ≠ v := by rintro rfl; exact absurd hc (List.Nodup.not_mem_erase hn)
      omega)
    have h2 := List.length_erase (a := v) (l := q)
    split at h2 <;> omega
theorem BInv.len {s : Nat → Nat → Int} {v src : Nat} {S : (Nat → Int) × List Nat} {i m : Nat} (I : BInv s v src S i m) : S.2.length ≤ v := nodup_len I.nodup I.inr
/-- What distances are. -/
structure Dist (s : Nat → Nat → Int) (v src : Nat) (D : Nat → Int) : Prop where
  src0 : D src = 0
  zero : ∀ c, D c = 0 → c = src
  neg : ∀ c, D c = -1 ∨ 0 ≤ D c
  inr : ∀ c, 0 ≤ D c → c < v
  lip : ∀ x d, d < 4 → 0 ≤ D x → 0 ≤ s x d → 0 ≤ D (s x d).toNat ∧ D (s x d).toNat ≤ D x + 1
  pred : ∀ c, 0 < D c → ∃ c' d, d < 4 ∧ s c' d = (c : Int) ∧ 0 ≤ D c' ∧ D c = D c' + 1
theorem BInv.dist {s : Nat → Nat → Int} {v src : Nat} {S : (Nat → Int) × List Nat} {i : Nat} (hi : S.2[i]? = none) (I : BInv s v src S i 0) : Dist s v src S.1 where
  src0 := I.src0
  zero := I.zero
  neg := I.neg
  inr := fun c h => I.inr c ((I.mem c).1 h)
  lip := fun x d hd hx h0 => by
    obtain ⟨j, hj⟩ := List.mem_iff_getElem?.1 ((I.mem x).1 hx)
    refine I.done j x hj d hd (.inl ?_) h0
    rcases Nat.lt_or_ge j i with h | h
    · exact h
    · rw [List.getElem?_eq_none_iff] at hi
      rw [List.getElem?_eq_none (by omega)] at hj
      cases hj
  pred := fun c h => by
    rcases I.pred c ((I.mem c).1 (by omega)) with h1 | ⟨c', d, h1, h2, h3, h4⟩
    · rw [h1, I.src0] at h; omega
    · exact ⟨c', d, h2, h3, (I.mem c').2 h1, h4⟩
theorem bfsF_dist {s : Nat → Nat → Int} {v src : Nat} (hs : Rng s v) : ∀ (f : Nat) (S : (Nat → Int) × List Nat) (i : Nat), BInv s v src S i 0 → i ≤ S.2.length → v + 1 - i ≤ f → Dist s v src (bfsF s f S i)
  | 0, S, i, I, hi, hf => by have := I.len; omega
  | f + 1, S, i, I, hi, hf => by
    simp only [bfsF]
    cases h : S.2[i]? with
    | none => exact I.dist h
    | some x =>
      have I2 := I.round hs h
      have hl : S.2.length ≤ (bround s x S).2.length := by
        have h1 : ∀ m T, T.2.length ≤ (Go.Proofs.Ytoohcdfokejkdaa.P.relax s x m T).2.length := by
          intro m T
          unfold Go.Proofs.Ytoohcdfokejkdaa.P.relax
          split <;> simp
        exact Nat.le_trans (h1 0 S) (Nat.le_trans (h1 1 _) (Nat.le_trans (h1 2 _) (h1 3 _)))
      have h2 := (List.getElem?_eq_some_iff.1 h).1
      exact bfsF_dist hs f _ (i + 1) I2 (by omega) (by omega)
theorem bfsD_dist {s : Nat → Nat → Int} {v src : Nat} (hs : Rng s v) (h : src < v) : Dist s v src (bfsD s v src) := bfsF_dist hs _ _ 0 (BInv.start h) (by simp) (by omega)
/-- Steps are the edges of n. -/
structure Net (s : Nat → Nat → Int) (e : Nat → Nat × Nat) (v n : Nat) : Prop where
  rng : Rng s v
  edge : ∀ x d, x < v → d < 4 → 0 ≤ s x d → ∃ k, n.testBit k = true ∧ (e k = (x, (s x d).toNat) ∨ e k = ((s x d).toNat, x))
  lt : ∀ k, n.testBit k = true → (e k).1 < v ∧ (e k).2 < v
  fwd : ∀ k, n.testBit k = true → ∃ d, d < 4 ∧ s (e k).1 d = ((e k).2 : Int)
  bwd : ∀ k, n.testBit k = true → ∃ d, d < 4 ∧ s (e k).2 d = ((e k).1 : Int)
theorem Dist.cn {s : Nat → Nat → Int} {e : Nat → Nat × Nat} {v n src : Nat} {D : Nat → Int} (N : Net s e v n) (I : Dist s v src D) (c : Nat) : 0 ≤ D c ↔ Cn e n src c := by
  constructor
  · intro h
    obtain ⟨m, hm⟩ : ∃ m : Nat, D c = m := ⟨(D c).toNat, by omega⟩
    clear h
    induction m using Nat.strongRecOn generalizing c with
    | _ m ih =>
      by_cases h0 : 0 < D c
      · obtain ⟨c', d, hd, h1, h2, h3⟩ := I.pred c h0
        have := ih (D c').toNat (by omega) c' (by omega)
        obtain ⟨k, hk, hk2⟩ := N.edge c' d (I.inr _ h2) hd (by omega)
        rw [h1] at hk2
        simp only [Int.toNat_natCast] at hk2
        rcases hk2 with h | h
        · have e1 := Cn.edge (e := e) hk
          rw [h] at e1
          exact this.trans e1
        · have e1 := Cn.edge' (e := e) hk
          rw [h] at e1
          exact this.trans e1
      · rw [I.zero c (by omega)]
        exact .refl _
  · intro h
    induction h with
    | refl => rw [I.src0]; omega
    | fwd k hk _ ih =>
      obtain ⟨d, hd, h1⟩ := N.fwd k hk
      have := I.lip _ d hd ih (by omega)
      rw [h1] at this
      simpa using this.1
    | bwd k hk _ ih =>
      obtain ⟨d, hd, h1⟩ := N.bwd k hk
      have := I.lip _ d hd ih (by omega)
      rw [h1] at this
      simpa using this.1
def cellsN (w h : Int) : Nat := (cellsOf w h).toNat
theorem cellsN_cast (w h : Int) : ((cellsN w h : Nat) : Int) = cellsOf w h := by have := cellsOf_range w h; unfold cellsN; omega
theorem cellsN_le (w h : Int) : cellsN w h ≤ 16 := by have := cellsOf_range w h; unfold cellsN; omega
def ends (w h : Int) (g : Nat) : Nat × Nat := ((endsI w h g).1.toNat, (endsI w h g).2.toNat)
def st (w h : Int) (n : Nat) (c d : Nat) : Int := stepI w h n c d
theorem ends_facts {w h : Int} {g : Nat} (hg : g < gapsN w h) : endsI w h g = (((ends w h g).1 : Int), ((ends w h g).2 : Int)) ∧ (ends w h g).1 < (ends w h g).2 ∧ (ends w h g).2 < cellsN w h := by
 have hc := gapsN_cast w h
 have hc2 := cellsN_cast w h
 obtain ⟨h1, h2, h3, _⟩ := end_facts (w := w) (h := h) (g := g) (by omega) (by omega)
 unfold ends
 refine ⟨?_, by simp only; omega, by simp only; omega⟩
 apply Prod.ext
 ·simp only; omega
 ·simp only; omega
theorem gr_grid (w h : Int) : Gr (ends w h) (cellsN w h) (gapsN w h) := fun g hg => by
 have := ends_facts hg
 omega
theorem step_open {w h : Int} {n : Nat} {c d : Int} (hn : n < 2 ^ gapsN w h) (h0 : 0 ≤ stepI w h n c d) : ∃ g : Nat, g < gapsN w h ∧ gapI w h c d = g ∧ n.testBit g = true ∧ stepI w h n c d = nbI w h c d ∧ endsI w h g = (min c (nbI w h c d), max c (nbI w h c d)) := by
 have hc := gapsN_cast w h
 unfold stepI at *
 by_cases ho : openI n (gapI w h c d) = true
 ·rw [if_pos ho] at *
  rcases step_facts w h c d with ⟨h1, _⟩ | ⟨h1, h2, h3, h4, h5, h6, _⟩
  ·omega
  ·refine ⟨(gapI w h c d).toNat, by omega, by omega, ?_, rfl, ?_⟩
   ·unfold openI at ho
    simp only [Bool.and_eq_true] at ho
    exact ho.2
   ·rw [show (((gapI w h c d).toNat : Nat) : Int) = gapI w h c d by omega]; exact h6
 ·rw [if_neg ho] at h0; omega
theorem net_grid {w h : Int} {n : Nat} (hn : n < 2 ^ gapsN w h) : Net (st w h n) (ends w h) (cellsN w h) n where
 rng := fun x d _ _ => by
  have := cellsN_cast w h
  unfold st
  rcases step_lt (w := w) (h := h) (c := x) (d := d) (n := n) with h1 | h1
  ·exact .inl h1
  ·exact .inr (by omega)
 edge := fun x d hx hd h0 => by
  unfold st at *
  obtain ⟨g, h1, h2, h3, h4, h5⟩ := step_open hn h0
  refine ⟨g, h3, ?_⟩
  unfold ends
  rw [h5, h4]
  rw [h4] at h0
  rcases Int.le_total x (nbI w h x d) with hl | hl
  ·left
   rw [Int.min_eq_left hl, Int.max_eq_right hl]; rfl
  ·right
   rw [Int.min_eq_right hl, Int.max_eq_left hl]; rfl
 lt := fun k hk => by
  have := ends_facts (lt_of_testBit hn hk)
  omega
 fwd := fun k hk => by
  have hkg := lt_of_testBit hn hk
  have hc := gapsN_cast w h
  obtain ⟨e1, e2, e3⟩ := ends_facts hkg
  obtain ⟨_, _, _, h4⟩ := end_facts (w := w) (h := h) (g := k) (by omega) (by omega)
  rw [e1] at h4
  simp only at h4
  have ho : openI n (k : Int) = true := by unfold openI; simp [hk]
  rcases h4 with ⟨a, b⟩ | ⟨a, b⟩
  ·exact ⟨1, by omega, by unfold st stepI; rw [show ((1 : Nat) : Int) = 1 from rfl, b, if_pos ho, a]⟩
  ·exact ⟨2, by omega, by unfold st stepI; rw [show ((2 : Nat) : Int) = 2 from rfl, b, if_pos ho, a]⟩
 bwd := fun k hk => by
  have hkg := lt_of_testBit hn hk
  have hc := gapsN_cast w h
  obtain ⟨e1, e2, e3⟩ := ends_facts hkg
  obtain ⟨_, _, _, h4⟩ := end_facts (w := w) (h := h) (g := k) (by omega) (by omega)
  rw [e1] at h4
  simp only at h4
  have ho : openI n (k : Int) = true := by unfold openI; simp [hk]
  rcases h4 with ⟨a, b⟩ | ⟨a, b⟩
  ·rcases step_facts w h (ends w h k).1 1 with ⟨q, _⟩ | ⟨q1, q2, q3, q4, q5, q6, q7, q8⟩
   ·omega
   ·rw [a] at q7 q8
    exact ⟨3, by omega, by unfold st stepI; rw [show ((3 : Nat) : Int) = (1 + 2) % 4 from rfl, q8, b, if_pos ho, q7]⟩
  ·rcases step_facts w h (ends w h k).1 2 with ⟨q, _⟩ | ⟨q1, q2, q3, q4, q5, q6, q7, q8⟩
   ·omega
   ·rw [a] at q7 q8
    exact ⟨0, by omega, by unfold st stepI; rw [show ((0 : Nat) : Int) = (2 + 2) % 4 from rfl, q8, b, if_pos ho, q7]⟩
def distN (w h : Int) (n s : Nat) : Nat → Int := bfsD (st w h n) (cellsN w h) s
theorem distN_dist {w h : Int} {n s : Nat} (hn : n < 2 ^ gapsN w h) (hs : s < cellsN w h) : Dist (st w h n) (cellsN w h) s (distN w h n s) := bfsD_dist (net_grid hn).rng hs
theorem distN_cn {w h : Int} {n s : Nat} (hn : n < 2 ^ gapsN w h) (hs : s < cellsN w h) (c : Nat) : 0 ≤ distN w h n s c ↔ Cn (ends w h) n s c := (distN_dist hn hs).cn (net_grid hn) c
theorem filter_head {p : Nat → Bool} {m v : Nat} (hm : m < v) (hp : p m = true) (h : ∀ i, i < m → p i = false) : ∃ t, (List.range v).filter p = m :: t := by
 obtain ⟨d, rfl⟩ : ∃ d, v = m + (d + 1) := ⟨v - m - 1, by omega⟩
 rw [List.range_add, List.filter_append]
 have h1 : (List.range m).filter p = [] := by
  rw [List.filter_eq_nil_iff]
  intro a ha
  rw [h a (List.mem_range.1 ha)]
  simp
 rw [h1, List.nil_append, List.range_succ_eq_map, List.map_cons, Nat.add_zero, List.filter_cons, if_pos hp]
 exact ⟨_, rfl⟩
def reachN (w h : Int) (n s : Nat) : List Nat := (List.range (cellsN w h)).filter fun c => decide (0 ≤ distN w h n s c)
def labN (w h : Int) (n c : Nat) : Nat := lab (ends w h) n (gapsN w h) c
theorem reachN_head {w h : Int} {n s : Nat} (hn : n < 2 ^ gapsN w h) (hs : s < cellsN w h) : ∃ t, reachN w h n s = labN w h n s :: t := by
 have hle := lab_le (ends w h) n (gapsN w h) s
 refine filter_head (show labN w h n s < cellsN w h by unfold labN; omega) ?_ ?_
 ·rw [decide_eq_true_eq, distN_cn hn hs]
  exact lab_cn hn s
 ·intro i hi
  rw [decide_eq_false_iff_not, distN_cn hn hs]
  intro hc
  have := lab_least hn hc
  unfold labN at hi
  omega
def partsN (w h : Int) (n : Nat) : Nat := parts (ends w h) (cellsN w h) (gapsN w h) n
theorem partsN_le (w h : Int) (n : Nat) : partsN w h n ≤ 16 := Nat.le_trans (cnt_le _ _) (cellsN_le w h)
def perfN (w h : Int) (n : Nat) : Bool := perf (ends w h) (cellsN w h) (gapsN w h) n
theorem cells_pos {w h : Int} (hg : gridOk w h = true) : 1 ≤ cellsN w h := by
 unfold cellsN cellsOf
 rw [if_pos hg]
 obtain ⟨h1 | h1 | h1 | h1, h2 | h2 | h2 | h2⟩ := grid_cases hg <;> subst h1 <;> subst h2 <;> decide
end Go.Proofs.Ytoohcdfokejkdaa.P
namespace Go.Proofs.Ytoohcdfokejkdaa.P
open Go.RowKit Go.Proofs.YtoohcdfokejkdaaW.PrintWords
set_option linter.unusedVariables false
set_option linter.unusedSimpArgs false

section
variable {e : Nat → Nat × Nat} {V E : Nat}
structure KInv (e : Nat → Nat × Nat) (V E : Nat) (done : Nat → Prop) (P : Nat → Int) (o : Nat) : Prop where
 lt : o < 2 ^ E
 lab : ∀ x y, x < V → y < V → (P x = P y ↔ Cn e o x y)
 fo : pop E o + parts e V E o = V
 dn : ∀ g, g < E → done g → Cn e o (e g).1 (e g).2
theorem pop_zero' (E : Nat) : pop E 0 = 0 := by
 induction E with
 | zero => rfl
 | succ m ih => simp only [pop, Nat.zero_testBit, ih]; rfl
theorem KInv.start {P : Nat → Int} (hP : ∀ x, P x = x) : KInv e V E (fun _ => False) P 0 := by
 refine ⟨Nat.two_pow_pos E, fun x y _ _ => ?_, ?_, fun _ _ h => h.elim⟩
 ·rw [hP, hP, Cn_zero]
  omega
 ·rw [parts_zero, pop_zero', Nat.zero_add]
theorem KInv.skip {done : Nat → Prop} {P : Nat → Int} {o g : Nat} (hG : Gr e V E) (K : KInv e V E done P o) (hg : g < E) (h : P (e g).1 = P (e g).2) : KInv e V E (fun j => done j ∨ j = g) P o :=
 ⟨K.lt, K.lab, K.fo, fun j hj hd => hd.elim (K.dn j hj) (fun h2 => by subst h2; exact (K.lab _ _ (hG j hg).1 (hG j hg).2).1 h)⟩
theorem KInv.join {done : Nat → Prop} {P : Nat → Int} {o g : Nat} (hG : Gr e V E) (K : KInv e V E done P o) (hg : g < E) (h : ¬ P (e g).1 = P (e g).2) :
  KInv e V E (fun j => done j ∨ j = g) (fun x => if P x = P (e g).2 then P (e g).1 else P x) (setB o g true) := by
 obtain ⟨g1, g2⟩ := hG g hg
 have hnc : ¬ Cn e o (e g).1 (e g).2 := fun hc => h ((K.lab _ _ g1 g2).2 hc)
 have hb : o.testBit g = false := by
  cases hb : o.testBit g
  ·rfl
  ·exact absurd (Cn.edge hb) hnc
 refine ⟨setB_lt true K.lt hg, fun x y hx hy => ?_, ?_, fun j hj hd => ?_⟩
 ·rw [Cn_add, ← K.lab x y hx hy, ← K.lab x _ hx g1, ← K.lab _ y g2 hy, ← K.lab x _ hx g2, ← K.lab _ y g1 hy]
  show (if P x = P (e g).2 then P (e g).1 else P x) = (if P y = P (e g).2 then P (e g).1 else P y) ↔ _
  by_cases e1 : P x = P (e g).2 <;> by_cases e2 : P y = P (e g).2
  ·rw [if_pos e1, if_pos e2, e1, e2]; simp
  ·rw [if_pos e1, if_neg e2]
   constructor
   ·intro e3; exact Or.inr (Or.inr ⟨e1, e3⟩)
   ·rintro (e3 | ⟨e3, e4⟩ | ⟨_, e4⟩)
    ·exact absurd (e3.symm.trans e1) e2
    ·exact absurd e4.symm e2
    ·exact e4
  ·rw [if_neg e1, if_pos e2]
   constructor
   ·intro e3; exact Or.inr (Or.inl ⟨e3, e2.symm⟩)
   ·rintro (e3 | ⟨e3, _⟩ | ⟨e3, _⟩)
    ·exact absurd (e3.trans e2) e1
    ·exact e3
    ·exact absurd e3 e1
  ·rw [if_neg e1, if_neg e2]
   constructor
   ·exact Or.inl
   ·rintro (e3 | ⟨_, e4⟩ | ⟨e3, _⟩)
    ·exact e3
    ·exact absurd e4.symm e2
    ·exact absurd e3 e1
 ·have h1 := (parts_add (v := V) K.lt hg g1 g2).2 hnc
  have h2 := K.fo
  rw [pop_setB hg hb]
  omega
 ·rcases hd with hd | rfl
  ·exact Cn.mono (fun i hi => by rw [testBit_setB]; split <;> simp_all) (K.dn j hj hd)
  ·have : (setB o j true).testBit j = true := setB_bit o j true
   exact Cn.edge this
theorem KInv.perfect {done : Nat → Prop} {P : Nat → Int} {o full : Nat} (K : KInv e V E done P o) (hV : 0 < V) (hd : ∀ g, g < E → done g) (hfl : full < 2 ^ E) (hfull : ∀ x, x < V → Cn e full 0 x) : perf e V E o = true := by
 have hmap : ∀ x y, Cn e full x y → Cn e o x y := by
  intro x y hc
  induction hc with
  | refl => exact .refl _
  | fwd k hk _ ih => exact ih.trans (K.dn k (lt_of_testBit hfl hk) (hd k (lt_of_testBit hfl hk)))
  | bwd k hk _ ih => exact ih.trans (K.dn k (lt_of_testBit hfl hk) (hd k (lt_of_testBit hfl hk))).symm
 have h1 : parts e V E o = 1 := (parts_one K.lt hV).2 fun x hx => hmap _ _ (hfull x hx)
 have h2 := K.fo
 rw [perf_iff]
 omega
end
theorem nb_down_all : (List.range 5).all (fun W => (List.range 5).all fun H => (List.range 16).all fun c => decide (c = 0) || decide (¬ (c : Int) < cellsOf W H) ||
  (decide (0 ≤ nbI W H c 3 ∧ nbI W H c 3 < c) || decide (0 ≤ nbI W H c 0 ∧ nbI W H c 0 < c))) = true := by decide +kernel
theorem full_conn {w h : Int} (hg : gridOk w h = true) {full : Nat} (hf : ∀ g, g < gapsN w h → full.testBit g = true) : ∀ x, x < cellsN w h → Cn (ends w h) full 0 x := by
 intro x
 induction x using Nat.strongRecOn with
 | _ x ih =>
  intro hx
  have hc := cellsN_cast w h
  have hl := cellsN_le w h
  by_cases h0 : x = 0
  ·subst h0; exact .refl _
  obtain ⟨W, H, rfl, rfl, _, w5, _, h5⟩ := grid_nat hg
  have := List.all_eq_true.1 (List.all_eq_true.1 (List.all_eq_true.1 nb_down_all W (List.mem_range.2 w5)) H (List.mem_range.2 h5)) x (List.mem_range.2 (by omega))
  simp only [Bool.or_eq_true, decide_eq_true_eq] at this
  have hd : ∃ d : Int, 0 ≤ nbI W H x d ∧ nbI W H x d < x := by
   rcases this with (h | h) | (h | h)
   ·exact absurd h h0
   ·exact absurd (show (x : Int) < cellsOf W H by omega) h
   ·exact ⟨3, h⟩
   ·exact ⟨0, h⟩
  obtain ⟨d, d0, d1⟩ := hd
  rcases step_facts W H x d with ⟨f1, _⟩ | ⟨f1, f2, f3, f4, f5, f6, _⟩
  ·omega
  have hgc := gapsN_cast W H
  obtain ⟨g, hgg⟩ : ∃ g : Nat, gapI W H x d = g := ⟨(gapI W H x d).toNat, by omega⟩
  have hgl : g < gapsN W H := by omega
  obtain ⟨y, hy⟩ : ∃ y : Nat, nbI W H x d = y := ⟨(nbI W H x d).toNat, by omega⟩
  have he : ends W H g = (y, x) := by
   rw [hgg, hy] at f6
   unfold ends
   rw [f6]
   rw [hy] at d1
   have m1 : min (x : Int) (y : Int) = y := by omega
   have m2 : max (x : Int) (y : Int) = x := by omega
   rw [m1, m2]
   simp
  have hyx : Cn (ends W H) full y x := by
   have := Cn.edge (e := ends W H) (hf g hgl)
   rwa [he] at this
  exact (ih y (by omega) (by omega)).trans hyx
end Go.Proofs.Ytoohcdfokejkdaa.P
namespace Go.Proofs.YtoohcdfokejkdaaW.PrintWords
open Go.ChangeShapes Go.WideShapes
/-- A row's slice of whole numbers is no longer than its weight allows. -/
theorem sized_ints {H : Type} {enc : TypeId × Value → H} {P : Program} {W : World} {base : Nat} {spare : Nat → Bool} {held : Bool} {t e : TypeId} {k : IntKind} {a : Option Addr} {len cap : Nat} {d : DataW H} {ps : List MemPlace} {ts : List TypeId} {ds : List (DataW H)} {j : Nat}
    (hsz : (DataW.weightsEach P ts ds).all (· ≤ reachBytes) = true) (ht : ts[j]? = some t) (hd : ds[j]? = some d) (hu : P.underlying t = some (.slice e)) (he : P.underlying e = some (.int k)) (hc : P.cellsOf e = 1) {B : Nat} (hB : P.bytesOf e = B)
    (h : DataW.Trod enc P W base spare held t (.slice a len cap) d ps) : len * B ≤ 140737488351232 := by
  obtain ⟨fuel, hf⟩ := h
  rcases open_ints hu he hc hf with ⟨hcs, _⟩ | ⟨x, l, c, zs, hcs, _, hl, _, hz, hx, _, _⟩
  · simp [Value.cells] at hcs
    obtain ⟨rfl, rfl, rfl⟩ := hcs
    simp
  · simp [Value.cells] at hcs
    obtain ⟨rfl, rfl, rfl⟩ := hcs
    obtain ⟨hx, _⟩ := Prod.mk.inj hx
    subst hx
    have z := sized_slice hsz ht hd hu
    rw [hB] at z
    have hl2 : len ≤ zs.length := by
      rw [hz]
      split
      · exact hl
      · exact Nat.le_refl _
    have h1 : (lits (H := H) k (zs.take len)).length + (lits (H := H) k (zs.drop len)).length = zs.length := by
      simp [lits]
      omega
    rw [h1] at z
    exact Nat.le_trans (Nat.mul_le_mul_right _ hl2) z
end Go.Proofs.YtoohcdfokejkdaaW.PrintWords
