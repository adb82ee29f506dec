/- The tied card of FnSwaps: whatever the input, the law answers true and the input reads as it did, where math/bits' two tables start as their initialisers lay them; out of its plain form (FnSwaps_pure) and the walk of its Go function. Part 5 of 6: each Go function's walk, then the plain lemmas, then the row. Condition: the package variables of math/bits that the row lists hold what their initialisers lay when the call begins; the card ties that to the program's text (the given tie, over a pruned copy of the project). -/
import Derived.Test.YtamkcplflbjdkaaDoorBFnSwaps4
import Derived.ChangeSlices
import Derived.SizedLaws
namespace Go.Proofs.YtamkcplflbjdkaaDoor.P
open Go.RowKit Go.Proofs.YtamkcplflbjdkaaDoorW.PrintWords Go.Proofs.YtamkcplflbjdkaaDoorW.PrintLast Go.Proofs.YtamkcplflbjdkaaDoorW.PrintMore
attribute [local go_sem] max2_int min2_int max_two min_two max_three min_three max_four min_four   -- for this text's walks alone
set_option linter.unusedVariables false
set_option linter.unusedSimpArgs false

mutual
def laws_FnSwaps.l0 : Nat → List Int → Int → Bool → Int → Int → Int → Int → Int → Int → Int → Int → Int → Int → Int → Option (Bool)
 | 0, _, _, _, _, _, _, _, _, _, _, _, _, _, _ => none
 | k + 1, x0, x5, x7, x8, x9, x109000, x109001, x109002, x110000, x110001, x110002, x116000, x116001, x116002 => (spec_CountGaps.f x109000 x109001).bind fun t116 => (if x9 < t116 then ((impl_LoopGaps.f k x109000 x109001 x109002 x9).bind fun t117 => ((spec_EndsOf.f x109000 x109001 x9).bind fun bt120 => ((impl_IsPassage.f x109000 x109001 x109002 x9).bind fun t122 => (if t122 = true then (laws_FnSwaps.j1 k x0 x5 x7 (wrap64 (x8 + (t117.length : Int))) x9 t117 false x109000 x109001 x109002 x110000 x110001 x110002 x116000 x116001 x116002) else ((impl_DistanceOf.f k x109000 x109001 x109002 bt120.1 bt120.2).bind fun t123 => (laws_FnSwaps.j1 k x0 x5 x7 (wrap64 (x8 + (t117.length : Int))) x9 t117 ((t117.length : Int) != t123) x109000 x109001 x109002 x110000 x110001 x110002 x116000 x116001 x116002)))))) else (if x5 ≥ 0 then ((impl_IsPerfect.f k x109000 x109001 x109002).bind fun t134 => (if t134 = true then ((impl_GapsApart.f k x110000 x110001 x110002 x109000 x109001 x109002).bind fun t135 => (if x5 = t135 then ((impl_SwapsBetween.f k x109000 x109001 x109002 x110000 x110001 x110002).bind fun t136 => (if t136 = x5 then (if (x7 == (decide (x5 > 0))) = true then (if x7 = true then ((impl_IsPerfect.f k x116000 x116001 x116002).bind fun t137 => (if t137 = true then ((impl_GapsApart.f k x116000 x116001 x116002 x110000 x110001 x110002).bind fun t138 => (if t138 = (wrap64 (x5 - 1)) then ((impl_CountSwaps.f k x109000 x109001 x109002).bind fun t139 => (some (t139 == x8))) else (some false))) else (none))) else ((impl_CountSwaps.f k x109000 x109001 x109002).bind fun t140 => (some (t140 == x8)))) else (some false)) else (some false))) else (some false))) else (none))) else (some false)))
def laws_FnSwaps.j1 : Nat → List Int → Int → Bool → Int → Int → List Int → Bool → Int → Int → Int → Int → Int → Int → Int → Int → Int → Option (Bool)
 | 0, _, _, _, _, _, _, _, _, _, _, _, _, _, _, _, _ => none
 | k + 1, x0, x5, x7, x8, x9, x10, x65, x109000, x109001, x109002, x110000, x110001, x110002, x116000, x116001, x116002 => if x65 = true then (some false) else (laws_FnSwaps.l1 k x0 x5 x7 x8 x9 x10 0 x109000 x109001 x109002 x110000 x110001 x110002 x116000 x116001 x116002)
def laws_FnSwaps.l1 : Nat → List Int → Int → Bool → Int → Int → List Int → Int → Int → Int → Int → Int → Int → Int → Int → Int → Int → Option (Bool)
 | 0, _, _, _, _, _, _, _, _, _, _, _, _, _, _, _, _ => none
 | k + 1, x0, x5, x7, x8, x9, x10, x13, x109000, x109001, x109002, x110000, x110001, x110002, x116000, x116001, x116002 => if x13 < (x10.length : Int) then ((laws_at.f x0 0).bind fun t124 => ((spec_CountGaps.f x109000 x109001).bind fun t125 => (if t125 = 0 then (none) else (laws_FnSwaps.j3 k x0 x5 x7 x8 x9 x10 x13 (x9 == (Int.tmod t124 t125)) x109000 x109001 x109002 x110000 x110001 x110002 x116000 x116001 x116002)))) else (laws_FnSwaps.j3 k x0 x5 x7 x8 x9 x10 x13 false x109000 x109001 x109002 x110000 x110001 x110002 x116000 x116001 x116002)
def laws_FnSwaps.j3 : Nat → List Int → Int → Bool → Int → Int → List Int → Int → Bool → Int → Int → Int → Int → Int → Int → Int → Int → Int → Option (Bool)
 | 0, _, _, _, _, _, _, _, _, _, _, _, _, _, _, _, _, _ => none
 | k + 1, x0, x5, x7, x8, x9, x10, x13, x79, x109000, x109001, x109002, x110000, x110001, x110002, x116000, x116001, x116002 => if x79 = true then (if 0 ≤ x13 then (if x13 < (x10.length : Int) then ((impl_SwapGaps.f k x109000 x109001 x109002 x9 (rd x10 x13)).bind fun bt127 => (if bt127.2.2.2 = true then ((impl_IsPerfect.f k bt127.1 bt127.2.1 bt127.2.2.1).bind fun t132 => (if t132 = true then ((impl_GapsApart.f k x109000 x109001 x109002 bt127.1 bt127.2.1 bt127.2.2.1).bind fun t133 => (if t133 = 1 then (laws_FnSwaps.l1 k x0 x5 x7 x8 x9 x10 (wrap64 (x13 + 1)) x109000 x109001 x109002 x110000 x110001 x110002 x116000 x116001 x116002) else (none))) else (none))) else (none))) else (none)) else (none)) else (laws_FnSwaps.l0 k x0 x5 x7 x8 (wrap64 (x9 + 1)) x109000 x109001 x109002 x110000 x110001 x110002 x116000 x116001 x116002)
end
def laws_FnSwaps.f (k : Nat) (l0 : List Int) : Option (Bool) := (laws_big.f l0).bind fun t101 => (if t101 = true then (some true) else ((spec_DrawTwoTrees.f k l0).bind fun bt102 => ((impl_GapsApart.f k bt102.1 bt102.2.1 bt102.2.2.1 bt102.2.2.2.1 bt102.2.2.2.2.1 bt102.2.2.2.2.2).bind fun t110 => ((impl_SwapTowards.f k bt102.1 bt102.2.1 bt102.2.2.1 bt102.2.2.2.1 bt102.2.2.2.2.1 bt102.2.2.2.2.2).bind fun bt111 => (laws_FnSwaps.l0 k l0 t110 bt111.2.2.2 0 0 bt102.1 bt102.2.1 bt102.2.2.1 bt102.2.2.2.1 bt102.2.2.2.2.1 bt102.2.2.2.2.2 bt111.1 bt111.2.1 bt111.2.2.1)))))
def laws_FnSwaps.T16 : Bool × List (List Nat × List Nat) := (true, [([], []), ([], []), ([1], [1]), ([0, 2], [0, 2]), ([3], [3]), ([4], [4]), ([4], [4]), ([6, 4, 4], [4, 6]), ([4], [4]), ([8, 4], [4, 8]), ([9, 7, 4], [4, 9]), ([7, 10, 4], [4, 7, 10]), ([5, 11, 4], [4, 5, 11]), ([4, 12], [4, 12])])
def laws_FnSwaps.B16 : List Nat := [0, 0, 2, 7, 15, 31, 31, 95, 31, 287, 991, 2015, 4095, 8191]
theorem laws_FnSwaps.tab16 : rtab .any (opsOf Tryd.f3 16) = laws_FnSwaps.T16 := by kernel_rfl
theorem laws_FnSwaps.bits16 : waitsOk laws_FnSwaps.T16.2 laws_FnSwaps.B16 = true := by kernel_rfl
def laws_FnSwaps.T18 : Bool × List (List Nat × List Nat) := (true, [([], []), ([], []), ([], []), ([], []), ([2, 3], [2, 3]), ([4], [4]), ([0, 1, 5], [0, 1, 5]), ([6], [6]), ([7], [7]), ([7], [7]), ([], []), ([10, 8, 6, 0, 1, 2, 3, 4, 5, 6, 7, 8, 10], [8, 10]), ([9, 11, 0, 1, 2, 3, 4, 5, 6, 7, 8, 9, 10, 11], [9])])
def laws_FnSwaps.B18 : List Nat := [0, 0, 0, 0, 12, 28, 63, 127, 255, 255, 0, 1535, 4095]
theorem laws_FnSwaps.tab18 : rtab .any (opsOf Tryd.f3 18) = laws_FnSwaps.T18 := by kernel_rfl
theorem laws_FnSwaps.bits18 : waitsOk laws_FnSwaps.T18.2 laws_FnSwaps.B18 = true := by kernel_rfl
set_option maxHeartbeats 8000000 in
set_option maxRecDepth 100000 in
theorem laws_FnSwaps.calls (k : Nat) (A0 : Option Addr) (c0 : Nat) (l0 : List Int) (r : Bool) (w : World) (hr0 : Kd.C (Kd.int .u8) w A0 l0.length l0) (hc0 : l0.length ≤ c0) (h : laws_FnSwaps.f k l0 = some r) (hT : TZ w) :
  Calls Tryd.prog 3 #[.slice A0 l0.length c0] w fun e w' => e = .returned (.bool r) ∧ Below w.heap.size w w' := by
 have hu27 := Tryd.underlying27
 have hu25 := Tryd.underlying25
 have HR0 := A_ hr0
 have HC0 := A_ hc0
 clear hr0 hc0
 have HB := A_ (Below.refl w.heap.size w)
 have HTZ := A_ hT
 clear hT
 have H : ((laws_big.f l0).bind fun t101 => (if t101 = true then (some true) else ((spec_DrawTwoTrees.f k l0).bind fun bt102 => ((impl_GapsApart.f k bt102.1 bt102.2.1 bt102.2.2.1 bt102.2.2.2.1 bt102.2.2.2.2.1 bt102.2.2.2.2.2).bind fun t110 => ((impl_SwapTowards.f k bt102.1 bt102.2.1 bt102.2.2.1 bt102.2.2.2.1 bt102.2.2.2.2.1 bt102.2.2.2.2.2).bind fun bt111 => (laws_FnSwaps.l0 k l0 t110 bt111.2.2.2 0 0 bt102.1 bt102.2.1 bt102.2.2.1 bt102.2.2.2.1 bt102.2.2.2.2.1 bt102.2.2.2.2.2 bt111.1 bt111.2.1 bt111.2.2.1)))))) = some r := h
 clear h
 obtain ⟨t101, A20, H⟩ := oB_ H
 (try dsimp only at H); have A2 := A_ A20; clear A20
 by_cases c3 : t101 = true
 ·subst c3
  rw [if_pos rfl] at H
  obtain rfl := Option.some.inj H
  go_enter Tryd.func3, Tryd.ntmps3
  go_wp2_with (first | ((with_reducible refine gate_callee (f := 4) rfl ?_); refine gl_ 17 Tryd.func4 #[.slice A0 l0.length c0] ?_; (with_reducible refine (laws_big.calls _ _ l0 true _ ?side1 ?side2 A2.out).mono ?_); (case side1 => repeat (first | exact HR0.out | (with_reducible refine Kd.C_alloc ?_ _) | (with_reducible refine Kd.C_drewN ?_ _) | (with_reducible refine Kd.C_drew ?_))); (case side2 => exact HC0.out); rintro e w' ⟨rfl, ⟨nd, rfl⟩⟩; (try clear A2); refine ⟨_, rfl, ?_⟩))
  go_ret
  exact ⟨by first | rfl | (simp [errW_none, errW_some] <;> rfl) | (simp [*, errW_none, errW_some] <;> rfl), by repeat (first | (with_reducible first | exact HB.out | apply below_alloc | apply pw_below_drewN | apply below_drew1) | exact HB.out)⟩
 ·replace c3 := Bool.eq_false_iff.mpr c3
  subst c3
  have H1 : ((spec_DrawTwoTrees.f k l0).bind fun bt102 => ((impl_GapsApart.f k bt102.1 bt102.2.1 bt102.2.2.1 bt102.2.2.2.1 bt102.2.2.2.2.1 bt102.2.2.2.2.2).bind fun t110 => ((impl_SwapTowards.f k bt102.1 bt102.2.1 bt102.2.2.1 bt102.2.2.2.1 bt102.2.2.2.2.1 bt102.2.2.2.2.2).bind fun bt111 => (laws_FnSwaps.l0 k l0 t110 bt111.2.2.2 0 0 bt102.1 bt102.2.1 bt102.2.2.1 bt102.2.2.2.1 bt102.2.2.2.2.1 bt102.2.2.2.2.2 bt111.1 bt111.2.1 bt111.2.2.1)))) = some r := by rw [if_neg (show ¬ (false = true) by decide)] at H; exact H
  clear H
  have H := H1
  clear H1
  obtain ⟨⟨t102, t103, t104, t105, t106, t107⟩, A40, H⟩ := oB_ H
  (try dsimp only at H); have A4 := A_ A40; clear A40
  obtain ⟨t110, A50, H⟩ := oB_ H
  (try dsimp only at H); have A5 := A_ A50; clear A50
  obtain ⟨⟨t111, t112, t113, t114⟩, A60, H⟩ := oB_ H
  (try dsimp only at H); have A6 := A_ A60; clear A60
  have H' := A_ H
  clear H
  go_enter Tryd.func3, Tryd.ntmps3
  go_wp2_with (first | ((with_reducible refine gate_callee (f := 4) rfl ?_); refine gl_ 17 Tryd.func4 #[.slice A0 l0.length c0] ?_; (with_reducible refine (laws_big.calls _ _ l0 false _ ?side1 ?side2 A2.out).mono ?_); (case side1 => repeat (first | exact HR0.out | (with_reducible refine Kd.C_alloc ?_ _) | (with_reducible refine Kd.C_drewN ?_ _) | (with_reducible refine Kd.C_drew ?_))); (case side2 => exact HC0.out); rintro e w' ⟨rfl, ⟨nd, rfl⟩⟩; (try clear A2); refine ⟨_, rfl, ?_⟩) | ((with_reducible refine gate_callee (f := 5) rfl ?_); refine gl_ 20 Tryd.func5 #[.slice A0 l0.length c0] ?_; (with_reducible refine (spec_DrawTwoTrees.calls k _ _ l0 t102 t103 t104 t105 t106 t107 _ ?side1 ?side2 A4.out).mono ?_); (case side1 => repeat (first | exact HR0.out | (with_reducible refine Kd.C_alloc ?_ _) | (with_reducible refine Kd.C_drewN ?_ _) | (with_reducible refine Kd.C_drew ?_))); (case side2 => exact HC0.out); rintro e w7 ⟨rfl, hb⟩; (try clear A4); refine ⟨_, rfl, ?_⟩; have n0_ := A_ (below_step (by repeat first | exact HB.1 | apply bA_ | apply bB_ | apply bC_) hb); clear HB; have HB := n0_; clear n0_; (try clear hb); (try clear hk)) | ((with_reducible refine gate_dst (N := 3) rfl ?_); (try (refine gate_guard (by rfl) ?_; dsimp only)); refine box_event ?hg (N := 3) ?hd (cs := #[.int .i64 0, .int .i64 0, .int .i64 0]) (t := 27) ?hr ?_; (case hd => rfl); (case hg => rfl); (case hr => first | (go_simp; done) | (go_simp; rfl)); intro gb108 hg w8 hbox hb; have n0_ := A_ (below_step (by repeat first | exact HB.1 | apply bA_ | apply bB_ | apply bC_) hb); have n1_ := A_ (hbox); have n2_ := A_ ((by rw [hg]; exact (below_size (by repeat first | exact HB.1 | apply bA_ | apply bB_ | apply bC_)) : w.heap.size ≤ gb108)); have n3_ := n2_; clear HB; have HB := n0_; have BK108 := n1_; have GW108 := n2_; have GE108 := n3_; clear n0_ n1_ n2_ n3_ hb hbox hg) | ((with_reducible refine gate_dst (N := 4) rfl ?_); (try (refine gate_guard (by rfl) ?_; dsimp only)); refine box_event ?hg (N := 4) ?hd (cs := #[.int .i64 0, .int .i64 0, .int .i64 0]) (t := 27) ?hr ?_; (case hd => rfl); (case hg => rfl); (case hr => first | (go_simp; done) | (go_simp; rfl)); intro gb109 hg w9 hbox hb; have n0_ := A_ (blk_below (g := gb108) (o := .cells #[.int .i64 0, .int .i64 0, .int .i64 0] 27 (0, 0)) (by (with_reducible repeat first | refine cA_ ?_ _ | refine cB_ ?_ | refine cC_ ?_ _); exact BK108.1) hb); have n1_ := A_ (below_step (by repeat first | exact HB.1 | apply bA_ | apply bB_ | apply bC_ | refine below_set ?_ GE108.out) hb); have n2_ := A_ (hbox); have n3_ := A_ ((by rw [hg]; exact (below_size (by repeat first | exact HB.1 | apply bA_ | apply bB_ | apply bC_ | refine below_set ?_ GE108.out)) : w.heap.size ≤ gb109)); have n4_ := n3_; have n5_ := A_ ((by rw [hg]; exact Nat.ne_of_lt (blk_lt (g := gb108) (o := .cells #[.int .i64 0, .int .i64 0, .int .i64 0] 27 (0, 0)) (by (with_reducible repeat first | refine cA_ ?_ _ | refine cB_ ?_ | refine cC_ ?_ _); exact BK108.1)) : gb108 ≠ gb109)); have n6_ := A_ ((by rw [hg]; exact Nat.ne_of_gt (blk_lt (g := gb108) (o := .cells #[.int .i64 0, .int .i64 0, .int .i64 0] 27 (0, 0)) (by (with_reducible repeat first | refine cA_ ?_ _ | refine cB_ ?_ | refine cC_ ?_ _); exact BK108.1)) : gb109 ≠ gb108)); clear BK108 HB; have BK108 := n0_; have HB := n1_; have BK109 := n2_; have GW109 := n3_; have GE109 := n4_; have NB108_109 := n5_; have NB109_108 := n6_; clear n0_ n1_ n2_ n3_ n4_ n5_ n6_ hb hbox hg; have hnb10 := NB108_109.out; have hnc10 := NB109_108.out; obtain ⟨hcz11_0, hcz11_1, hcz11_2⟩ := kk3_ BK108.1; have hfz11_0 := bf_ BK108.out 0; have hfz11_1 := bf_ BK108.out 1; have hfz11_2 := bf_ BK108.out 2; obtain ⟨hcz12_0, hcz12_1, hcz12_2⟩ := kk3_ BK109.1; have hfz12_0 := bf_ BK109.out 0; have hfz12_1 := bf_ BK109.out 1; have hfz12_2 := bf_ BK109.out 2) | ((with_reducible refine gate_callee (f := 6) rfl ?_); refine gl_ 25 Tryd.func6 #[.agg #[.int .i64 t102, .int .i64 t103, .int .i64 t104], .agg #[.int .i64 t105, .int .i64 t106, .int .i64 t107]] ?_; (with_reducible refine (impl_GapsApart.calls k t102 t103 t104 t105 t106 t107 t110 _ A5.out).mono ?_); rintro e w13 ⟨rfl, hb⟩; (try clear A5); refine ⟨_, rfl, ?_⟩; have n0_ := A_ (blk_below (g := gb108) (o := .cells #[.int .i64 t102, .int .i64 t103, .int .i64 t104] 27 (0, 0)) (by (with_reducible repeat (first | refine blk_drewN ?_ _ | refine blk_drew ?_ | refine blk_alloc ?_ _)); refine blk_far ?_ NB108_109.out _; (with_reducible repeat (first | refine blk_drewN ?_ _ | refine blk_drew ?_ | refine blk_alloc ?_ _)); refine blk_far ?_ NB108_109.out _; (with_reducible repeat (first | refine blk_drewN ?_ _ | refine blk_drew ?_ | refine blk_alloc ?_ _)); refine blk_far ?_ NB108_109.out _; (with_reducible repeat (first | refine blk_drewN ?_ _ | refine blk_drew ?_ | refine blk_alloc ?_ _)); refine blk_put (cs := #[.int .i64 t102, .int .i64 t103, .int .i64 0]) ?_ 2 _ rfl; (with_reducible repeat (first | refine blk_drewN ?_ _ | refine blk_drew ?_ | refine blk_alloc ?_ _)); refine blk_put (cs := #[.int .i64 t102, .int .i64 0, .int .i64 0]) ?_ 1 _ rfl; (with_reducible repeat (first | refine blk_drewN ?_ _ | refine blk_drew ?_ | refine blk_alloc ?_ _)); refine blk_put (cs := #[.int .i64 0, .int .i64 0, .int .i64 0]) ?_ 0 _ rfl; (with_reducible repeat (first | refine blk_drewN ?_ _ | refine blk_drew ?_ | refine blk_alloc ?_ _)); exact BK108.out) hb); have n1_ := A_ (blk_below (g := gb109) (o := .cells #[.int .i64 t105, .int .i64 t106, .int .i64 t107] 27 (0, 0)) (by (with_reducible repeat (first | refine blk_drewN ?_ _ | refine blk_drew ?_ | refine blk_alloc ?_ _)); refine blk_put (cs := #[.int .i64 t105, .int .i64 t106, .int .i64 0]) ?_ 2 _ rfl; (with_reducible repeat (first | refine blk_drewN ?_ _ | refine blk_drew ?_ | refine blk_alloc ?_ _)); refine blk_put (cs := #[.int .i64 t105, .int .i64 0, .int .i64 0]) ?_ 1 _ rfl; (with_reducible repeat (first | refine blk_drewN ?_ _ | refine blk_drew ?_ | refine blk_alloc ?_ _)); refine blk_put (cs := #[.int .i64 0, .int .i64 0, .int .i64 0]) ?_ 0 _ rfl; (with_reducible repeat (first | refine blk_drewN ?_ _ | refine blk_drew ?_ | refine blk_alloc ?_ _)); refine blk_far ?_ NB109_108.out _; (with_reducible repeat (first | refine blk_drewN ?_ _ | refine blk_drew ?_ | refine blk_alloc ?_ _)); refine blk_far ?_ NB109_108.out _; (with_reducible repeat (first | refine blk_drewN ?_ _ | refine blk_drew ?_ | refine blk_alloc ?_ _)); refine blk_far ?_ NB109_108.out _; (with_reducible repeat (first | refine blk_drewN ?_ _ | refine blk_drew ?_ | refine blk_alloc ?_ _)); exact BK109.out) hb); have n2_ := A_ (below_step (by repeat first | exact HB.1 | apply bA_ | apply bB_ | apply bC_ | refine below_set ?_ GE108.out | refine below_set ?_ GE109.out) hb); clear BK108 BK109 HB; have BK108 := n0_; have BK109 := n1_; have HB := n2_; clear n0_ n1_ n2_; (try clear hb); (try clear hk); obtain ⟨hcz14_0, hcz14_1, hcz14_2⟩ := kk3_ BK108.1; have hfz14_0 := bf_ BK108.out 0; have hfz14_1 := bf_ BK108.out 1; have hfz14_2 := bf_ BK108.out 2; obtain ⟨hcz15_0, hcz15_1, hcz15_2⟩ := kk3_ BK109.1; have hfz15_0 := bf_ BK109.out 0; have hfz15_1 := bf_ BK109.out 1; have hfz15_2 := bf_ BK109.out 2) | ((with_reducible refine gate_callee (f := 7) rfl ?_); refine gl_ 29 Tryd.func7 #[.agg #[.int .i64 t102, .int .i64 t103, .int .i64 t104], .agg #[.int .i64 t105, .int .i64 t106, .int .i64 t107]] ?_; (refine (impl_SwapTowards.calls k t102 t103 t104 t105 t106 t107 t111 t112 t113 t114 _ A6.out (HTZ.out.below (by repeat first | exact HB.1 | apply bA_ | apply bB_ | apply bC_ | refine below_set ?_ GE108.out | refine below_set ?_ GE109.out))).mono ?_); rintro e w16 ⟨rfl, hb⟩; (try clear A6); refine ⟨_, rfl, ?_⟩; have n0_ := A_ (blk_below (g := gb108) (o := .cells #[.int .i64 t102, .int .i64 t103, .int .i64 t104] 27 (0, 0)) (by (with_reducible repeat first | refine cA_ ?_ _ | refine cB_ ?_ | refine cC_ ?_ _); exact BK108.1) hb); have n1_ := A_ (blk_below (g := gb109) (o := .cells #[.int .i64 t105, .int .i64 t106, .int .i64 t107] 27 (0, 0)) (by (with_reducible repeat first | refine cA_ ?_ _ | refine cB_ ?_ | refine cC_ ?_ _); exact BK109.1) hb); have n2_ := A_ (below_step (by repeat first | exact HB.1 | apply bA_ | apply bB_ | apply bC_ | refine below_set ?_ GE108.out | refine below_set ?_ GE109.out) hb); clear BK108 BK109 HB; have BK108 := n0_; have BK109 := n1_; have HB := n2_; clear n0_ n1_ n2_; (try clear hb); (try clear hk)) | ((with_reducible refine gate_dst (N := 6) rfl ?_); (try (refine gate_guard (by rfl) ?_; dsimp only)); refine box_event ?hg (N := 6) ?hd (cs := #[.int .i64 0, .int .i64 0, .int .i64 0]) (t := 27) ?hr ?_; (case hd => rfl); (case hg => rfl); (case hr => first | (go_simp; done) | (go_simp; rfl)); intro gb115 hg w17 hbox hb; have n0_ := A_ (blk_below (g := gb108) (o := .cells #[.int .i64 t102, .int .i64 t103, .int .i64 t104] 27 (0, 0)) (by (with_reducible repeat first | refine cA_ ?_ _ | refine cB_ ?_ | refine cC_ ?_ _); exact BK108.1) hb); have n1_ := A_ (blk_below (g := gb109) (o := .cells #[.int .i64 t105, .int .i64 t106, .int .i64 t107] 27 (0, 0)) (by (with_reducible repeat first | refine cA_ ?_ _ | refine cB_ ?_ | refine cC_ ?_ _); exact BK109.1) hb); have n2_ := A_ (below_step (by repeat first | exact HB.1 | apply bA_ | apply bB_ | apply bC_ | refine below_set ?_ GE108.out | refine below_set ?_ GE109.out) hb); have n3_ := A_ (hbox); have n4_ := A_ ((by rw [hg]; exact (below_size (by repeat first | exact HB.1 | apply bA_ | apply bB_ | apply bC_ | refine below_set ?_ GE108.out | refine below_set ?_ GE109.out)) : w.heap.size ≤ gb115)); have n5_ := n4_; have n6_ := A_ ((by rw [hg]; exact Nat.ne_of_lt (blk_lt (g := gb108) (o := .cells #[.int .i64 t102, .int .i64 t103, .int .i64 t104] 27 (0, 0)) (by (with_reducible repeat first | refine cA_ ?_ _ | refine cB_ ?_ | refine cC_ ?_ _); exact BK108.1)) : gb108 ≠ gb115)); have n7_ := A_ ((by rw [hg]; exact Nat.ne_of_gt (blk_lt (g := gb108) (o := .cells #[.int .i64 t102, .int .i64 t103, .int .i64 t104] 27 (0, 0)) (by (with_reducible repeat first | refine cA_ ?_ _ | refine cB_ ?_ | refine cC_ ?_ _); exact BK108.1)) : gb115 ≠ gb108)); have n8_ := A_ ((by rw [hg]; exact Nat.ne_of_lt (blk_lt (g := gb109) (o := .cells #[.int .i64 t105, .int .i64 t106, .int .i64 t107] 27 (0, 0)) (by (with_reducible repeat first | refine cA_ ?_ _ | refine cB_ ?_ | refine cC_ ?_ _); exact BK109.1)) : gb109 ≠ gb115)); have n9_ := A_ ((by rw [hg]; exact Nat.ne_of_gt (blk_lt (g := gb109) (o := .cells #[.int .i64 t105, .int .i64 t106, .int .i64 t107] 27 (0, 0)) (by (with_reducible repeat first | refine cA_ ?_ _ | refine cB_ ?_ | refine cC_ ?_ _); exact BK109.1)) : gb115 ≠ gb109)); clear BK108 BK109 HB; have BK108 := n0_; have BK109 := n1_; have HB := n2_; have BK115 := n3_; have GW115 := n4_; have GE115 := n5_; have NB108_115 := n6_; have NB115_108 := n7_; have NB109_115 := n8_; have NB115_109 := n9_; clear n0_ n1_ n2_ n3_ n4_ n5_ n6_ n7_ n8_ n9_ hb hbox hg; have hnb18 := NB115_108.out; have hnc18 := NB108_115.out; have hnb19 := NB115_109.out; have hnc19 := NB109_115.out; obtain ⟨hcz20_0, hcz20_1, hcz20_2⟩ := kk3_ BK115.1; have hfz20_0 := bf_ BK115.out 0; have hfz20_1 := bf_ BK115.out 1; have hfz20_2 := bf_ BK115.out 2))
  go_loopg [8, 9] k (fun kq v8 v9 w' => ∃ (x8_1 : Int) (x9_1 : Int), v8 = .int .i64 x8_1 ∧ v9 = .int .i64 x9_1 ∧ Aside0 (laws_FnSwaps.l0 kq l0 t110 t114 x8_1 x9_1 t102 t103 t104 t105 t106 t107 t111 t112 t113 = some r) ∧ Aside0 (kq ≤ k) ∧ Aside0 (w'.heap[gb108]? = some (.cells #[.int .i64 t102, .int .i64 t103, .int .i64 t104] 27 (0, 0))) ∧ Aside0 (w'.heap[gb109]? = some (.cells #[.int .i64 t105, .int .i64 t106, .int .i64 t107] 27 (0, 0))) ∧ Aside0 (w'.heap[gb115]? = some (.cells #[.int .i64 t111, .int .i64 t112, .int .i64 t113] 27 (0, 0))) ∧ Aside0 (Below w.heap.size w w'))
  case atStart => exact ⟨(0), (0), (by first | rfl | (simp; done) | (simp [*]; done)), (by first | rfl | (simp; done) | (simp [*]; done)), H', ⟨Nat.le_refl _⟩, ⟨by (with_reducible repeat (first | refine blk_drewN ?_ _ | refine blk_drew ?_ | refine blk_alloc ?_ _)); refine blk_far ?_ NB108_115.out _; (with_reducible repeat (first | refine blk_drewN ?_ _ | refine blk_drew ?_ | refine blk_alloc ?_ _)); refine blk_far ?_ NB108_115.out _; (with_reducible repeat (first | refine blk_drewN ?_ _ | refine blk_drew ?_ | refine blk_alloc ?_ _)); refine blk_far ?_ NB108_115.out _; (with_reducible repeat (first | refine blk_drewN ?_ _ | refine blk_drew ?_ | refine blk_alloc ?_ _)); exact BK108.out⟩, ⟨by (with_reducible repeat (first | refine blk_drewN ?_ _ | refine blk_drew ?_ | refine blk_alloc ?_ _)); refine blk_far ?_ NB109_115.out _; (with_reducible repeat (first | refine blk_drewN ?_ _ | refine blk_drew ?_ | refine blk_alloc ?_ _)); refine blk_far ?_ NB109_115.out _; (with_reducible repeat (first | refine blk_drewN ?_ _ | refine blk_drew ?_ | refine blk_alloc ?_ _)); refine blk_far ?_ NB109_115.out _; (with_reducible repeat (first | refine blk_drewN ?_ _ | refine blk_drew ?_ | refine blk_alloc ?_ _)); exact BK109.out⟩, ⟨by (with_reducible repeat (first | refine blk_drewN ?_ _ | refine blk_drew ?_ | refine blk_alloc ?_ _)); refine blk_put (cs := #[.int .i64 t111, .int .i64 t112, .int .i64 0]) ?_ 2 _ rfl; (with_reducible repeat (first | refine blk_drewN ?_ _ | refine blk_drew ?_ | refine blk_alloc ?_ _)); refine blk_put (cs := #[.int .i64 t111, .int .i64 0, .int .i64 0]) ?_ 1 _ rfl; (with_reducible repeat (first | refine blk_drewN ?_ _ | refine blk_drew ?_ | refine blk_alloc ?_ _)); refine blk_put (cs := #[.int .i64 0, .int .i64 0, .int .i64 0]) ?_ 0 _ rfl; (with_reducible repeat (first | refine blk_drewN ?_ _ | refine blk_drew ?_ | refine blk_alloc ?_ _)); exact BK115.out⟩, ⟨by repeat (first | (with_reducible first | exact HB.out | apply below_alloc | apply pw_below_drewN | apply below_drew1 | refine below_set ?_ GE108.out | refine below_set ?_ GE109.out | refine below_set ?_ GE115.out) | exact HB.out)⟩⟩
  case round =>
   clear H'; try clear c1; try clear p2; try clear c3; try clear c4; try clear c5; try clear c6; try clear c7; try clear c10; try clear c18; try clear c19; try clear hcz11_0; try clear hcz11_1; try clear hcz11_2; try clear hcz12_0; try clear hcz12_1; try clear hcz12_2; try clear hcz14_0; try clear hcz14_1; try clear hcz14_2; try clear hcz15_0; try clear hcz15_1; try clear hcz15_2; try clear hcz20_0; try clear hcz20_1; try clear hcz20_2; try clear hfz11_0; try clear hfz11_1; try clear hfz11_2; try clear hfz12_0; try clear hfz12_1; try clear hfz12_2; try clear hfz14_0; try clear hfz14_1; try clear hfz14_2; try clear hfz15_0; try clear hfz15_1; try clear hfz15_2; try clear hfz20_0; try clear hfz20_1; try clear hfz20_2
   obtain ⟨x8_1, x9_1, rfl, rfl, HA, HK1, BK108, BK109, BK115, HB⟩ := hrel
   cases gk with
   | zero => exact absurd HA.out (by simp [laws_FnSwaps.l0])
   | succ k1 =>
    have H := HA.out
    clear HA
    simp only [laws_FnSwaps.l0] at H
    obtain ⟨t116, A210, H⟩ := oB_ H
    (try dsimp only at H); have A21 := A_ A210; clear A210
    by_cases c22 : x9_1 < t116
    ·rw [if_pos c22] at H
     have c22b0 : decide (x9_1 < t116) = true := decide_eq_true c22
     clear c22
     obtain ⟨t117, A230, H⟩ := oB_ H
     (try dsimp only at H); have A23 := A_ A230; clear A230
     obtain ⟨⟨t120, t121⟩, A240, H⟩ := oB_ H
     (try dsimp only at H); have A24 := A_ A240; clear A240
     have HC25 := A_ H
     clear H
     have hnb26 := NB108_109.out
     have hnc26 := NB109_108.out
     have hnb27 := NB108_115.out
     have hnc27 := NB115_108.out
     obtain ⟨hcz28_0, hcz28_1, hcz28_2⟩ := kk3_ BK108.1
     have hfz28_0 := bf_ BK108.out 0
     have hfz28_1 := bf_ BK108.out 1
     have hfz28_2 := bf_ BK108.out 2
     go_upto_region 13 with (first | ((with_reducible refine gate_callee (f := 8) rfl ?_); refine gl_ 35 Tryd.func8 #[.agg #[.int .i64 t102, .int .i64 t103]] ?_; (with_reducible refine (spec_CountGaps.calls t102 t103 t116 _ A21.out).mono ?_); rintro e w29 ⟨rfl, hb⟩; (try clear A21); refine ⟨_, rfl, ?_⟩; have n0_ := A_ (blk_below (g := gb108) (o := .cells #[.int .i64 t102, .int .i64 t103, .int .i64 t104] 27 (0, 0)) (by (with_reducible repeat first | refine cA_ ?_ _ | refine cB_ ?_ | refine cC_ ?_ _); exact BK108.1) hb); have n1_ := A_ (blk_below (g := gb109) (o := .cells #[.int .i64 t105, .int .i64 t106, .int .i64 t107] 27 (0, 0)) (by (with_reducible repeat first | refine cA_ ?_ _ | refine cB_ ?_ | refine cC_ ?_ _); exact BK109.1) hb); have n2_ := A_ (blk_below (g := gb115) (o := .cells #[.int .i64 t111, .int .i64 t112, .int .i64 t113] 27 (0, 0)) (by (with_reducible repeat first | refine cA_ ?_ _ | refine cB_ ?_ | refine cC_ ?_ _); exact BK115.1) hb); have n3_ := A_ (below_step (by repeat first | exact HB.1 | apply bA_ | apply bB_ | apply bC_ | refine below_set ?_ GE108.out | refine below_set ?_ GE109.out | refine below_set ?_ GE115.out) hb); clear BK108 BK109 BK115 HB; have BK108 := n0_; have BK109 := n1_; have BK115 := n2_; have HB := n3_; clear n0_ n1_ n2_ n3_; (try clear hb); (try clear hk); obtain ⟨hcz30_0, hcz30_1, hcz30_2⟩ := kk3_ BK108.1; have hfz30_0 := bf_ BK108.out 0; have hfz30_1 := bf_ BK108.out 1; have hfz30_2 := bf_ BK108.out 2) | ((with_reducible refine gate_callee (f := 9) rfl ?_); refine gl_ 41 Tryd.func9 #[.agg #[.int .i64 t102, .int .i64 t103, .int .i64 t104], .int .i64 x9_1] ?_; (with_reducible refine (impl_LoopGaps.calls k1 t102 t103 t104 x9_1 t117 _ A23.out).mono ?_); rintro e w31 ⟨v118, rfl, ho0, hb⟩; (try clear A23); refine ⟨_, rfl, ?_⟩; have n0_ := A_ (Kd.R_lower ho0 (below_size (by repeat first | exact HB.1 | apply bA_ | apply bB_ | apply bC_ | refine below_set ?_ GE108.out | refine below_set ?_ GE109.out | refine below_set ?_ GE115.out))); have n1_ := A_ (blk_below (g := gb108) (o := .cells #[.int .i64 t102, .int .i64 t103, .int .i64 t104] 27 (0, 0)) (by (with_reducible repeat first | refine cA_ ?_ _ | refine cB_ ?_ | refine cC_ ?_ _); exact BK108.1) hb); have n2_ := A_ (blk_below (g := gb109) (o := .cells #[.int .i64 t105, .int .i64 t106, .int .i64 t107] 27 (0, 0)) (by (with_reducible repeat first | refine cA_ ?_ _ | refine cB_ ?_ | refine cC_ ?_ _); exact BK109.1) hb); have n3_ := A_ (blk_below (g := gb115) (o := .cells #[.int .i64 t111, .int .i64 t112, .int .i64 t113] 27 (0, 0)) (by (with_reducible repeat first | refine cA_ ?_ _ | refine cB_ ?_ | refine cC_ ?_ _); exact BK115.1) hb); have n4_ := A_ (below_step (by repeat first | exact HB.1 | apply bA_ | apply bB_ | apply bC_ | refine below_set ?_ GE108.out | refine below_set ?_ GE109.out | refine below_set ?_ GE115.out) hb); clear BK108 BK109 BK115 HB; have HO119 := n0_; have BK108 := n1_; have BK109 := n2_; have BK115 := n3_; have HB := n4_; clear n0_ n1_ n2_ n3_ n4_; (try clear hb); (try clear hk); (try clear ho0); obtain ⟨Ao32, co32, eo32⟩ := Kd.R_slice HO119.out; subst eo32; obtain ⟨hcz33_0, hcz33_1, hcz33_2⟩ := kk3_ BK108.1; have hfz33_0 := bf_ BK108.out 0; have hfz33_1 := bf_ BK108.out 1; have hfz33_2 := bf_ BK108.out 2) | ((with_reducible refine gate_callee (f := 10) rfl ?_); refine gl_ 50 Tryd.func10 #[.agg #[.int .i64 t102, .int .i64 t103], .int .i64 x9_1] ?_; (with_reducible refine (spec_EndsOf.calls t102 t103 x9_1 t120 t121 _ A24.out).mono ?_); rintro e w34 ⟨rfl, hb⟩; (try clear A24); refine ⟨_, rfl, ?_⟩; have n0_ := A_ (Kd.R_below (by (with_reducible repeat (first | apply Kd.R_alloc | apply Kd.R_drewN | apply Kd.R_drew)); exact HO119.out) hb); have n1_ := A_ (blk_below (g := gb108) (o := .cells #[.int .i64 t102, .int .i64 t103, .int .i64 t104] 27 (0, 0)) (by (with_reducible repeat first | refine cA_ ?_ _ | refine cB_ ?_ | refine cC_ ?_ _); exact BK108.1) hb); have n2_ := A_ (blk_below (g := gb109) (o := .cells #[.int .i64 t105, .int .i64 t106, .int .i64 t107] 27 (0, 0)) (by (with_reducible repeat first | refine cA_ ?_ _ | refine cB_ ?_ | refine cC_ ?_ _); exact BK109.1) hb); have n3_ := A_ (blk_below (g := gb115) (o := .cells #[.int .i64 t111, .int .i64 t112, .int .i64 t113] 27 (0, 0)) (by (with_reducible repeat first | refine cA_ ?_ _ | refine cB_ ?_ | refine cC_ ?_ _); exact BK115.1) hb); have n4_ := A_ (below_step (by repeat first | exact HB.1 | apply bA_ | apply bB_ | apply bC_ | refine below_set ?_ GE108.out | refine below_set ?_ GE109.out | refine below_set ?_ GE115.out) hb); clear HO119 BK108 BK109 BK115 HB; have HO119 := n0_; have BK108 := n1_; have BK109 := n2_; have BK115 := n3_; have HB := n4_; clear n0_ n1_ n2_ n3_ n4_; (try clear hb); (try clear hk)))
     (try simp only [Act.put, List.setIfInBounds_toArray, List.set_cons_zero, List.set_cons_succ])
     go_cut [65] (fun v65 wc => ∃ (kq : Nat) (x65_24 : Bool), v65 = .bool x65_24 ∧ Aside0 (laws_FnSwaps.j1 kq l0 t110 t114 (wrap64 (x8_1 + (t117.length : Int))) x9_1 t117 x65_24 t102 t103 t104 t105 t106 t107 t111 t112 t113 = some r) ∧ Aside0 (kq ≤ k1) ∧ Aside0 (Kd.R (Kd.int .i64) 3 wc w.heap.size (fun _ => True) (.slice Ao32 t117.length co32) t117) ∧ Aside0 (wc.heap[gb108]? = some (.cells #[.int .i64 t102, .int .i64 t103, .int .i64 t104] 27 (0, 0))) ∧ Aside0 (wc.heap[gb109]? = some (.cells #[.int .i64 t105, .int .i64 t106, .int .i64 t107] 27 (0, 0))) ∧ Aside0 (wc.heap[gb115]? = some (.cells #[.int .i64 t111, .int .i64 t112, .int .i64 t113] 27 (0, 0))) ∧ Aside0 (Below w.heap.size w wc))
     case first =>
      have H := HC25.out
      clear HC25
      obtain ⟨t122, A350, H⟩ := oB_ H
      (try dsimp only at H); have A35 := A_ A350; clear A350
      by_cases c36 : t122 = true
      ·subst c36
       rw [if_pos rfl] at H
       have H' := A_ H
       clear H
       have hnb37 := NB108_109.out
       have hnc37 := NB109_108.out
       have hnb38 := NB108_115.out
       have hnc38 := NB115_108.out
       obtain ⟨hcz39_0, hcz39_1, hcz39_2⟩ := kk3_ BK108.1
       have hfz39_0 := bf_ BK108.out 0
       have hfz39_1 := bf_ BK108.out 1
       have hfz39_2 := bf_ BK108.out 2
       go_wp2_with (first | ((with_reducible refine gate_callee (f := 11) rfl ?_); refine gl_ 55 Tryd.func11 #[.agg #[.int .i64 t102, .int .i64 t103, .int .i64 t104], .int .i64 x9_1] ?_; (with_reducible refine (impl_IsPassage.calls t102 t103 t104 x9_1 true _ A35.out).mono ?_); rintro e w40 ⟨rfl, hb⟩; (try clear A35); refine ⟨_, rfl, ?_⟩; have n0_ := A_ (Kd.R_below (by (with_reducible repeat (first | apply Kd.R_alloc | apply Kd.R_drewN | apply Kd.R_drew)); exact HO119.out) hb); have n1_ := A_ (blk_below (g := gb108) (o := .cells #[.int .i64 t102, .int .i64 t103, .int .i64 t104] 27 (0, 0)) (by (with_reducible repeat first | refine cA_ ?_ _ | refine cB_ ?_ | refine cC_ ?_ _); exact BK108.1) hb); have n2_ := A_ (blk_below (g := gb109) (o := .cells #[.int .i64 t105, .int .i64 t106, .int .i64 t107] 27 (0, 0)) (by (with_reducible repeat first | refine cA_ ?_ _ | refine cB_ ?_ | refine cC_ ?_ _); exact BK109.1) hb); have n3_ := A_ (blk_below (g := gb115) (o := .cells #[.int .i64 t111, .int .i64 t112, .int .i64 t113] 27 (0, 0)) (by (with_reducible repeat first | refine cA_ ?_ _ | refine cB_ ?_ | refine cC_ ?_ _); exact BK115.1) hb); have n4_ := A_ (below_step (by repeat first | exact HB.1 | apply bA_ | apply bB_ | apply bC_ | refine below_set ?_ GE108.out | refine below_set ?_ GE109.out | refine below_set ?_ GE115.out) hb); clear HO119 BK108 BK109 BK115 HB; have HO119 := n0_; have BK108 := n1_; have BK109 := n2_; have BK115 := n3_; have HB := n4_; clear n0_ n1_ n2_ n3_ n4_; (try clear hb); (try clear hk)))
       go_meet
       case rel => exact ⟨_, (false), (by first | rfl | (simp; done) | (simp [*]; done)), H', ⟨by have := HK1.out; first | omega | exact Nat.le_refl _⟩, ⟨by (with_reducible repeat (first | apply Kd.R_alloc | apply Kd.R_drewN | apply Kd.R_drew)); exact HO119.out⟩, ⟨by (with_reducible repeat (first | refine blk_drewN ?_ _ | refine blk_drew ?_ | refine blk_alloc ?_ _)); exact BK108.out⟩, ⟨by (with_reducible repeat (first | refine blk_drewN ?_ _ | refine blk_drew ?_ | refine blk_alloc ?_ _)); exact BK109.out⟩, ⟨by (with_reducible repeat (first | refine blk_drewN ?_ _ | refine blk_drew ?_ | refine blk_alloc ?_ _)); exact BK115.out⟩, ⟨by repeat (first | (with_reducible first | exact HB.out | apply below_alloc | apply pw_below_drewN | apply below_drew1 | refine below_set ?_ GE108.out | refine below_set ?_ GE109.out | refine below_set ?_ GE115.out) | exact HB.out)⟩⟩
      ·replace c36 := Bool.eq_false_iff.mpr c36
       subst c36
       have H1 : ((impl_DistanceOf.f k1 t102 t103 t104 t120 t121).bind fun t123 => (laws_FnSwaps.j1 k1 l0 t110 t114 (wrap64 (x8_1 + (t117.length : Int))) x9_1 t117 ((t117.length : Int) != t123) t102 t103 t104 t105 t106 t107 t111 t112 t113)) = some r := by rw [if_neg (show ¬ (false = true) by decide)] at H; exact H
       clear H
       have H := H1
       clear H1
       obtain ⟨t123, A410, H⟩ := oB_ H
       (try dsimp only at H); have A41 := A_ A410; clear A410
       have H' := A_ H
       clear H
       have hnb42 := NB108_109.out
       have hnc42 := NB109_108.out
       have hnb43 := NB108_115.out
       have hnc43 := NB115_108.out
       obtain ⟨hcz44_0, hcz44_1, hcz44_2⟩ := kk3_ BK108.1
       have hfz44_0 := bf_ BK108.out 0
       have hfz44_1 := bf_ BK108.out 1
       have hfz44_2 := bf_ BK108.out 2
       go_wp2_with (first | ((with_reducible refine gate_callee (f := 11) rfl ?_); refine gl_ 55 Tryd.func11 #[.agg #[.int .i64 t102, .int .i64 t103, .int .i64 t104], .int .i64 x9_1] ?_; (with_reducible refine (impl_IsPassage.calls t102 t103 t104 x9_1 false _ A35.out).mono ?_); rintro e w45 ⟨rfl, hb⟩; (try clear A35); refine ⟨_, rfl, ?_⟩; have n0_ := A_ (Kd.R_below (by (with_reducible repeat (first | apply Kd.R_alloc | apply Kd.R_drewN | apply Kd.R_drew)); exact HO119.out) hb); have n1_ := A_ (blk_below (g := gb108) (o := .cells #[.int .i64 t102, .int .i64 t103, .int .i64 t104] 27 (0, 0)) (by (with_reducible repeat first | refine cA_ ?_ _ | refine cB_ ?_ | refine cC_ ?_ _); exact BK108.1) hb); have n2_ := A_ (blk_below (g := gb109) (o := .cells #[.int .i64 t105, .int .i64 t106, .int .i64 t107] 27 (0, 0)) (by (with_reducible repeat first | refine cA_ ?_ _ | refine cB_ ?_ | refine cC_ ?_ _); exact BK109.1) hb); have n3_ := A_ (blk_below (g := gb115) (o := .cells #[.int .i64 t111, .int .i64 t112, .int .i64 t113] 27 (0, 0)) (by (with_reducible repeat first | refine cA_ ?_ _ | refine cB_ ?_ | refine cC_ ?_ _); exact BK115.1) hb); have n4_ := A_ (below_step (by repeat first | exact HB.1 | apply bA_ | apply bB_ | apply bC_ | refine below_set ?_ GE108.out | refine below_set ?_ GE109.out | refine below_set ?_ GE115.out) hb); clear HO119 BK108 BK109 BK115 HB; have HO119 := n0_; have BK108 := n1_; have BK109 := n2_; have BK115 := n3_; have HB := n4_; clear n0_ n1_ n2_ n3_ n4_; (try clear hb); (try clear hk); obtain ⟨hcz46_0, hcz46_1, hcz46_2⟩ := kk3_ BK108.1; have hfz46_0 := bf_ BK108.out 0; have hfz46_1 := bf_ BK108.out 1; have hfz46_2 := bf_ BK108.out 2) | (go_at_call 12; (with_reducible refine (impl_DistanceOf.calls k1 t102 t103 t104 t120 t121 t123 _ A41.out).mono ?_); rintro e w47 ⟨rfl, hb⟩; (try clear A41); have n0_ := A_ (Kd.R_below (by (with_reducible repeat (first | apply Kd.R_alloc | apply Kd.R_drewN | apply Kd.R_drew)); exact HO119.out) hb); have n1_ := A_ (blk_below (g := gb108) (o := .cells #[.int .i64 t102, .int .i64 t103, .int .i64 t104] 27 (0, 0)) (by (with_reducible repeat first | refine cA_ ?_ _ | refine cB_ ?_ | refine cC_ ?_ _); exact BK108.1) hb); have n2_ := A_ (blk_below (g := gb109) (o := .cells #[.int .i64 t105, .int .i64 t106, .int .i64 t107] 27 (0, 0)) (by (with_reducible repeat first | refine cA_ ?_ _ | refine cB_ ?_ | refine cC_ ?_ _); exact BK109.1) hb); have n3_ := A_ (blk_below (g := gb115) (o := .cells #[.int .i64 t111, .int .i64 t112, .int .i64 t113] 27 (0, 0)) (by (with_reducible repeat first | refine cA_ ?_ _ | refine cB_ ?_ | refine cC_ ?_ _); exact BK115.1) hb); have n4_ := A_ (below_step (by repeat first | exact HB.1 | apply bA_ | apply bB_ | apply bC_ | refine below_set ?_ GE108.out | refine below_set ?_ GE109.out | refine below_set ?_ GE115.out) hb); clear HO119 BK108 BK109 BK115 HB; have HO119 := n0_; have BK108 := n1_; have BK109 := n2_; have BK115 := n3_; have HB := n4_; clear n0_ n1_ n2_ n3_ n4_; (try clear hb); (try clear hk)))
       go_meet
       case rel => exact ⟨_, (((t117.length : Int) != t123)), (by first | rfl | (simp; done) | (simp [*]; done)), H', ⟨by have := HK1.out; first | omega | exact Nat.le_refl _⟩, ⟨by (with_reducible repeat (first | apply Kd.R_alloc | apply Kd.R_drewN | apply Kd.R_drew)); exact HO119.out⟩, ⟨by (with_reducible repeat (first | refine blk_drewN ?_ _ | refine blk_drew ?_ | refine blk_alloc ?_ _)); exact BK108.out⟩, ⟨by (with_reducible repeat (first | refine blk_drewN ?_ _ | refine blk_drew ?_ | refine blk_alloc ?_ _)); exact BK109.out⟩, ⟨by (with_reducible repeat (first | refine blk_drewN ?_ _ | refine blk_drew ?_ | refine blk_alloc ?_ _)); exact BK115.out⟩, ⟨by repeat (first | (with_reducible first | exact HB.out | apply below_alloc | apply pw_below_drewN | apply below_drew1 | refine below_set ?_ GE108.out | refine below_set ?_ GE109.out | refine below_set ?_ GE115.out) | exact HB.out)⟩⟩
     case rest =>
      clear HC25; try clear c1; try clear c2; try clear p2; try clear c3; try clear c4; try clear c5; try clear c6; try clear p6; try clear c7; try clear c8; try clear c9; try clear c10; try clear c11; try clear c18; try clear c19; try clear c22; try clear c22b0; try clear c26; try clear c27; try clear c36; try clear c37; try clear c38; try clear c42; try clear c43; try clear hcz11_0; try clear hcz11_1; try clear hcz11_2; try clear hcz12_0; try clear hcz12_1; try clear hcz12_2; try clear hcz14_0; try clear hcz14_1; try clear hcz14_2; try clear hcz15_0; try clear hcz15_1; try clear hcz15_2; try clear hcz20_0; try clear hcz20_1; try clear hcz20_2; try clear hcz28_0; try clear hcz28_1; try clear hcz28_2; try clear hcz30_0; try clear hcz30_1; try clear hcz30_2; try clear hcz33_0; try clear hcz33_1; try clear hcz33_2; try clear hcz39_0; try clear hcz39_1; try clear hcz39_2; try clear hcz44_0; try clear hcz44_1; try clear hcz44_2; try clear hcz46_0; try clear hcz46_1; try clear hcz46_2; try clear hfz11_0; try clear hfz11_1; try clear hfz11_2; try clear hfz12_0; try clear hfz12_1; try clear hfz12_2; try clear hfz14_0; try clear hfz14_1; try clear hfz14_2; try clear hfz15_0; try clear hfz15_1; try clear hfz15_2; try clear hfz20_0; try clear hfz20_1; try clear hfz20_2; try clear hfz28_0; try clear hfz28_1; try clear hfz28_2; try clear hfz30_0; try clear hfz30_1; try clear hfz30_2; try clear hfz33_0; try clear hfz33_1; try clear hfz33_2; try clear hfz39_0; try clear hfz39_1; try clear hfz39_2; try clear hfz44_0; try clear hfz44_1; try clear hfz44_2; try clear hfz46_0; try clear hfz46_1; try clear hfz46_2; try clear p2
      obtain ⟨kq, x65_24, rfl, HA, HJ24, HO_10, BK108, BK109, BK115, HB⟩ := hcut
      cases kq with
      | zero => exact absurd HA.out (by simp [laws_FnSwaps.j1])
      | succ kj24 =>
       have H := HA.out
       clear HA
       simp only [laws_FnSwaps.j1] at H
       by_cases c48 : x65_24 = true
       ·subst c48
        rw [if_pos rfl] at H
        obtain rfl := Option.some.inj H
        go_wp2
        go_ret
        exact ⟨by first | rfl | (simp [errW_none, errW_some] <;> rfl) | (simp [*, errW_none, errW_some] <;> rfl), by repeat (first | (with_reducible first | exact HB.out | apply below_alloc | apply pw_below_drewN | apply below_drew1 | refine below_set ?_ GE108.out | refine below_set ?_ GE109.out | refine below_set ?_ GE115.out) | exact HB.out)⟩
       ·replace c48 := Bool.eq_false_iff.mpr c48
        subst c48
        have H1 : (laws_FnSwaps.l1 kj24 l0 t110 t114 (wrap64 (x8_1 + (t117.length : Int))) x9_1 t117 0 t102 t103 t104 t105 t106 t107 t111 t112 t113) = some r := by rw [if_neg (show ¬ (false = true) by decide)] at H; exact H
        clear H
        have H := H1
        clear H1
        have H' := A_ H
        clear H
        go_wp2
        go_loopg [13] kj24 (fun kq v13 w' => ∃ (x13_3 : Int), v13 = .int .i64 x13_3 ∧ Aside0 (laws_FnSwaps.l1 kq l0 t110 t114 (wrap64 (x8_1 + (t117.length : Int))) x9_1 t117 x13_3 t102 t103 t104 t105 t106 t107 t111 t112 t113 = some r) ∧ Aside0 (kq ≤ kj24) ∧ Aside0 (Kd.R (Kd.int .i64) 3 w' w.heap.size (fun _ => True) (.slice Ao32 t117.length co32) t117) ∧ Aside0 (w'.heap[gb108]? = some (.cells #[.int .i64 t102, .int .i64 t103, .int .i64 t104] 27 (0, 0))) ∧ Aside0 (w'.heap[gb109]? = some (.cells #[.int .i64 t105, .int .i64 t106, .int .i64 t107] 27 (0, 0))) ∧ Aside0 (w'.heap[gb115]? = some (.cells #[.int .i64 t111, .int .i64 t112, .int .i64 t113] 27 (0, 0))) ∧ Aside0 (Below w.heap.size w w'))
        case atStart => exact ⟨(0), (by first | rfl | (simp; done) | (simp [*]; done)), H', ⟨Nat.le_refl _⟩, ⟨by (with_reducible repeat (first | apply Kd.R_alloc | apply Kd.R_drewN | apply Kd.R_drew)); exact HO_10.out⟩, ⟨by (with_reducible repeat (first | refine blk_drewN ?_ _ | refine blk_drew ?_ | refine blk_alloc ?_ _)); exact BK108.out⟩, ⟨by (with_reducible repeat (first | refine blk_drewN ?_ _ | refine blk_drew ?_ | refine blk_alloc ?_ _)); exact BK109.out⟩, ⟨by (with_reducible repeat (first | refine blk_drewN ?_ _ | refine blk_drew ?_ | refine blk_alloc ?_ _)); exact BK115.out⟩, ⟨by repeat (first | (with_reducible first | exact HB.out | apply below_alloc | apply pw_below_drewN | apply below_drew1 | refine below_set ?_ GE108.out | refine below_set ?_ GE109.out | refine below_set ?_ GE115.out) | exact HB.out)⟩⟩
        case round =>
         clear H'; try clear c1; try clear c2; try clear p2; try clear c3; try clear c4; try clear c5; try clear c6; try clear p6; try clear c7; try clear c8; try clear c9; try clear c10; try clear c11; try clear c18; try clear c19; try clear c22; try clear c22b0; try clear c26; try clear c27; try clear c36; try clear c37; try clear c38; try clear c42; try clear c43; try clear c48; try clear hcz11_0; try clear hcz11_1; try clear hcz11_2; try clear hcz12_0; try clear hcz12_1; try clear hcz12_2; try clear hcz14_0; try clear hcz14_1; try clear hcz14_2; try clear hcz15_0; try clear hcz15_1; try clear hcz15_2; try clear hcz20_0; try clear hcz20_1; try clear hcz20_2; try clear hcz28_0; try clear hcz28_1; try clear hcz28_2; try clear hcz30_0; try clear hcz30_1; try clear hcz30_2; try clear hcz33_0; try clear hcz33_1; try clear hcz33_2; try clear hcz39_0; try clear hcz39_1; try clear hcz39_2; try clear hcz44_0; try clear hcz44_1; try clear hcz44_2; try clear hcz46_0; try clear hcz46_1; try clear hcz46_2; try clear hfz11_0; try clear hfz11_1; try clear hfz11_2; try clear hfz12_0; try clear hfz12_1; try clear hfz12_2; try clear hfz14_0; try clear hfz14_1; try clear hfz14_2; try clear hfz15_0; try clear hfz15_1; try clear hfz15_2; try clear hfz20_0; try clear hfz20_1; try clear hfz20_2; try clear hfz28_0; try clear hfz28_1; try clear hfz28_2; try clear hfz30_0; try clear hfz30_1; try clear hfz30_2; try clear hfz33_0; try clear hfz33_1; try clear hfz33_2; try clear hfz39_0; try clear hfz39_1; try clear hfz39_2; try clear hfz44_0; try clear hfz44_1; try clear hfz44_2; try clear hfz46_0; try clear hfz46_1; try clear hfz46_2; try clear p2; try clear p6
         obtain ⟨x13_3, rfl, HA, HK3, HO_10, BK108, BK109, BK115, HB⟩ := hrel
         cases gk with
         | zero => exact absurd HA.out (by simp [laws_FnSwaps.l1])
         | succ k3 =>
          have H := HA.out
          clear HA
          simp only [laws_FnSwaps.l1] at H
          have HC49 := A_ H
          clear H
          go_upto_region 16 with (fail)
          go_cut [79] (fun v79 wc => ∃ (kq : Nat) (x79_48 : Bool), v79 = .bool x79_48 ∧ Aside0 (laws_FnSwaps.j3 kq l0 t110 t114 (wrap64 (x8_1 + (t117.length : Int))) x9_1 t117 x13_3 x79_48 t102 t103 t104 t105 t106 t107 t111 t112 t113 = some r) ∧ Aside0 (kq ≤ k3) ∧ Aside0 (Kd.R (Kd.int .i64) 3 wc w.heap.size (fun _ => True) (.slice Ao32 t117.length co32) t117) ∧ Aside0 (wc.heap[gb108]? = some (.cells #[.int .i64 t102, .int .i64 t103, .int .i64 t104] 27 (0, 0))) ∧ Aside0 (wc.heap[gb109]? = some (.cells #[.int .i64 t105, .int .i64 t106, .int .i64 t107] 27 (0, 0))) ∧ Aside0 (wc.heap[gb115]? = some (.cells #[.int .i64 t111, .int .i64 t112, .int .i64 t113] 27 (0, 0))) ∧ Aside0 (Below w.heap.size w wc))
          case first =>
           have H := HC49.out
           clear HC49
           by_cases c50 : x13_3 < (t117.length : Int)
           ·rw [if_pos c50] at H
            have c50b0 : decide (x13_3 < (t117.length : Int)) = true := decide_eq_true c50
            clear c50
            (first | rw [c50b0] | (simp only [i64_w, i32_w]; rw [c50b0]) | skip)
            obtain ⟨t124, A510, H⟩ := oB_ H
            (try dsimp only at H); have A51 := A_ A510; clear A510
            obtain ⟨t125, A520, H⟩ := oB_ H
            (try dsimp only at H); have A52 := A_ A520; clear A520
            by_cases c53 : t125 = 0
            ·rw [if_pos c53] at H
             exact absurd H (by simp)
            ·rw [if_neg c53] at H
             have c53b0 : (t125 == 0) = false := beq_eq_false_iff_ne.mpr c53
             have c53b1 : (t125 != 0) = true := bne_iff_ne.mpr c53
             have H' := A_ H
             clear H
             try go_wp2
             have n0_ := A_ (Kd.R_drew HO_10.out)
             have n1_ := A_ (blk_drew BK108.out); have n2_ := A_ (blk_drew BK109.out); have n3_ := A_ (blk_drew BK115.out); have n4_ := A_ (below_drew1 HB.out); clear HO_10 BK108 BK109 BK115 HB; have HO_10 := n0_; have BK108 := n1_; have BK109 := n2_; have BK115 := n3_; have HB := n4_; clear n0_ n1_ n2_ n3_ n4_
             refine start_ (n := 14) (S := fun w' => w'.cell? ⟨gb108, 0, none⟩ = some (.int .i64 t102) ∧ w'.cell? ⟨gb108, 1, none⟩ = some (.int .i64 t103) ∧ w'.cell? ⟨gb108, 2, none⟩ = some (.int .i64 t104)) (ds := []) #[false, false, false, false, false, false, false, false, false, false, false, false, false, false] (by kernel_rfl) rfl rfl ⟨(blk_cell BK108.out 0).trans rfl, (blk_cell BK108.out 1).trans rfl, (blk_cell BK108.out 2).trans rfl⟩ (fun hHeld => ?_); refine with_tabW laws_FnSwaps.tab16 laws_FnSwaps.bits16 (fun HT_ HW_ => ?_)
             generalize wr.drew = w54 at HO_10 BK108 BK109 BK115 HB hHeld ⊢
             refine pv_ 0 66 HT_ ?_; refine pv_ 1 67 HT_ ?_; refine pv_ 2 68 HT_ ?_; refine pv_ 3 69 HT_ ?_; refine pv_ 4 70 HT_ ?_; refine pv_ 5 71 HT_ ?_; refine pv_ 6 72 HT_ ?_; refine pv_ 8 74 HT_ ?_; refine tv_ 9 75 rfl HT_ HW_ hHeld (by rintro w' ⟨s0, s1, s2⟩; go_simp; with_reducible rfl) ?_
             refine on_ 7 (some 73) rfl rfl HT_ (by kernel_rfl) (by decide) (fun K hK => ?_)
             refine gs_ Tryd.func13 #[.slice A0 l0.length c0, .int .i64 0] ?_
             with_reducible refine (laws_at.calls _ _ l0 0 t124 _ ?side1 ?side2 A51.out).mono ?_
             (case side1 => repeat (first | exact (Kd.C_below HR0.out HB.out) | (with_reducible refine Kd.C_alloc ?_ _) | (with_reducible refine Kd.C_drewN ?_ _) | (with_reducible refine Kd.C_drew ?_)))
             (case side2 => exact HC0.out)
             rintro e w' ⟨rfl, ⟨nd, rfl⟩⟩
             refine ⟨_, rfl, ?_⟩
             refine hK.out _ _ ⟨(blk_cell BK108.out 0).trans rfl, (blk_cell BK108.out 1).trans rfl, (blk_cell BK108.out 2).trans rfl⟩ (fun hHeld => ?_)
             clear hK K
             refine norm_ (a' := ?_) ?_ ?_; rotate_left; (show Act.put _ (some 73) _ = _; simp only [P6_]; rfl)
             refine on_ 10 (some 76) rfl rfl HT_ (by kernel_rfl) (by decide) (fun K hK => ?_)
             refine gs_ Tryd.func8 #[.agg #[.int .i64 t102, .int .i64 t103]] ?_
             with_reducible refine (spec_CountGaps.calls t102 t103 t125 _ A52.out).mono ?_
             rintro e w55 ⟨rfl, hb⟩
             refine ⟨_, rfl, ?_⟩
             have n0_ := A_ (Kd.R_below (by (with_reducible repeat (first | apply Kd.R_alloc | apply Kd.R_drewN | apply Kd.R_drew)); exact HO_10.out) hb)
             have n1_ := A_ (blk_below (g := gb108) (o := .cells #[.int .i64 t102, .int .i64 t103, .int .i64 t104] 27 (0, 0)) (by (with_reducible repeat first | refine cA_ ?_ _ | refine cB_ ?_ | refine cC_ ?_ _); exact BK108.1) hb)
             have n2_ := A_ (blk_below (g := gb109) (o := .cells #[.int .i64 t105, .int .i64 t106, .int .i64 t107] 27 (0, 0)) (by (with_reducible repeat first | refine cA_ ?_ _ | refine cB_ ?_ | refine cC_ ?_ _); exact BK109.1) hb)
             have n3_ := A_ (blk_below (g := gb115) (o := .cells #[.int .i64 t111, .int .i64 t112, .int .i64 t113] 27 (0, 0)) (by (with_reducible repeat first | refine cA_ ?_ _ | refine cB_ ?_ | refine cC_ ?_ _); exact BK115.1) hb)
             have n4_ := A_ (below_step (by repeat first | exact HB.1 | apply bA_ | apply bB_ | apply bC_ | refine below_set ?_ GE108.out | refine below_set ?_ GE109.out | refine below_set ?_ GE115.out) hb)
             clear HO_10 BK108 BK109 BK115 HB; have HO_10 := n0_; have BK108 := n1_; have BK109 := n2_; have BK115 := n3_; have HB := n4_; clear n0_ n1_ n2_ n3_ n4_; (try clear hb); (try clear hk)
             refine hK.out _ _ ⟨(blk_cell BK108.out 0).trans rfl, (blk_cell BK108.out 1).trans rfl, (blk_cell BK108.out 2).trans rfl⟩ (fun hHeld => ?_)
             clear hK K
             refine norm_ (a' := ?_) ?_ ?_; rotate_left; (show Act.put _ (some 76) _ = _; simp only [P6_]; rfl)
             refine pv_ 11 77 HT_ ?_; refine pv_ 12 78 HT_ ?_; refine pv_ 13 79 HT_ ?_
             refine done_ (done_of HT_.out (by kernel_rfl)) ?_
             try go_wp2
             go_meet
             case rel => exact ⟨_, ((x9_1 == (Int.tmod t124 t125))), (by first | rfl | (simp; done) | (simp [*]; done)), H', ⟨by have := HK1.out; have := HJ24.out; have := HK3.out; first | omega | exact Nat.le_refl _⟩, ⟨by (with_reducible repeat (first | apply Kd.R_alloc | apply Kd.R_drewN | apply Kd.R_drew)); exact HO_10.out⟩, ⟨by (with_reducible repeat (first | refine blk_drewN ?_ _ | refine blk_drew ?_ | refine blk_alloc ?_ _)); exact BK108.out⟩, ⟨by (with_reducible repeat (first | refine blk_drewN ?_ _ | refine blk_drew ?_ | refine blk_alloc ?_ _)); exact BK109.out⟩, ⟨by (with_reducible repeat (first | refine blk_drewN ?_ _ | refine blk_drew ?_ | refine blk_alloc ?_ _)); exact BK115.out⟩, ⟨by repeat (first | (with_reducible first | exact HB.out | apply below_alloc | apply pw_below_drewN | apply below_drew1 | refine below_set ?_ GE108.out | refine below_set ?_ GE109.out | refine below_set ?_ GE115.out) | exact HB.out)⟩⟩
           ·rw [if_neg c50] at H
            have c50b0 : decide (x13_3 < (t117.length : Int)) = false := decide_eq_false c50
            clear c50
            (first | rw [c50b0] | (simp only [i64_w, i32_w]; rw [c50b0]) | skip)
            have H' := A_ H
            clear H
            try go_wp2
            have n0_ := A_ (Kd.R_drew HO_10.out)
            have n1_ := A_ (blk_drew BK108.out); have n2_ := A_ (blk_drew BK109.out); have n3_ := A_ (blk_drew BK115.out); have n4_ := A_ (below_drew1 HB.out); clear HO_10 BK108 BK109 BK115 HB; have HO_10 := n0_; have BK108 := n1_; have BK109 := n2_; have BK115 := n3_; have HB := n4_; clear n0_ n1_ n2_ n3_ n4_
            refine start_ (n := 14) (S := fun w' => True) (ds := []) #[false, false, false, false, false, false, false, false, false, false, false, false, false, false] (by kernel_rfl) rfl rfl trivial (fun hHeld => ?_); refine with_tabW laws_FnSwaps.tab16 laws_FnSwaps.bits16 (fun HT_ HW_ => ?_)
            generalize wr.drew = w56 at HO_10 BK108 BK109 BK115 HB hHeld ⊢
            refine pv_ 0 66 HT_ ?_; refine pv_ 1 67 HT_ ?_; refine pv_ 2 68 HT_ ?_; refine pv_ 3 69 HT_ ?_; refine pv_ 4 70 HT_ ?_; refine pw_ 5 71 HT_ ?_; refine pw_ 6 72 HT_ ?_; refine pw_ 7 73 HT_ ?_; refine pw_ 8 74 HT_ ?_; refine pw_ 9 75 HT_ ?_; refine pw_ 10 76 HT_ ?_; refine pw_ 11 77 HT_ ?_; refine pw_ 12 78 HT_ ?_; refine pv_ 13 79 HT_ ?_
            refine done_ (done_of HT_.out (by kernel_rfl)) ?_
            try go_wp2
            go_meet
            case rel => exact ⟨_, (false), (by first | rfl | (simp; done) | (simp [*]; done)), H', ⟨by have := HK1.out; have := HJ24.out; have := HK3.out; first | omega | exact Nat.le_refl _⟩, ⟨by (with_reducible repeat (first | apply Kd.R_alloc | apply Kd.R_drewN | apply Kd.R_drew)); exact HO_10.out⟩, ⟨by (with_reducible repeat (first | refine blk_drewN ?_ _ | refine blk_drew ?_ | refine blk_alloc ?_ _)); exact BK108.out⟩, ⟨by (with_reducible repeat (first | refine blk_drewN ?_ _ | refine blk_drew ?_ | refine blk_alloc ?_ _)); exact BK109.out⟩, ⟨by (with_reducible repeat (first | refine blk_drewN ?_ _ | refine blk_drew ?_ | refine blk_alloc ?_ _)); exact BK115.out⟩, ⟨by repeat (first | (with_reducible first | exact HB.out | apply below_alloc | apply pw_below_drewN | apply below_drew1 | refine below_set ?_ GE108.out | refine below_set ?_ GE109.out | refine below_set ?_ GE115.out) | exact HB.out)⟩⟩
          case rest =>
           clear HC49; try clear c1; try clear c2; try clear p2; try clear c3; try clear c4; try clear c5; try clear c6; try clear p6; try clear c7; try clear c8; try clear c9; try clear c10; try clear c11; try clear c13; try clear c18; try clear c19; try clear c22; try clear c22b0; try clear c26; try clear c27; try clear c36; try clear c37; try clear c38; try clear c42; try clear c43; try clear c48; try clear c50; try clear c50b0; try clear c53; try clear c53b0; try clear c53b1; try clear hcz11_0; try clear hcz11_1; try clear hcz11_2; try clear hcz12_0; try clear hcz12_1; try clear hcz12_2; try clear hcz14_0; try clear hcz14_1; try clear hcz14_2; try clear hcz15_0; try clear hcz15_1; try clear hcz15_2; try clear hcz20_0; try clear hcz20_1; try clear hcz20_2; try clear hcz28_0; try clear hcz28_1; try clear hcz28_2; try clear hcz30_0; try clear hcz30_1; try clear hcz30_2; try clear hcz33_0; try clear hcz33_1; try clear hcz33_2; try clear hcz39_0; try clear hcz39_1; try clear hcz39_2; try clear hcz44_0; try clear hcz44_1; try clear hcz44_2; try clear hcz46_0; try clear hcz46_1; try clear hcz46_2; try clear hfz11_0; try clear hfz11_1; try clear hfz11_2; try clear hfz12_0; try clear hfz12_1; try clear hfz12_2; try clear hfz14_0; try clear hfz14_1; try clear hfz14_2; try clear hfz15_0; try clear hfz15_1; try clear hfz15_2; try clear hfz20_0; try clear hfz20_1; try clear hfz20_2; try clear hfz28_0; try clear hfz28_1; try clear hfz28_2; try clear hfz30_0; try clear hfz30_1; try clear hfz30_2; try clear hfz33_0; try clear hfz33_1; try clear hfz33_2; try clear hfz39_0; try clear hfz39_1; try clear hfz39_2; try clear hfz44_0; try clear hfz44_1; try clear hfz44_2; try clear hfz46_0; try clear hfz46_1; try clear hfz46_2; try clear p2; try clear p6
           obtain ⟨kq, x79_48, rfl, HA, HJ48, HO_10, BK108, BK109, BK115, HB⟩ := hcut
           cases kq with
           | zero => exact absurd HA.out (by simp [laws_FnSwaps.j3])
           | succ kj48 =>
            have H := HA.out
            clear HA
            simp only [laws_FnSwaps.j3] at H
            by_cases c57 : x79_48 = true
            ·subst c57
             rw [if_pos rfl] at H
             replace H := iN_ H; obtain ⟨c58, H⟩ := H
             have c58b0 : decide (0 ≤ x13_3) = true := decide_eq_true c58
             clear c58
             replace H := iN_ H; obtain ⟨c59, H⟩ := H
             have c59b0 : decide (x13_3 < (t117.length : Int)) = true := decide_eq_true c59
             clear c59
             obtain ⟨⟨t127, t128, t129, t130⟩, A600, H⟩ := oB_ H
             (try dsimp only at H); have A60 := A_ A600; clear A600
             by_cases c61 : t130 = true
             ·subst c61
              rw [if_pos rfl] at H
              obtain ⟨t132, A620, H⟩ := oB_ H
              (try dsimp only at H); have A62 := A_ A620; clear A620
              by_cases c63 : t132 = true
              ·subst c63
               rw [if_pos rfl] at H
               obtain ⟨t133, A640, H⟩ := oB_ H
               (try dsimp only at H); have A64 := A_ A640; clear A640
               by_cases c65 : t133 = 1
               ·rw [if_pos c65] at H
                have c65b0 : (t133 == 1) = true := beq_iff_eq.mpr c65
                have c65b1 : (t133 != 1) = false := bne_eq_false_iff_eq.mpr c65
                clear c65
                have H' := A_ H
                clear H
                try go_wp2
                have n0_ := A_ (Kd.R_drew HO_10.out)
                have n1_ := A_ (blk_drew BK108.out); have n2_ := A_ (blk_drew BK109.out); have n3_ := A_ (blk_drew BK115.out); have n4_ := A_ (below_drew1 HB.out); clear HO_10 BK108 BK109 BK115 HB; have HO_10 := n0_; have BK108 := n1_; have BK109 := n2_; have BK115 := n3_; have HB := n4_; clear n0_ n1_ n2_ n3_ n4_
                have p126 : 0 ≤ (x13_3 : Int) := of_decide_eq_true (by first | (with_reducible assumption) | assumption)
                have q126 : x13_3 < (t117.length : Int) := of_decide_eq_true (by first | (with_reducible assumption) | assumption)
                obtain ⟨ad126, e126, hx126_0⟩ := Kd.at_int (Kd.R_reads' HO_10.out).2.2 x13_3 p126 q126
                cases e126
                replace p126 := eq_true p126; replace q126 := eq_true q126
                refine start_ (n := 13) (S := fun w' => w'.cell? ⟨gb108, 0, none⟩ = some (.int .i64 t102) ∧ w'.cell? ⟨gb108, 1, none⟩ = some (.int .i64 t103) ∧ w'.cell? ⟨gb108, 2, none⟩ = some (.int .i64 t104) ∧ w'.cell? (ad126.add (x13_3).toNat) = some (.int .i64 (rd t117 x13_3))) (ds := []) #[false, false, false, false, false, false, false, false, false, false, false, false, false] (by kernel_rfl) rfl rfl ⟨(blk_cell BK108.out 0).trans rfl, (blk_cell BK108.out 1).trans rfl, (blk_cell BK108.out 2).trans rfl, hx126_0⟩ (fun hHeld => ?_); refine with_tabW laws_FnSwaps.tab18 laws_FnSwaps.bits18 (fun HT_ HW_ => ?_)
                generalize wc.drew = w66 at HO_10 BK108 BK109 BK115 HB hx126_0 hHeld ⊢
                refine pv_ 1 84 HT_ ?_; refine pv_ 2 85 HT_ ?_; refine pv_ 3 86 HT_ ?_; refine pv_ 4 87 HT_ ?_; refine tv_ 0 83 rfl HT_ HW_ hHeld (by rintro w' ⟨s0, s1, s2, s3⟩; go_simp; with_reducible rfl) ?_
                refine tv_ 5 88 rfl HT_ HW_ hHeld (by rintro w' ⟨s0, s1, s2, s3⟩; go_simp; with_reducible rfl) ?_
                refine join_ (σ := Nat) 2 #[true, true, true, true, true, true, true, true, true, true, true, false, false] (fun s_ => [(89, .tuple #[.agg #[.int .i64 t127, .int .i64 t128, .int .i64 t129], .bool true]), (14, .pointer (some ⟨s_, 0, none⟩)), (82, .tuple #[.agg #[.int .i64 t127, .int .i64 t128, .int .i64 t129], .bool true]), (90, .agg #[.int .i64 t127, .int .i64 t128, .int .i64 t129]), (91, .bool true)]) (fun s_ w' => (w'.cell? ⟨gb108, 0, none⟩ = some (.int .i64 t102) ∧ w'.cell? ⟨gb108, 1, none⟩ = some (.int .i64 t103) ∧ w'.cell? ⟨gb108, 2, none⟩ = some (.int .i64 t104) ∧ w'.cell? (ad126.add (x13_3).toNat) = some (.int .i64 (rd t117 x13_3))) ∧ (Kd.R (Kd.int .i64) 3 w' w.heap.size (fun _ => True) (.slice (some ad126) t117.length co32) t117) ∧ (w'.heap[gb108]? = some (.cells #[.int .i64 t102, .int .i64 t103, .int .i64 t104] 27 (0, 0))) ∧ (w'.heap[gb109]? = some (.cells #[.int .i64 t105, .int .i64 t106, .int .i64 t107] 27 (0, 0))) ∧ (w'.heap[gb115]? = some (.cells #[.int .i64 t111, .int .i64 t112, .int .i64 t113] 27 (0, 0))) ∧ (w'.heap[s_]? = some (.cells #[.int .i64 0, .int .i64 0, .int .i64 0] 27 (0, 0))) ∧ (w.heap.size ≤ s_) ∧ (w.heap.size ≤ s_) ∧ (gb108 ≠ s_) ∧ (s_ ≠ gb108) ∧ (gb109 ≠ s_) ∧ (s_ ≠ gb109) ∧ (gb115 ≠ s_) ∧ (s_ ≠ gb115) ∧ (Below w.heap.size w w')) ?_ ?_
                rotate_left
                ·intro hCont
                 refine two_ (i := 6) (j := 10) (Ni := some 89) (Nj := some 14) #[true, true, true, true, true, true, true, false, false, false, false, false, false] #[true, true, true, true, true, true, false, false, false, false, true, false, false] rfl rfl rfl rfl (two_of HT_.out (by kernel_rfl)) (by decide) (by decide) (fun K hK => ?_) (fun K hK => ?_)
                 ·skip
                  refine gs_ Tryd.func14 #[.agg #[.int .i64 t102, .int .i64 t103, .int .i64 t104], .int .i64 x9_1, .int .i64 (rd t117 x13_3)] ?_
                  with_reducible refine (impl_SwapGaps.calls kj48 t102 t103 t104 x9_1 (rd t117 x13_3) t127 t128 t129 true _ A60.out).mono ?_
                  rintro e w67 ⟨rfl, hb⟩
                  have HS3_ := (hb.cell (World.block_lt_of_cell? _ _ (hHeld.2.2.2))).trans (hHeld.2.2.2)
                  refine ⟨_, rfl, ?_⟩
                  have n0_ := A_ (Kd.R_below (by (with_reducible repeat (first | apply Kd.R_alloc | apply Kd.R_drewN | apply Kd.R_drew)); exact HO_10.out) hb)
                  have n1_ := A_ (blk_below (g := gb108) (o := .cells #[.int .i64 t102, .int .i64 t103, .int .i64 t104] 27 (0, 0)) (by (with_reducible repeat first | refine cA_ ?_ _ | refine cB_ ?_ | refine cC_ ?_ _); exact BK108.1) hb)
                  have n2_ := A_ (blk_below (g := gb109) (o := .cells #[.int .i64 t105, .int .i64 t106, .int .i64 t107] 27 (0, 0)) (by (with_reducible repeat first | refine cA_ ?_ _ | refine cB_ ?_ | refine cC_ ?_ _); exact BK109.1) hb)
                  have n3_ := A_ (blk_below (g := gb115) (o := .cells #[.int .i64 t111, .int .i64 t112, .int .i64 t113] 27 (0, 0)) (by (with_reducible repeat first | refine cA_ ?_ _ | refine cB_ ?_ | refine cC_ ?_ _); exact BK115.1) hb)
                  have n4_ := A_ (below_step (by repeat first | exact HB.1 | apply bA_ | apply bB_ | apply bC_ | refine below_set ?_ GE108.out | refine below_set ?_ GE109.out | refine below_set ?_ GE115.out) hb)
                  clear HO_10 BK108 BK109 BK115 HB; have HO_10 := n0_; have BK108 := n1_; have BK109 := n2_; have BK115 := n3_; have HB := n4_; clear n0_ n1_ n2_ n3_ n4_; (try clear hb); (try clear hk)
                  refine hK.out _ _ ⟨(blk_cell BK108.out 0).trans rfl, (blk_cell BK108.out 1).trans rfl, (blk_cell BK108.out 2).trans rfl, HS3_⟩ (fun hHeld => ?_)
                  clear hK K
                  refine norm_ (a' := ?_) ?_ ?_; rotate_left; (show Act.put _ (some 89) _ = _; simp only [P6_]; rfl)
                  refine pv_ 7 82 HT_ ?_; refine pv_ 8 90 HT_ ?_; refine pv_ 9 91 HT_ ?_
                  refine on_ 10 (some 14) rfl rfl HT_ (by kernel_rfl) (by decide) (fun K hK => ?_)
                  refine box_step ?hg (N := 14) ?hd (cs := #[.int .i64 0, .int .i64 0, .int .i64 0]) (t := 27) ?hr ?_; (case hd => rfl); (case hg => rfl); (case hr => first | (go_simp; done) | (go_simp; rfl))
                  intro gb131 hg w68 hbox hb
                  have HS3_ := (hb.cell (World.block_lt_of_cell? _ _ (hHeld.2.2.2))).trans (hHeld.2.2.2)
                  have n0_ := A_ (Kd.R_below (by (with_reducible repeat (first | apply Kd.R_alloc | apply Kd.R_drewN | apply Kd.R_drew)); exact HO_10.out) hb)
                  have n1_ := A_ (blk_below (g := gb108) (o := .cells #[.int .i64 t102, .int .i64 t103, .int .i64 t104] 27 (0, 0)) (by (with_reducible repeat first | refine cA_ ?_ _ | refine cB_ ?_ | refine cC_ ?_ _); exact BK108.1) hb)
                  have n2_ := A_ (blk_below (g := gb109) (o := .cells #[.int .i64 t105, .int .i64 t106, .int .i64 t107] 27 (0, 0)) (by (with_reducible repeat first | refine cA_ ?_ _ | refine cB_ ?_ | refine cC_ ?_ _); exact BK109.1) hb)
                  have n3_ := A_ (blk_below (g := gb115) (o := .cells #[.int .i64 t111, .int .i64 t112, .int .i64 t113] 27 (0, 0)) (by (with_reducible repeat first | refine cA_ ?_ _ | refine cB_ ?_ | refine cC_ ?_ _); exact BK115.1) hb)
                  have n4_ := A_ (below_step (by repeat first | exact HB.1 | apply bA_ | apply bB_ | apply bC_ | refine below_set ?_ GE108.out | refine below_set ?_ GE109.out | refine below_set ?_ GE115.out) hb)
                  have n5_ := A_ (hbox)
                  have n6_ := A_ ((by rw [hg]; exact (below_size (by repeat first | exact HB.1 | apply bA_ | apply bB_ | apply bC_ | refine below_set ?_ GE108.out | refine below_set ?_ GE109.out | refine below_set ?_ GE115.out)) : w.heap.size ≤ gb131))
                  have n7_ := A_ ((by rw [hg]; exact (below_size (by repeat first | exact HB.1 | apply bA_ | apply bB_ | apply bC_ | refine below_set ?_ GE108.out | refine below_set ?_ GE109.out | refine below_set ?_ GE115.out)) : w.heap.size ≤ gb131))
                  have n8_ := A_ ((by rw [hg]; exact Nat.ne_of_lt (blk_lt (g := gb108) (o := .cells #[.int .i64 t102, .int .i64 t103, .int .i64 t104] 27 (0, 0)) (by (with_reducible repeat first | refine cA_ ?_ _ | refine cB_ ?_ | refine cC_ ?_ _); exact BK108.1)) : gb108 ≠ gb131))
                  have n9_ := A_ ((by rw [hg]; exact Nat.ne_of_gt (blk_lt (g := gb108) (o := .cells #[.int .i64 t102, .int .i64 t103, .int .i64 t104] 27 (0, 0)) (by (with_reducible repeat first | refine cA_ ?_ _ | refine cB_ ?_ | refine cC_ ?_ _); exact BK108.1)) : gb131 ≠ gb108))
                  have n10_ := A_ ((by rw [hg]; exact Nat.ne_of_lt (blk_lt (g := gb109) (o := .cells #[.int .i64 t105, .int .i64 t106, .int .i64 t107] 27 (0, 0)) (by (with_reducible repeat first | refine cA_ ?_ _ | refine cB_ ?_ | refine cC_ ?_ _); exact BK109.1)) : gb109 ≠ gb131))
                  have n11_ := A_ ((by rw [hg]; exact Nat.ne_of_gt (blk_lt (g := gb109) (o := .cells #[.int .i64 t105, .int .i64 t106, .int .i64 t107] 27 (0, 0)) (by (with_reducible repeat first | refine cA_ ?_ _ | refine cB_ ?_ | refine cC_ ?_ _); exact BK109.1)) : gb131 ≠ gb109))
                  have n12_ := A_ ((by rw [hg]; exact Nat.ne_of_lt (blk_lt (g := gb115) (o := .cells #[.int .i64 t111, .int .i64 t112, .int .i64 t113] 27 (0, 0)) (by (with_reducible repeat first | refine cA_ ?_ _ | refine cB_ ?_ | refine cC_ ?_ _); exact BK115.1)) : gb115 ≠ gb131))
                  have n13_ := A_ ((by rw [hg]; exact Nat.ne_of_gt (blk_lt (g := gb115) (o := .cells #[.int .i64 t111, .int .i64 t112, .int .i64 t113] 27 (0, 0)) (by (with_reducible repeat first | refine cA_ ?_ _ | refine cB_ ?_ | refine cC_ ?_ _); exact BK115.1)) : gb131 ≠ gb115))
                  clear HO_10 BK108 BK109 BK115 HB; have HO_10 := n0_; have BK108 := n1_; have BK109 := n2_; have BK115 := n3_; have HB := n4_; have BK131 := n5_; have GW131 := n6_; have GE131 := n7_; have NB108_131 := n8_; have NB131_108 := n9_; have NB109_131 := n10_; have NB131_109 := n11_; have NB115_131 := n12_; have NB131_115 := n13_; clear n0_ n1_ n2_ n3_ n4_ n5_ n6_ n7_ n8_ n9_ n10_ n11_ n12_ n13_ hb hbox hg
                  refine hK.out _ _ ⟨(blk_cell BK108.out 0).trans rfl, (blk_cell BK108.out 1).trans rfl, (blk_cell BK108.out 2).trans rfl, HS3_⟩ (fun hHeld => ?_)
                  clear hK K
                  refine norm_ (a' := ?_) ?_ ?_; rotate_left; (show Act.put _ (some 14) _ = _; simp only [P6_]; rfl)
                  exact norm_ (by simp only [putAll, Act.put, List.setIfInBounds_toArray, List.set_cons_zero, List.set_cons_succ]) (hCont (gb131) _ ⟨hHeld, (by (with_reducible repeat (first | apply Kd.R_alloc | apply Kd.R_drewN | apply Kd.R_drew)); exact HO_10.out), (by (with_reducible repeat first | refine cA_ ?_ _ | refine cB_ ?_ | refine cC_ ?_ _); exact BK108.1), (by (with_reducible repeat first | refine cA_ ?_ _ | refine cB_ ?_ | refine cC_ ?_ _); exact BK109.1), (by (with_reducible repeat first | refine cA_ ?_ _ | refine cB_ ?_ | refine cC_ ?_ _); exact BK115.1), (by (with_reducible repeat first | refine cA_ ?_ _ | refine cB_ ?_ | refine cC_ ?_ _); exact BK131.1), GW131.out, GE131.out, NB108_131.out, NB131_108.out, NB109_131.out, NB131_109.out, NB115_131.out, NB131_115.out, (by repeat first | exact HB.1 | apply bA_ | apply bB_ | apply bC_ | refine below_set ?_ GE108.out | refine below_set ?_ GE109.out | refine below_set ?_ GE115.out | refine below_set ?_ GE131.out)⟩)
                 ·skip
                  refine box_step ?hg (N := 14) ?hd (cs := #[.int .i64 0, .int .i64 0, .int .i64 0]) (t := 27) ?hr ?_; (case hd => rfl); (case hg => rfl); (case hr => first | (go_simp; done) | (go_simp; rfl))
                  intro gb131 hg w67 hbox hb
                  have HS3_ := (hb.cell (World.block_lt_of_cell? _ _ (hHeld.2.2.2))).trans (hHeld.2.2.2)
                  have n0_ := A_ (Kd.R_below (by (with_reducible repeat (first | apply Kd.R_alloc | apply Kd.R_drewN | apply Kd.R_drew)); exact HO_10.out) hb)
                  have n1_ := A_ (blk_below (g := gb108) (o := .cells #[.int .i64 t102, .int .i64 t103, .int .i64 t104] 27 (0, 0)) (by (with_reducible repeat first | refine cA_ ?_ _ | refine cB_ ?_ | refine cC_ ?_ _); exact BK108.1) hb)
                  have n2_ := A_ (blk_below (g := gb109) (o := .cells #[.int .i64 t105, .int .i64 t106, .int .i64 t107] 27 (0, 0)) (by (with_reducible repeat first | refine cA_ ?_ _ | refine cB_ ?_ | refine cC_ ?_ _); exact BK109.1) hb)
                  have n3_ := A_ (blk_below (g := gb115) (o := .cells #[.int .i64 t111, .int .i64 t112, .int .i64 t113] 27 (0, 0)) (by (with_reducible repeat first | refine cA_ ?_ _ | refine cB_ ?_ | refine cC_ ?_ _); exact BK115.1) hb)
                  have n4_ := A_ (below_step (by repeat first | exact HB.1 | apply bA_ | apply bB_ | apply bC_ | refine below_set ?_ GE108.out | refine below_set ?_ GE109.out | refine below_set ?_ GE115.out) hb)
                  have n5_ := A_ (hbox)
                  have n6_ := A_ ((by rw [hg]; exact (below_size (by repeat first | exact HB.1 | apply bA_ | apply bB_ | apply bC_ | refine below_set ?_ GE108.out | refine below_set ?_ GE109.out | refine below_set ?_ GE115.out)) : w.heap.size ≤ gb131))
                  have n7_ := A_ ((by rw [hg]; exact (below_size (by repeat first | exact HB.1 | apply bA_ | apply bB_ | apply bC_ | refine below_set ?_ GE108.out | refine below_set ?_ GE109.out | refine below_set ?_ GE115.out)) : w.heap.size ≤ gb131))
                  have n8_ := A_ ((by rw [hg]; exact Nat.ne_of_lt (blk_lt (g := gb108) (o := .cells #[.int .i64 t102, .int .i64 t103, .int .i64 t104] 27 (0, 0)) (by (with_reducible repeat first | refine cA_ ?_ _ | refine cB_ ?_ | refine cC_ ?_ _); exact BK108.1)) : gb108 ≠ gb131))
                  have n9_ := A_ ((by rw [hg]; exact Nat.ne_of_gt (blk_lt (g := gb108) (o := .cells #[.int .i64 t102, .int .i64 t103, .int .i64 t104] 27 (0, 0)) (by (with_reducible repeat first | refine cA_ ?_ _ | refine cB_ ?_ | refine cC_ ?_ _); exact BK108.1)) : gb131 ≠ gb108))
                  have n10_ := A_ ((by rw [hg]; exact Nat.ne_of_lt (blk_lt (g := gb109) (o := .cells #[.int .i64 t105, .int .i64 t106, .int .i64 t107] 27 (0, 0)) (by (with_reducible repeat first | refine cA_ ?_ _ | refine cB_ ?_ | refine cC_ ?_ _); exact BK109.1)) : gb109 ≠ gb131))
                  have n11_ := A_ ((by rw [hg]; exact Nat.ne_of_gt (blk_lt (g := gb109) (o := .cells #[.int .i64 t105, .int .i64 t106, .int .i64 t107] 27 (0, 0)) (by (with_reducible repeat first | refine cA_ ?_ _ | refine cB_ ?_ | refine cC_ ?_ _); exact BK109.1)) : gb131 ≠ gb109))
                  have n12_ := A_ ((by rw [hg]; exact Nat.ne_of_lt (blk_lt (g := gb115) (o := .cells #[.int .i64 t111, .int .i64 t112, .int .i64 t113] 27 (0, 0)) (by (with_reducible repeat first | refine cA_ ?_ _ | refine cB_ ?_ | refine cC_ ?_ _); exact BK115.1)) : gb115 ≠ gb131))
                  have n13_ := A_ ((by rw [hg]; exact Nat.ne_of_gt (blk_lt (g := gb115) (o := .cells #[.int .i64 t111, .int .i64 t112, .int .i64 t113] 27 (0, 0)) (by (with_reducible repeat first | refine cA_ ?_ _ | refine cB_ ?_ | refine cC_ ?_ _); exact BK115.1)) : gb131 ≠ gb115))
                  clear HO_10 BK108 BK109 BK115 HB; have HO_10 := n0_; have BK108 := n1_; have BK109 := n2_; have BK115 := n3_; have HB := n4_; have BK131 := n5_; have GW131 := n6_; have GE131 := n7_; have NB108_131 := n8_; have NB131_108 := n9_; have NB109_131 := n10_; have NB131_109 := n11_; have NB115_131 := n12_; have NB131_115 := n13_; clear n0_ n1_ n2_ n3_ n4_ n5_ n6_ n7_ n8_ n9_ n10_ n11_ n12_ n13_ hb hbox hg
                  refine hK.out _ _ ⟨(blk_cell BK108.out 0).trans rfl, (blk_cell BK108.out 1).trans rfl, (blk_cell BK108.out 2).trans rfl, HS3_⟩ (fun hHeld => ?_)
                  clear hK K
                  refine norm_ (a' := ?_) ?_ ?_; rotate_left; (show Act.put _ (some 14) _ = _; simp only [P6_]; rfl)
                  refine on_ 6 (some 89) rfl rfl HT_ (by kernel_rfl) (by decide) (fun K hK => ?_)
                  refine gs_ Tryd.func14 #[.agg #[.int .i64 t102, .int .i64 t103, .int .i64 t104], .int .i64 x9_1, .int .i64 (rd t117 x13_3)] ?_
                  with_reducible refine (impl_SwapGaps.calls kj48 t102 t103 t104 x9_1 (rd t117 x13_3) t127 t128 t129 true _ A60.out).mono ?_
                  rintro e w68 ⟨rfl, hb⟩
                  have HS3_ := (hb.cell (World.block_lt_of_cell? _ _ (hHeld.2.2.2))).trans (hHeld.2.2.2)
                  refine ⟨_, rfl, ?_⟩
                  have n0_ := A_ (Kd.R_below (by (with_reducible repeat (first | apply Kd.R_alloc | apply Kd.R_drewN | apply Kd.R_drew)); exact HO_10.out) hb)
                  have n1_ := A_ (blk_below (g := gb108) (o := .cells #[.int .i64 t102, .int .i64 t103, .int .i64 t104] 27 (0, 0)) (by (with_reducible repeat first | refine cA_ ?_ _ | refine cB_ ?_ | refine cC_ ?_ _); exact BK108.1) hb)
                  have n2_ := A_ (blk_below (g := gb109) (o := .cells #[.int .i64 t105, .int .i64 t106, .int .i64 t107] 27 (0, 0)) (by (with_reducible repeat first | refine cA_ ?_ _ | refine cB_ ?_ | refine cC_ ?_ _); exact BK109.1) hb)
                  have n3_ := A_ (blk_below (g := gb115) (o := .cells #[.int .i64 t111, .int .i64 t112, .int .i64 t113] 27 (0, 0)) (by (with_reducible repeat first | refine cA_ ?_ _ | refine cB_ ?_ | refine cC_ ?_ _); exact BK115.1) hb)
                  have n4_ := A_ (blk_below (g := gb131) (o := .cells #[.int .i64 0, .int .i64 0, .int .i64 0] 27 (0, 0)) (by (with_reducible repeat first | refine cA_ ?_ _ | refine cB_ ?_ | refine cC_ ?_ _); exact BK131.1) hb)
                  have n5_ := A_ (below_step (by repeat first | exact HB.1 | apply bA_ | apply bB_ | apply bC_ | refine below_set ?_ GE108.out | refine below_set ?_ GE109.out | refine below_set ?_ GE115.out | refine below_set ?_ GE131.out) hb)
                  clear HO_10 BK108 BK109 BK115 BK131 HB; have HO_10 := n0_; have BK108 := n1_; have BK109 := n2_; have BK115 := n3_; have BK131 := n4_; have HB := n5_; clear n0_ n1_ n2_ n3_ n4_ n5_; (try clear hb); (try clear hk)
                  refine hK.out _ _ ⟨(blk_cell BK108.out 0).trans rfl, (blk_cell BK108.out 1).trans rfl, (blk_cell BK108.out 2).trans rfl, HS3_⟩ (fun hHeld => ?_)
                  clear hK K
                  refine norm_ (a' := ?_) ?_ ?_; rotate_left; (show Act.put _ (some 89) _ = _; simp only [P6_]; rfl)
                  refine pv_ 7 82 HT_ ?_; refine pv_ 8 90 HT_ ?_; refine pv_ 9 91 HT_ ?_
                  exact norm_ (by simp only [putAll, Act.put, List.setIfInBounds_toArray, List.set_cons_zero, List.set_cons_succ]) (hCont (gb131) _ ⟨hHeld, (by (with_reducible repeat (first | apply Kd.R_alloc | apply Kd.R_drewN | apply Kd.R_drew)); exact HO_10.out), (by (with_reducible repeat first | refine cA_ ?_ _ | refine cB_ ?_ | refine cC_ ?_ _); exact BK108.1), (by (with_reducible repeat first | refine cA_ ?_ _ | refine cB_ ?_ | refine cC_ ?_ _); exact BK109.1), (by (with_reducible repeat first | refine cA_ ?_ _ | refine cB_ ?_ | refine cC_ ?_ _); exact BK115.1), (by (with_reducible repeat first | refine cA_ ?_ _ | refine cB_ ?_ | refine cC_ ?_ _); exact BK131.1), GW131.out, GE131.out, NB108_131.out, NB131_108.out, NB109_131.out, NB131_109.out, NB115_131.out, NB131_115.out, (by repeat first | exact HB.1 | apply bA_ | apply bB_ | apply bC_ | refine below_set ?_ GE108.out | refine below_set ?_ GE109.out | refine below_set ?_ GE115.out | refine below_set ?_ GE131.out)⟩)
                rintro gb131 w69 ⟨hS_, h0_, h1_, h2_, h3_, h4_, h5_, h6_, h7_, h8_, h9_, h10_, h11_, h12_, h13_⟩
                have n0_ : Aside0 (Kd.R (Kd.int .i64) 3 w69 w.heap.size (fun _ => True) (.slice (some ad126) t117.length co32) t117) := ⟨h0_⟩
                have n1_ : Aside0 (w69.heap[gb108]? = some (.cells #[.int .i64 t102, .int .i64 t103, .int .i64 t104] 27 (0, 0))) := ⟨h1_⟩
                have n2_ : Aside0 (w69.heap[gb109]? = some (.cells #[.int .i64 t105, .int .i64 t106, .int .i64 t107] 27 (0, 0))) := ⟨h2_⟩
                have n3_ : Aside0 (w69.heap[gb115]? = some (.cells #[.int .i64 t111, .int .i64 t112, .int .i64 t113] 27 (0, 0))) := ⟨h3_⟩
                have n4_ : Aside0 (w69.heap[gb131]? = some (.cells #[.int .i64 0, .int .i64 0, .int .i64 0] 27 (0, 0))) := ⟨h4_⟩
                have n5_ : Aside0 (w.heap.size ≤ gb131) := ⟨h5_⟩
                have n6_ : Aside0 (w.heap.size ≤ gb131) := ⟨h6_⟩
                have n7_ : Aside0 (gb108 ≠ gb131) := ⟨h7_⟩
                have n8_ : Aside0 (gb131 ≠ gb108) := ⟨h8_⟩
                have n9_ : Aside0 (gb109 ≠ gb131) := ⟨h9_⟩
                have n10_ : Aside0 (gb131 ≠ gb109) := ⟨h10_⟩
                have n11_ : Aside0 (gb115 ≠ gb131) := ⟨h11_⟩
                have n12_ : Aside0 (gb131 ≠ gb115) := ⟨h12_⟩
                have n13_ : Aside0 (Below w.heap.size w w69) := ⟨h13_⟩
                clear HO_10 BK108 BK109 BK115 HB h0_ h1_ h2_ h3_ h4_ h5_ h6_ h7_ h8_ h9_ h10_ h11_ h12_ h13_; have HO_10 := n0_; have BK108 := n1_; have BK109 := n2_; have BK115 := n3_; have BK131 := n4_; have GW131 := n5_; have GE131 := n6_; have NB108_131 := n7_; have NB131_108 := n8_; have NB109_131 := n9_; have NB131_109 := n10_; have NB115_131 := n11_; have NB131_115 := n12_; have HB := n13_; clear n0_ n1_ n2_ n3_ n4_ n5_ n6_ n7_ n8_ n9_ n10_ n11_ n12_ n13_
                have hHeld : w69.cell? ⟨gb108, 0, none⟩ = some (.int .i64 t102) ∧ w69.cell? ⟨gb108, 1, none⟩ = some (.int .i64 t103) ∧ w69.cell? ⟨gb108, 2, none⟩ = some (.int .i64 t104) ∧ w69.cell? (ad126.add (x13_3).toNat) = some (.int .i64 (rd t117 x13_3)) := hS_
                refine norm_ (a' := ?_) ?_ ?_
                rotate_left
                ·simp only [putAll, Act.put, List.setIfInBounds_toArray, List.set_cons_zero, List.set_cons_succ]
                 rfl
                refine one_ (i := 11) (N := none) #[true, true, true, true, true, true, true, true, true, true, true, true, false] rfl rfl (one_of HT_.out (by kernel_rfl)) (by decide) (fun K hK => ?_)
                have hs70 : w69.cell? ⟨gb131, 0, none⟩ = some (.int .i64 0) := (blk_cell BK131.out 0).trans rfl
                have hfs70 := bf_ BK131.out 0
                have hns70_0 := NB108_131.out
                have hns70_1 := NB109_131.out
                have hns70_2 := NB115_131.out
                have hms70_0 := NB131_108.out
                have hms70_1 := NB131_109.out
                have hms70_2 := NB131_115.out
                have hs71 : w69.cell? ⟨gb131, 1, none⟩ = some (.int .i64 0) := (blk_cell BK131.out 1).trans rfl
                have hfs71 := bf_ BK131.out 1
                have hns71_0 := NB108_131.out
                have hns71_1 := NB109_131.out
                have hns71_2 := NB115_131.out
                have hms71_0 := NB131_108.out
                have hms71_1 := NB131_109.out
                have hms71_2 := NB131_115.out
                have hs72 : w69.cell? ⟨gb131, 2, none⟩ = some (.int .i64 0) := (blk_cell BK131.out 2).trans rfl
                have hfs72 := bf_ BK131.out 2
                have hns72_0 := NB108_131.out
                have hns72_1 := NB109_131.out
                have hns72_2 := NB115_131.out
                have hms72_0 := NB131_108.out
                have hms72_1 := NB131_109.out
                have hms72_2 := NB131_115.out
                refine skip_ (w1 := ?_) (by rfl) rfl ?_ ?_
                rotate_left
                ·go_simp
                 rfl
                refine hK.out _ _ ⟨((cell_far (p := ⟨gb131, _, none⟩) NB108_131.out _).trans (((cell_far (p := ⟨gb131, _, none⟩) NB108_131.out _).trans (((cell_far (p := ⟨gb131, _, none⟩) NB108_131.out _).trans (hHeld.1)))))), ((cell_far (p := ⟨gb131, _, none⟩) NB108_131.out _).trans (((cell_far (p := ⟨gb131, _, none⟩) NB108_131.out _).trans (((cell_far (p := ⟨gb131, _, none⟩) NB108_131.out _).trans (hHeld.2.1)))))), ((cell_far (p := ⟨gb131, _, none⟩) NB108_131.out _).trans (((cell_far (p := ⟨gb131, _, none⟩) NB108_131.out _).trans (((cell_far (p := ⟨gb131, _, none⟩) NB108_131.out _).trans (hHeld.2.2.1)))))), ((cell_far (p := ⟨gb131, _, none⟩) (by first | exact Kd.own_blk (Kd.R_ne HO_10.out BK131.out (by decide)) | (rw [add_block]; exact Kd.own_blk (Kd.R_ne HO_10.out BK131.out (by decide))) | (show (Addr.add _ _).block ≠ _; rw [add_block]; exact Kd.own_blk (Kd.R_ne HO_10.out BK131.out (by decide))) | (dsimp only; exact Kd.own_blk (Kd.R_ne HO_10.out BK131.out (by decide)))) _).trans (((cell_far (p := ⟨gb131, _, none⟩) (by first | exact Kd.own_blk (Kd.R_ne HO_10.out BK131.out (by decide)) | (rw [add_block]; exact Kd.own_blk (Kd.R_ne HO_10.out BK131.out (by decide))) | (show (Addr.add _ _).block ≠ _; rw [add_block]; exact Kd.own_blk (Kd.R_ne HO_10.out BK131.out (by decide))) | (dsimp only; exact Kd.own_blk (Kd.R_ne HO_10.out BK131.out (by decide)))) _).trans (((cell_far (p := ⟨gb131, _, none⟩) (by first | exact Kd.own_blk (Kd.R_ne HO_10.out BK131.out (by decide)) | (rw [add_block]; exact Kd.own_blk (Kd.R_ne HO_10.out BK131.out (by decide))) | (show (Addr.add _ _).block ≠ _; rw [add_block]; exact Kd.own_blk (Kd.R_ne HO_10.out BK131.out (by decide))) | (dsimp only; exact Kd.own_blk (Kd.R_ne HO_10.out BK131.out (by decide)))) _).trans (hHeld.2.2.2))))))⟩ (fun hHeld => ?_)
                clear hK K; refine pv_ 12 15 HT_ ?_
                refine done_ (done_of HT_.out (by kernel_rfl)) ?_
                have hnb73 := NB131_108.out
                have hnc73 := NB108_131.out
                have hnb74 := NB131_109.out
                have hnc74 := NB109_131.out
                have hnb75 := NB131_115.out
                have hnc75 := NB115_131.out
                obtain ⟨hcz76_0, hcz76_1, hcz76_2⟩ := kk3_ BK131.1
                have hfz76_0 := bf_ BK131.out 0
                have hfz76_1 := bf_ BK131.out 1
                have hfz76_2 := bf_ BK131.out 2
                try go_wp2_with (first | (go_at_call 15; (with_reducible refine (impl_IsPerfect.calls kj48 t127 t128 t129 true _ A62.out).mono ?_); rintro e w77 ⟨rfl, hb⟩; (try clear A62); have n0_ := A_ (Kd.R_below (by (with_reducible repeat (first | apply Kd.R_alloc | apply Kd.R_drewN | apply Kd.R_drew)); exact (Kd.R_mono (Kd.R_far (p := ⟨gb131, 2, none⟩) (Kd.R_far (p := ⟨gb131, 1, none⟩) (Kd.R_far (p := ⟨gb131, 0, none⟩) (Kd.R_types HO_10.out BK131.out (by decide)) (fun _ hk => hk.2) (.int .i64 t127)) (fun _ hk => hk.2) (.int .i64 t128)) (fun _ hk => hk.2) (.int .i64 t129)) (fun _ h_ => h_.1))) hb); have n1_ := A_ (blk_below (g := gb108) (o := .cells #[.int .i64 t102, .int .i64 t103, .int .i64 t104] 27 (0, 0)) (by (with_reducible repeat (first | refine blk_drewN ?_ _ | refine blk_drew ?_ | refine blk_alloc ?_ _)); refine blk_far ?_ NB108_131.out _; (with_reducible repeat (first | refine blk_drewN ?_ _ | refine blk_drew ?_ | refine blk_alloc ?_ _)); refine blk_far ?_ NB108_131.out _; (with_reducible repeat (first | refine blk_drewN ?_ _ | refine blk_drew ?_ | refine blk_alloc ?_ _)); refine blk_far ?_ NB108_131.out _; (with_reducible repeat (first | refine blk_drewN ?_ _ | refine blk_drew ?_ | refine blk_alloc ?_ _)); exact BK108.out) hb); have n2_ := A_ (blk_below (g := gb109) (o := .cells #[.int .i64 t105, .int .i64 t106, .int .i64 t107] 27 (0, 0)) (by (with_reducible repeat (first | refine blk_drewN ?_ _ | refine blk_drew ?_ | refine blk_alloc ?_ _)); refine blk_far ?_ NB109_131.out _; (with_reducible repeat (first | refine blk_drewN ?_ _ | refine blk_drew ?_ | refine blk_alloc ?_ _)); refine blk_far ?_ NB109_131.out _; (with_reducible repeat (first | refine blk_drewN ?_ _ | refine blk_drew ?_ | refine blk_alloc ?_ _)); refine blk_far ?_ NB109_131.out _; (with_reducible repeat (first | refine blk_drewN ?_ _ | refine blk_drew ?_ | refine blk_alloc ?_ _)); exact BK109.out) hb); have n3_ := A_ (blk_below (g := gb115) (o := .cells #[.int .i64 t111, .int .i64 t112, .int .i64 t113] 27 (0, 0)) (by (with_reducible repeat (first | refine blk_drewN ?_ _ | refine blk_drew ?_ | refine blk_alloc ?_ _)); refine blk_far ?_ NB115_131.out _; (with_reducible repeat (first | refine blk_drewN ?_ _ | refine blk_drew ?_ | refine blk_alloc ?_ _)); refine blk_far ?_ NB115_131.out _; (with_reducible repeat (first | refine blk_drewN ?_ _ | refine blk_drew ?_ | refine blk_alloc ?_ _)); refine blk_far ?_ NB115_131.out _; (with_reducible repeat (first | refine blk_drewN ?_ _ | refine blk_drew ?_ | refine blk_alloc ?_ _)); exact BK115.out) hb); have n4_ := A_ (blk_below (g := gb131) (o := .cells #[.int .i64 t127, .int .i64 t128, .int .i64 t129] 27 (0, 0)) (by (with_reducible repeat (first | refine blk_drewN ?_ _ | refine blk_drew ?_ | refine blk_alloc ?_ _)); refine blk_put (cs := #[.int .i64 t127, .int .i64 t128, .int .i64 0]) ?_ 2 _ rfl; (with_reducible repeat (first | refine blk_drewN ?_ _ | refine blk_drew ?_ | refine blk_alloc ?_ _)); refine blk_put (cs := #[.int .i64 t127, .int .i64 0, .int .i64 0]) ?_ 1 _ rfl; (with_reducible repeat (first | refine blk_drewN ?_ _ | refine blk_drew ?_ | refine blk_alloc ?_ _)); refine blk_put (cs := #[.int .i64 0, .int .i64 0, .int .i64 0]) ?_ 0 _ rfl; (with_reducible repeat (first | refine blk_drewN ?_ _ | refine blk_drew ?_ | refine blk_alloc ?_ _)); exact BK131.out) hb); have n5_ := A_ (below_step (by repeat first | exact HB.1 | apply bA_ | apply bB_ | apply bC_ | refine below_set ?_ GE108.out | refine below_set ?_ GE109.out | refine below_set ?_ GE115.out | refine below_set ?_ GE131.out) hb); clear HO_10 BK108 BK109 BK115 BK131 HB; have HO_10 := n0_; have BK108 := n1_; have BK109 := n2_; have BK115 := n3_; have BK131 := n4_; have HB := n5_; clear n0_ n1_ n2_ n3_ n4_ n5_; (try clear hb); (try clear hk); have hnb78 := NB108_109.out; have hnc78 := NB109_108.out; have hnb79 := NB108_115.out; have hnc79 := NB115_108.out; obtain ⟨hcz80_0, hcz80_1, hcz80_2⟩ := kk3_ BK108.1; have hfz80_0 := bf_ BK108.out 0; have hfz80_1 := bf_ BK108.out 1; have hfz80_2 := bf_ BK108.out 2; obtain ⟨hcz81_0, hcz81_1, hcz81_2⟩ := kk3_ BK131.1; have hfz81_0 := bf_ BK131.out 0; have hfz81_1 := bf_ BK131.out 1; have hfz81_2 := bf_ BK131.out 2) | (go_at_call 6; (with_reducible refine (impl_GapsApart.calls kj48 t102 t103 t104 t127 t128 t129 t133 _ A64.out).mono ?_); rintro e w82 ⟨rfl, hb⟩; (try clear A64); have n0_ := A_ (Kd.R_below (by (with_reducible repeat (first | apply Kd.R_alloc | apply Kd.R_drewN | apply Kd.R_drew)); exact HO_10.out) hb); have n1_ := A_ (blk_below (g := gb108) (o := .cells #[.int .i64 t102, .int .i64 t103, .int .i64 t104] 27 (0, 0)) (by (with_reducible repeat first | refine cA_ ?_ _ | refine cB_ ?_ | refine cC_ ?_ _); exact BK108.1) hb); have n2_ := A_ (blk_below (g := gb109) (o := .cells #[.int .i64 t105, .int .i64 t106, .int .i64 t107] 27 (0, 0)) (by (with_reducible repeat first | refine cA_ ?_ _ | refine cB_ ?_ | refine cC_ ?_ _); exact BK109.1) hb); have n3_ := A_ (blk_below (g := gb115) (o := .cells #[.int .i64 t111, .int .i64 t112, .int .i64 t113] 27 (0, 0)) (by (with_reducible repeat first | refine cA_ ?_ _ | refine cB_ ?_ | refine cC_ ?_ _); exact BK115.1) hb); have n4_ := A_ (blk_below (g := gb131) (o := .cells #[.int .i64 t127, .int .i64 t128, .int .i64 t129] 27 (0, 0)) (by (with_reducible repeat first | refine cA_ ?_ _ | refine cB_ ?_ | refine cC_ ?_ _); exact BK131.1) hb); have n5_ := A_ (below_step (by repeat first | exact HB.1 | apply bA_ | apply bB_ | apply bC_ | refine below_set ?_ GE108.out | refine below_set ?_ GE109.out | refine below_set ?_ GE115.out | refine below_set ?_ GE131.out) hb); clear HO_10 BK108 BK109 BK115 BK131 HB; have HO_10 := n0_; have BK108 := n1_; have BK109 := n2_; have BK115 := n3_; have BK131 := n4_; have HB := n5_; clear n0_ n1_ n2_ n3_ n4_ n5_; (try clear hb); (try clear hk)))
                go_roundg kj48
                case measure => have := HK1.out; have := HJ24.out; have := HK3.out; have := HJ48.out; omega
                case rel => exact ⟨(wrap64 (x13_3 + 1)), (by first | rfl | (simp; done) | (simp [*]; done)), H', ⟨by have := HK1.out; have := HJ24.out; have := HK3.out; have := HJ48.out; omega⟩, ⟨by (with_reducible repeat (first | apply Kd.R_alloc | apply Kd.R_drewN | apply Kd.R_drew)); exact HO_10.out⟩, ⟨by (with_reducible repeat (first | refine blk_drewN ?_ _ | refine blk_drew ?_ | refine blk_alloc ?_ _)); exact BK108.out⟩, ⟨by (with_reducible repeat (first | refine blk_drewN ?_ _ | refine blk_drew ?_ | refine blk_alloc ?_ _)); exact BK109.out⟩, ⟨by (with_reducible repeat (first | refine blk_drewN ?_ _ | refine blk_drew ?_ | refine blk_alloc ?_ _)); exact BK115.out⟩, ⟨by repeat (first | (with_reducible first | exact HB.out | apply below_alloc | apply pw_below_drewN | apply below_drew1 | refine below_set ?_ GE108.out | refine below_set ?_ GE109.out | refine below_set ?_ GE115.out | refine below_set ?_ GE131.out) | exact HB.out)⟩⟩
               ·rw [if_neg c65] at H; exact absurd H (by simp)
              ·rw [if_neg c63] at H; exact absurd H (by simp)
             ·rw [if_neg c61] at H; exact absurd H (by simp)
            ·replace c57 := Bool.eq_false_iff.mpr c57
             subst c57
             have H1 : (laws_FnSwaps.l0 kj48 l0 t110 t114 (wrap64 (x8_1 + (t117.length : Int))) (wrap64 (x9_1 + 1)) t102 t103 t104 t105 t106 t107 t111 t112 t113) = some r := by rw [if_neg (show ¬ (false = true) by decide)] at H; exact H
             clear H
             have H := H1
             clear H1
             have H' := A_ H
             clear H
             go_wp2
             go_roundg kj48
             case measure => have := HK1.out; have := HJ24.out; have := HK3.out; have := HJ48.out; omega
             case rel => exact ⟨((wrap64 (x8_1 + (t117.length : Int)))), (wrap64 (x9_1 + 1)), (by first | rfl | (simp; done) | (simp [*]; done)), (by first | rfl | (simp; done) | (simp [*]; done)), H', ⟨by have := HK1.out; have := HJ24.out; have := HK3.out; have := HJ48.out; omega⟩, ⟨by (with_reducible repeat (first | refine blk_drewN ?_ _ | refine blk_drew ?_ | refine blk_alloc ?_ _)); exact BK108.out⟩, ⟨by (with_reducible repeat (first | refine blk_drewN ?_ _ | refine blk_drew ?_ | refine blk_alloc ?_ _)); exact BK109.out⟩, ⟨by (with_reducible repeat (first | refine blk_drewN ?_ _ | refine blk_drew ?_ | refine blk_alloc ?_ _)); exact BK115.out⟩, ⟨by repeat (first | (with_reducible first | exact HB.out | apply below_alloc | apply pw_below_drewN | apply below_drew1 | refine below_set ?_ GE108.out | refine below_set ?_ GE109.out | refine below_set ?_ GE115.out) | exact HB.out)⟩⟩
    ·rw [if_neg c22] at H
     have c22b0 : decide (x9_1 < t116) = false := decide_eq_false c22
     clear c22
     by_cases c119 : t110 ≥ 0
     ·rw [if_pos c119] at H
      have c119b0 : decide (0 ≤ t110) = true := decide_eq_true c119
      clear c119
      obtain ⟨t134, A1200, H⟩ := oB_ H
      (try dsimp only at H); have A120 := A_ A1200; clear A1200
      by_cases c121 : t134 = true
      ·subst c121
       rw [if_pos rfl] at H
       obtain ⟨t135, A1220, H⟩ := oB_ H
       (try dsimp only at H); have A122 := A_ A1220; clear A1220
       by_cases c123 : t110 = t135
       ·rw [if_pos c123] at H
        have c123b0 : (t110 == t135) = true := beq_iff_eq.mpr c123
        have c123b1 : (t110 != t135) = false := bne_eq_false_iff_eq.mpr c123
        clear c123
        obtain ⟨t136, A1240, H⟩ := oB_ H
        (try dsimp only at H); have A124 := A_ A1240; clear A1240
        by_cases c125 : t136 = t110
        ·rw [if_pos c125] at H
         have c125b0 : (t136 == t110) = true := beq_iff_eq.mpr c125
         have c125b1 : (t136 != t110) = false := bne_eq_false_iff_eq.mpr c125
         clear c125
         by_cases c126 : (t114 == (decide (t110 > 0))) = true
         ·rw [if_pos c126] at H
          have c126b0 : (t114 == (decide (t110 > 0))) = true := c126
          (try (have c126b1 : decide (t114 = (decide (t110 > 0))) = true := by simpa using c126))
          (try (have c126b2 : (t114 == (decide (t110 > 0))) = true := by simpa using c126))
          clear c126
          by_cases c127 : t114 = true
          ·subst c127
           rw [if_pos rfl] at H
           obtain ⟨t137, A1280, H⟩ := oB_ H
           (try dsimp only at H); have A128 := A_ A1280; clear A1280
           by_cases c129 : t137 = true
           ·subst c129
            rw [if_pos rfl] at H
            obtain ⟨t138, A1300, H⟩ := oB_ H
            (try dsimp only at H); have A130 := A_ A1300; clear A1300
            by_cases c131 : t138 = (wrap64 (t110 - 1))
            ·rw [if_pos c131] at H
             have c131b0 : (t138 == (wrap64 (t110 - 1))) = true := beq_iff_eq.mpr c131
             have c131b1 : (t138 != (wrap64 (t110 - 1))) = false := bne_eq_false_iff_eq.mpr c131
             clear c131
             obtain ⟨t139, A1320, H⟩ := oB_ H
             (try dsimp only at H); have A132 := A_ A1320; clear A1320
             obtain rfl := Option.some.inj H
             have hnb133 := NB108_109.out
             have hnc133 := NB109_108.out
             have hnb134 := NB108_115.out
             have hnc134 := NB115_108.out
             obtain ⟨hcz135_0, hcz135_1, hcz135_2⟩ := kk3_ BK108.1
             have hfz135_0 := bf_ BK108.out 0
             have hfz135_1 := bf_ BK108.out 1
             have hfz135_2 := bf_ BK108.out 2
             go_wp2_with (first | ((with_reducible refine gate_callee (f := 8) rfl ?_); refine gl_ 35 Tryd.func8 #[.agg #[.int .i64 t102, .int .i64 t103]] ?_; (with_reducible refine (spec_CountGaps.calls t102 t103 t116 _ A21.out).mono ?_); rintro e w136 ⟨rfl, hb⟩; (try clear A21); refine ⟨_, rfl, ?_⟩; have n0_ := A_ (blk_below (g := gb108) (o := .cells #[.int .i64 t102, .int .i64 t103, .int .i64 t104] 27 (0, 0)) (by (with_reducible repeat first | refine cA_ ?_ _ | refine cB_ ?_ | refine cC_ ?_ _); exact BK108.1) hb); have n1_ := A_ (blk_below (g := gb109) (o := .cells #[.int .i64 t105, .int .i64 t106, .int .i64 t107] 27 (0, 0)) (by (with_reducible repeat first | refine cA_ ?_ _ | refine cB_ ?_ | refine cC_ ?_ _); exact BK109.1) hb); have n2_ := A_ (blk_below (g := gb115) (o := .cells #[.int .i64 t111, .int .i64 t112, .int .i64 t113] 27 (0, 0)) (by (with_reducible repeat first | refine cA_ ?_ _ | refine cB_ ?_ | refine cC_ ?_ _); exact BK115.1) hb); have n3_ := A_ (below_step (by repeat first | exact HB.1 | apply bA_ | apply bB_ | apply bC_ | refine below_set ?_ GE108.out | refine below_set ?_ GE109.out | refine below_set ?_ GE115.out) hb); clear BK108 BK109 BK115 HB; have BK108 := n0_; have BK109 := n1_; have BK115 := n2_; have HB := n3_; clear n0_ n1_ n2_ n3_; (try clear hb); (try clear hk); obtain ⟨hcz137_0, hcz137_1, hcz137_2⟩ := kk3_ BK108.1; have hfz137_0 := bf_ BK108.out 0; have hfz137_1 := bf_ BK108.out 1; have hfz137_2 := bf_ BK108.out 2) | (go_at_call 15; (with_reducible refine (impl_IsPerfect.calls k1 t102 t103 t104 true _ A120.out).mono ?_); rintro e w138 ⟨rfl, hb⟩; (try clear A120); have n0_ := A_ (blk_below (g := gb108) (o := .cells #[.int .i64 t102, .int .i64 t103, .int .i64 t104] 27 (0, 0)) (by (with_reducible repeat first | refine cA_ ?_ _ | refine cB_ ?_ | refine cC_ ?_ _); exact BK108.1) hb); have n1_ := A_ (blk_below (g := gb109) (o := .cells #[.int .i64 t105, .int .i64 t106, .int .i64 t107] 27 (0, 0)) (by (with_reducible repeat first | refine cA_ ?_ _ | refine cB_ ?_ | refine cC_ ?_ _); exact BK109.1) hb); have n2_ := A_ (blk_below (g := gb115) (o := .cells #[.int .i64 t111, .int .i64 t112, .int .i64 t113] 27 (0, 0)) (by (with_reducible repeat first | refine cA_ ?_ _ | refine cB_ ?_ | refine cC_ ?_ _); exact BK115.1) hb); have n3_ := A_ (below_step (by repeat first | exact HB.1 | apply bA_ | apply bB_ | apply bC_ | refine below_set ?_ GE108.out | refine below_set ?_ GE109.out | refine below_set ?_ GE115.out) hb); clear BK108 BK109 BK115 HB; have BK108 := n0_; have BK109 := n1_; have BK115 := n2_; have HB := n3_; clear n0_ n1_ n2_ n3_; (try clear hb); (try clear hk); have hnb139 := NB109_115.out; have hnc139 := NB115_109.out; obtain ⟨hcz140_0, hcz140_1, hcz140_2⟩ := kk3_ BK109.1; have hfz140_0 := bf_ BK109.out 0; have hfz140_1 := bf_ BK109.out 1; have hfz140_2 := bf_ BK109.out 2; obtain ⟨hcz141_0, hcz141_1, hcz141_2⟩ := kk3_ BK108.1; have hfz141_0 := bf_ BK108.out 0; have hfz141_1 := bf_ BK108.out 1; have hfz141_2 := bf_ BK108.out 2) | (go_at_call 6; (with_reducible refine (impl_GapsApart.calls k1 t105 t106 t107 t102 t103 t104 t135 _ A122.out).mono ?_); rintro e w142 ⟨rfl, hb⟩; (try clear A122); have n0_ := A_ (blk_below (g := gb108) (o := .cells #[.int .i64 t102, .int .i64 t103, .int .i64 t104] 27 (0, 0)) (by (with_reducible repeat first | refine cA_ ?_ _ | refine cB_ ?_ | refine cC_ ?_ _); exact BK108.1) hb); have n1_ := A_ (blk_below (g := gb109) (o := .cells #[.int .i64 t105, .int .i64 t106, .int .i64 t107] 27 (0, 0)) (by (with_reducible repeat first | refine cA_ ?_ _ | refine cB_ ?_ | refine cC_ ?_ _); exact BK109.1) hb); have n2_ := A_ (blk_below (g := gb115) (o := .cells #[.int .i64 t111, .int .i64 t112, .int .i64 t113] 27 (0, 0)) (by (with_reducible repeat first | refine cA_ ?_ _ | refine cB_ ?_ | refine cC_ ?_ _); exact BK115.1) hb); have n3_ := A_ (below_step (by repeat first | exact HB.1 | apply bA_ | apply bB_ | apply bC_ | refine below_set ?_ GE108.out | refine below_set ?_ GE109.out | refine below_set ?_ GE115.out) hb); clear BK108 BK109 BK115 HB; have BK108 := n0_; have BK109 := n1_; have BK115 := n2_; have HB := n3_; clear n0_ n1_ n2_ n3_; (try clear hb); (try clear hk); obtain ⟨hcz143_0, hcz143_1, hcz143_2⟩ := kk3_ BK108.1; have hfz143_0 := bf_ BK108.out 0; have hfz143_1 := bf_ BK108.out 1; have hfz143_2 := bf_ BK108.out 2; obtain ⟨hcz144_0, hcz144_1, hcz144_2⟩ := kk3_ BK109.1; have hfz144_0 := bf_ BK109.out 0; have hfz144_1 := bf_ BK109.out 1; have hfz144_2 := bf_ BK109.out 2) | (go_at_call 16; (refine (impl_SwapsBetween.calls k1 t102 t103 t104 t105 t106 t107 t136 _ A124.out (HTZ.out.below (by repeat first | exact HB.1 | apply bA_ | apply bB_ | apply bC_ | refine below_set ?_ GE108.out | refine below_set ?_ GE109.out | refine below_set ?_ GE115.out))).mono ?_); rintro e w145 ⟨rfl, hb⟩; (try clear A124); have n0_ := A_ (blk_below (g := gb108) (o := .cells #[.int .i64 t102, .int .i64 t103, .int .i64 t104] 27 (0, 0)) (by (with_reducible repeat first | refine cA_ ?_ _ | refine cB_ ?_ | refine cC_ ?_ _); exact BK108.1) hb); have n1_ := A_ (blk_below (g := gb109) (o := .cells #[.int .i64 t105, .int .i64 t106, .int .i64 t107] 27 (0, 0)) (by (with_reducible repeat first | refine cA_ ?_ _ | refine cB_ ?_ | refine cC_ ?_ _); exact BK109.1) hb); have n2_ := A_ (blk_below (g := gb115) (o := .cells #[.int .i64 t111, .int .i64 t112, .int .i64 t113] 27 (0, 0)) (by (with_reducible repeat first | refine cA_ ?_ _ | refine cB_ ?_ | refine cC_ ?_ _); exact BK115.1) hb); have n3_ := A_ (below_step (by repeat first | exact HB.1 | apply bA_ | apply bB_ | apply bC_ | refine below_set ?_ GE108.out | refine below_set ?_ GE109.out | refine below_set ?_ GE115.out) hb); clear BK108 BK109 BK115 HB; have BK108 := n0_; have BK109 := n1_; have BK115 := n2_; have HB := n3_; clear n0_ n1_ n2_ n3_; (try clear hb); (try clear hk); obtain ⟨hcz146_0, hcz146_1, hcz146_2⟩ := kk3_ BK115.1; have hfz146_0 := bf_ BK115.out 0; have hfz146_1 := bf_ BK115.out 1; have hfz146_2 := bf_ BK115.out 2) | (go_at_call 15; (with_reducible refine (impl_IsPerfect.calls k1 t111 t112 t113 true _ A128.out).mono ?_); rintro e w147 ⟨rfl, hb⟩; (try clear A128); have n0_ := A_ (blk_below (g := gb108) (o := .cells #[.int .i64 t102, .int .i64 t103, .int .i64 t104] 27 (0, 0)) (by (with_reducible repeat first | refine cA_ ?_ _ | refine cB_ ?_ | refine cC_ ?_ _); exact BK108.1) hb); have n1_ := A_ (blk_below (g := gb109) (o := .cells #[.int .i64 t105, .int .i64 t106, .int .i64 t107] 27 (0, 0)) (by (with_reducible repeat first | refine cA_ ?_ _ | refine cB_ ?_ | refine cC_ ?_ _); exact BK109.1) hb); have n2_ := A_ (blk_below (g := gb115) (o := .cells #[.int .i64 t111, .int .i64 t112, .int .i64 t113] 27 (0, 0)) (by (with_reducible repeat first | refine cA_ ?_ _ | refine cB_ ?_ | refine cC_ ?_ _); exact BK115.1) hb); have n3_ := A_ (below_step (by repeat first | exact HB.1 | apply bA_ | apply bB_ | apply bC_ | refine below_set ?_ GE108.out | refine below_set ?_ GE109.out | refine below_set ?_ GE115.out) hb); clear BK108 BK109 BK115 HB; have BK108 := n0_; have BK109 := n1_; have BK115 := n2_; have HB := n3_; clear n0_ n1_ n2_ n3_; (try clear hb); (try clear hk); obtain ⟨hcz148_0, hcz148_1, hcz148_2⟩ := kk3_ BK115.1; have hfz148_0 := bf_ BK115.out 0; have hfz148_1 := bf_ BK115.out 1; have hfz148_2 := bf_ BK115.out 2; obtain ⟨hcz149_0, hcz149_1, hcz149_2⟩ := kk3_ BK109.1; have hfz149_0 := bf_ BK109.out 0; have hfz149_1 := bf_ BK109.out 1; have hfz149_2 := bf_ BK109.out 2) | (go_at_call 6; (with_reducible refine (impl_GapsApart.calls k1 t111 t112 t113 t105 t106 t107 t138 _ A130.out).mono ?_); rintro e w150 ⟨rfl, hb⟩; (try clear A130); have n0_ := A_ (blk_below (g := gb108) (o := .cells #[.int .i64 t102, .int .i64 t103, .int .i64 t104] 27 (0, 0)) (by (with_reducible repeat first | refine cA_ ?_ _ | refine cB_ ?_ | refine cC_ ?_ _); exact BK108.1) hb); have n1_ := A_ (blk_below (g := gb109) (o := .cells #[.int .i64 t105, .int .i64 t106, .int .i64 t107] 27 (0, 0)) (by (with_reducible repeat first | refine cA_ ?_ _ | refine cB_ ?_ | refine cC_ ?_ _); exact BK109.1) hb); have n2_ := A_ (blk_below (g := gb115) (o := .cells #[.int .i64 t111, .int .i64 t112, .int .i64 t113] 27 (0, 0)) (by (with_reducible repeat first | refine cA_ ?_ _ | refine cB_ ?_ | refine cC_ ?_ _); exact BK115.1) hb); have n3_ := A_ (below_step (by repeat first | exact HB.1 | apply bA_ | apply bB_ | apply bC_ | refine below_set ?_ GE108.out | refine below_set ?_ GE109.out | refine below_set ?_ GE115.out) hb); clear BK108 BK109 BK115 HB; have BK108 := n0_; have BK109 := n1_; have BK115 := n2_; have HB := n3_; clear n0_ n1_ n2_ n3_; (try clear hb); (try clear hk); obtain ⟨hcz151_0, hcz151_1, hcz151_2⟩ := kk3_ BK108.1; have hfz151_0 := bf_ BK108.out 0; have hfz151_1 := bf_ BK108.out 1; have hfz151_2 := bf_ BK108.out 2) | (go_at_call 17; (with_reducible refine (impl_CountSwaps.calls k1 t102 t103 t104 t139 _ A132.out).mono ?_); rintro e w152 ⟨rfl, hb⟩; (try clear A132); have n0_ := A_ (blk_below (g := gb108) (o := .cells #[.int .i64 t102, .int .i64 t103, .int .i64 t104] 27 (0, 0)) (by (with_reducible repeat first | refine cA_ ?_ _ | refine cB_ ?_ | refine cC_ ?_ _); exact BK108.1) hb); have n1_ := A_ (blk_below (g := gb109) (o := .cells #[.int .i64 t105, .int .i64 t106, .int .i64 t107] 27 (0, 0)) (by (with_reducible repeat first | refine cA_ ?_ _ | refine cB_ ?_ | refine cC_ ?_ _); exact BK109.1) hb); have n2_ := A_ (blk_below (g := gb115) (o := .cells #[.int .i64 t111, .int .i64 t112, .int .i64 t113] 27 (0, 0)) (by (with_reducible repeat first | refine cA_ ?_ _ | refine cB_ ?_ | refine cC_ ?_ _); exact BK115.1) hb); have n3_ := A_ (below_step (by repeat first | exact HB.1 | apply bA_ | apply bB_ | apply bC_ | refine below_set ?_ GE108.out | refine below_set ?_ GE109.out | refine below_set ?_ GE115.out) hb); clear BK108 BK109 BK115 HB; have BK108 := n0_; have BK109 := n1_; have BK115 := n2_; have HB := n3_; clear n0_ n1_ n2_ n3_; (try clear hb); (try clear hk)))
             go_ret
             exact ⟨by first | rfl | (simp [errW_none, errW_some] <;> rfl) | (simp [*, errW_none, errW_some] <;> rfl), by repeat (first | (with_reducible first | exact HB.out | apply below_alloc | apply pw_below_drewN | apply below_drew1 | refine below_set ?_ GE108.out | refine below_set ?_ GE109.out | refine below_set ?_ GE115.out) | exact HB.out)⟩
            ·rw [if_neg c131] at H
             have c131b0 : (t138 == (wrap64 (t110 - 1))) = false := beq_eq_false_iff_ne.mpr c131
             have c131b1 : (t138 != (wrap64 (t110 - 1))) = true := bne_iff_ne.mpr c131
             obtain rfl := Option.some.inj H
             have hnb153 := NB108_109.out
             have hnc153 := NB109_108.out
             have hnb154 := NB108_115.out
             have hnc154 := NB115_108.out
             obtain ⟨hcz155_0, hcz155_1, hcz155_2⟩ := kk3_ BK108.1
             have hfz155_0 := bf_ BK108.out 0
             have hfz155_1 := bf_ BK108.out 1
             have hfz155_2 := bf_ BK108.out 2
             go_wp2_with (first | ((with_reducible refine gate_callee (f := 8) rfl ?_); refine gl_ 35 Tryd.func8 #[.agg #[.int .i64 t102, .int .i64 t103]] ?_; (with_reducible refine (spec_CountGaps.calls t102 t103 t116 _ A21.out).mono ?_); rintro e w156 ⟨rfl, hb⟩; (try clear A21); refine ⟨_, rfl, ?_⟩; have n0_ := A_ (blk_below (g := gb108) (o := .cells #[.int .i64 t102, .int .i64 t103, .int .i64 t104] 27 (0, 0)) (by (with_reducible repeat first | refine cA_ ?_ _ | refine cB_ ?_ | refine cC_ ?_ _); exact BK108.1) hb); have n1_ := A_ (blk_below (g := gb109) (o := .cells #[.int .i64 t105, .int .i64 t106, .int .i64 t107] 27 (0, 0)) (by (with_reducible repeat first | refine cA_ ?_ _ | refine cB_ ?_ | refine cC_ ?_ _); exact BK109.1) hb); have n2_ := A_ (blk_below (g := gb115) (o := .cells #[.int .i64 t111, .int .i64 t112, .int .i64 t113] 27 (0, 0)) (by (with_reducible repeat first | refine cA_ ?_ _ | refine cB_ ?_ | refine cC_ ?_ _); exact BK115.1) hb); have n3_ := A_ (below_step (by repeat first | exact HB.1 | apply bA_ | apply bB_ | apply bC_ | refine below_set ?_ GE108.out | refine below_set ?_ GE109.out | refine below_set ?_ GE115.out) hb); clear BK108 BK109 BK115 HB; have BK108 := n0_; have BK109 := n1_; have BK115 := n2_; have HB := n3_; clear n0_ n1_ n2_ n3_; (try clear hb); (try clear hk); obtain ⟨hcz157_0, hcz157_1, hcz157_2⟩ := kk3_ BK108.1; have hfz157_0 := bf_ BK108.out 0; have hfz157_1 := bf_ BK108.out 1; have hfz157_2 := bf_ BK108.out 2) | (go_at_call 15; (with_reducible refine (impl_IsPerfect.calls k1 t102 t103 t104 true _ A120.out).mono ?_); rintro e w158 ⟨rfl, hb⟩; (try clear A120); have n0_ := A_ (blk_below (g := gb108) (o := .cells #[.int .i64 t102, .int .i64 t103, .int .i64 t104] 27 (0, 0)) (by (with_reducible repeat first | refine cA_ ?_ _ | refine cB_ ?_ | refine cC_ ?_ _); exact BK108.1) hb); have n1_ := A_ (blk_below (g := gb109) (o := .cells #[.int .i64 t105, .int .i64 t106, .int .i64 t107] 27 (0, 0)) (by (with_reducible repeat first | refine cA_ ?_ _ | refine cB_ ?_ | refine cC_ ?_ _); exact BK109.1) hb); have n2_ := A_ (blk_below (g := gb115) (o := .cells #[.int .i64 t111, .int .i64 t112, .int .i64 t113] 27 (0, 0)) (by (with_reducible repeat first | refine cA_ ?_ _ | refine cB_ ?_ | refine cC_ ?_ _); exact BK115.1) hb); have n3_ := A_ (below_step (by repeat first | exact HB.1 | apply bA_ | apply bB_ | apply bC_ | refine below_set ?_ GE108.out | refine below_set ?_ GE109.out | refine below_set ?_ GE115.out) hb); clear BK108 BK109 BK115 HB; have BK108 := n0_; have BK109 := n1_; have BK115 := n2_; have HB := n3_; clear n0_ n1_ n2_ n3_; (try clear hb); (try clear hk); have hnb159 := NB109_115.out; have hnc159 := NB115_109.out; obtain ⟨hcz160_0, hcz160_1, hcz160_2⟩ := kk3_ BK109.1; have hfz160_0 := bf_ BK109.out 0; have hfz160_1 := bf_ BK109.out 1; have hfz160_2 := bf_ BK109.out 2; obtain ⟨hcz161_0, hcz161_1, hcz161_2⟩ := kk3_ BK108.1; have hfz161_0 := bf_ BK108.out 0; have hfz161_1 := bf_ BK108.out 1; have hfz161_2 := bf_ BK108.out 2) | (go_at_call 6; (with_reducible refine (impl_GapsApart.calls k1 t105 t106 t107 t102 t103 t104 t135 _ A122.out).mono ?_); rintro e w162 ⟨rfl, hb⟩; (try clear A122); have n0_ := A_ (blk_below (g := gb108) (o := .cells #[.int .i64 t102, .int .i64 t103, .int .i64 t104] 27 (0, 0)) (by (with_reducible repeat first | refine cA_ ?_ _ | refine cB_ ?_ | refine cC_ ?_ _); exact BK108.1) hb); have n1_ := A_ (blk_below (g := gb109) (o := .cells #[.int .i64 t105, .int .i64 t106, .int .i64 t107] 27 (0, 0)) (by (with_reducible repeat first | refine cA_ ?_ _ | refine cB_ ?_ | refine cC_ ?_ _); exact BK109.1) hb); have n2_ := A_ (blk_below (g := gb115) (o := .cells #[.int .i64 t111, .int .i64 t112, .int .i64 t113] 27 (0, 0)) (by (with_reducible repeat first | refine cA_ ?_ _ | refine cB_ ?_ | refine cC_ ?_ _); exact BK115.1) hb); have n3_ := A_ (below_step (by repeat first | exact HB.1 | apply bA_ | apply bB_ | apply bC_ | refine below_set ?_ GE108.out | refine below_set ?_ GE109.out | refine below_set ?_ GE115.out) hb); clear BK108 BK109 BK115 HB; have BK108 := n0_; have BK109 := n1_; have BK115 := n2_; have HB := n3_; clear n0_ n1_ n2_ n3_; (try clear hb); (try clear hk); obtain ⟨hcz163_0, hcz163_1, hcz163_2⟩ := kk3_ BK108.1; have hfz163_0 := bf_ BK108.out 0; have hfz163_1 := bf_ BK108.out 1; have hfz163_2 := bf_ BK108.out 2; obtain ⟨hcz164_0, hcz164_1, hcz164_2⟩ := kk3_ BK109.1; have hfz164_0 := bf_ BK109.out 0; have hfz164_1 := bf_ BK109.out 1; have hfz164_2 := bf_ BK109.out 2) | (go_at_call 16; (refine (impl_SwapsBetween.calls k1 t102 t103 t104 t105 t106 t107 t136 _ A124.out (HTZ.out.below (by repeat first | exact HB.1 | apply bA_ | apply bB_ | apply bC_ | refine below_set ?_ GE108.out | refine below_set ?_ GE109.out | refine below_set ?_ GE115.out))).mono ?_); rintro e w165 ⟨rfl, hb⟩; (try clear A124); have n0_ := A_ (blk_below (g := gb108) (o := .cells #[.int .i64 t102, .int .i64 t103, .int .i64 t104] 27 (0, 0)) (by (with_reducible repeat first | refine cA_ ?_ _ | refine cB_ ?_ | refine cC_ ?_ _); exact BK108.1) hb); have n1_ := A_ (blk_below (g := gb109) (o := .cells #[.int .i64 t105, .int .i64 t106, .int .i64 t107] 27 (0, 0)) (by (with_reducible repeat first | refine cA_ ?_ _ | refine cB_ ?_ | refine cC_ ?_ _); exact BK109.1) hb); have n2_ := A_ (blk_below (g := gb115) (o := .cells #[.int .i64 t111, .int .i64 t112, .int .i64 t113] 27 (0, 0)) (by (with_reducible repeat first | refine cA_ ?_ _ | refine cB_ ?_ | refine cC_ ?_ _); exact BK115.1) hb); have n3_ := A_ (below_step (by repeat first | exact HB.1 | apply bA_ | apply bB_ | apply bC_ | refine below_set ?_ GE108.out | refine below_set ?_ GE109.out | refine below_set ?_ GE115.out) hb); clear BK108 BK109 BK115 HB; have BK108 := n0_; have BK109 := n1_; have BK115 := n2_; have HB := n3_; clear n0_ n1_ n2_ n3_; (try clear hb); (try clear hk); obtain ⟨hcz166_0, hcz166_1, hcz166_2⟩ := kk3_ BK115.1; have hfz166_0 := bf_ BK115.out 0; have hfz166_1 := bf_ BK115.out 1; have hfz166_2 := bf_ BK115.out 2) | (go_at_call 15; (with_reducible refine (impl_IsPerfect.calls k1 t111 t112 t113 true _ A128.out).mono ?_); rintro e w167 ⟨rfl, hb⟩; (try clear A128); have n0_ := A_ (blk_below (g := gb108) (o := .cells #[.int .i64 t102, .int .i64 t103, .int .i64 t104] 27 (0, 0)) (by (with_reducible repeat first | refine cA_ ?_ _ | refine cB_ ?_ | refine cC_ ?_ _); exact BK108.1) hb); have n1_ := A_ (blk_below (g := gb109) (o := .cells #[.int .i64 t105, .int .i64 t106, .int .i64 t107] 27 (0, 0)) (by (with_reducible repeat first | refine cA_ ?_ _ | refine cB_ ?_ | refine cC_ ?_ _); exact BK109.1) hb); have n2_ := A_ (blk_below (g := gb115) (o := .cells #[.int .i64 t111, .int .i64 t112, .int .i64 t113] 27 (0, 0)) (by (with_reducible repeat first | refine cA_ ?_ _ | refine cB_ ?_ | refine cC_ ?_ _); exact BK115.1) hb); have n3_ := A_ (below_step (by repeat first | exact HB.1 | apply bA_ | apply bB_ | apply bC_ | refine below_set ?_ GE108.out | refine below_set ?_ GE109.out | refine below_set ?_ GE115.out) hb); clear BK108 BK109 BK115 HB; have BK108 := n0_; have BK109 := n1_; have BK115 := n2_; have HB := n3_; clear n0_ n1_ n2_ n3_; (try clear hb); (try clear hk); obtain ⟨hcz168_0, hcz168_1, hcz168_2⟩ := kk3_ BK115.1; have hfz168_0 := bf_ BK115.out 0; have hfz168_1 := bf_ BK115.out 1; have hfz168_2 := bf_ BK115.out 2; obtain ⟨hcz169_0, hcz169_1, hcz169_2⟩ := kk3_ BK109.1; have hfz169_0 := bf_ BK109.out 0; have hfz169_1 := bf_ BK109.out 1; have hfz169_2 := bf_ BK109.out 2) | (go_at_call 6; (with_reducible refine (impl_GapsApart.calls k1 t111 t112 t113 t105 t106 t107 t138 _ A130.out).mono ?_); rintro e w170 ⟨rfl, hb⟩; (try clear A130); have n0_ := A_ (blk_below (g := gb108) (o := .cells #[.int .i64 t102, .int .i64 t103, .int .i64 t104] 27 (0, 0)) (by (with_reducible repeat first | refine cA_ ?_ _ | refine cB_ ?_ | refine cC_ ?_ _); exact BK108.1) hb); have n1_ := A_ (blk_below (g := gb109) (o := .cells #[.int .i64 t105, .int .i64 t106, .int .i64 t107] 27 (0, 0)) (by (with_reducible repeat first | refine cA_ ?_ _ | refine cB_ ?_ | refine cC_ ?_ _); exact BK109.1) hb); have n2_ := A_ (blk_below (g := gb115) (o := .cells #[.int .i64 t111, .int .i64 t112, .int .i64 t113] 27 (0, 0)) (by (with_reducible repeat first | refine cA_ ?_ _ | refine cB_ ?_ | refine cC_ ?_ _); exact BK115.1) hb); have n3_ := A_ (below_step (by repeat first | exact HB.1 | apply bA_ | apply bB_ | apply bC_ | refine below_set ?_ GE108.out | refine below_set ?_ GE109.out | refine below_set ?_ GE115.out) hb); clear BK108 BK109 BK115 HB; have BK108 := n0_; have BK109 := n1_; have BK115 := n2_; have HB := n3_; clear n0_ n1_ n2_ n3_; (try clear hb); (try clear hk)))
             go_ret
             exact ⟨by first | rfl | (simp [errW_none, errW_some] <;> rfl) | (simp [*, errW_none, errW_some] <;> rfl), by repeat (first | (with_reducible first | exact HB.out | apply below_alloc | apply pw_below_drewN | apply below_drew1 | refine below_set ?_ GE108.out | refine below_set ?_ GE109.out | refine below_set ?_ GE115.out) | exact HB.out)⟩
           ·rw [if_neg c129] at H; exact absurd H (by simp)
          ·replace c127 := Bool.eq_false_iff.mpr c127
           subst c127
           have H1 : ((impl_CountSwaps.f k1 t102 t103 t104).bind fun t140 => (some (t140 == x8_1))) = some r := by rw [if_neg (show ¬ (false = true) by decide)] at H; exact H
           clear H
           have H := H1
           clear H1
           obtain ⟨t140, A1860, H⟩ := oB_ H
           (try dsimp only at H); have A186 := A_ A1860; clear A1860
           obtain rfl := Option.some.inj H
           have hnb187 := NB108_109.out
           have hnc187 := NB109_108.out
           have hnb188 := NB108_115.out
           have hnc188 := NB115_108.out
           obtain ⟨hcz189_0, hcz189_1, hcz189_2⟩ := kk3_ BK108.1
           have hfz189_0 := bf_ BK108.out 0
           have hfz189_1 := bf_ BK108.out 1
           have hfz189_2 := bf_ BK108.out 2
           go_wp2_with (first | ((with_reducible refine gate_callee (f := 8) rfl ?_); refine gl_ 35 Tryd.func8 #[.agg #[.int .i64 t102, .int .i64 t103]] ?_; (with_reducible refine (spec_CountGaps.calls t102 t103 t116 _ A21.out).mono ?_); rintro e w190 ⟨rfl, hb⟩; (try clear A21); refine ⟨_, rfl, ?_⟩; have n0_ := A_ (blk_below (g := gb108) (o := .cells #[.int .i64 t102, .int .i64 t103, .int .i64 t104] 27 (0, 0)) (by (with_reducible repeat first | refine cA_ ?_ _ | refine cB_ ?_ | refine cC_ ?_ _); exact BK108.1) hb); have n1_ := A_ (blk_below (g := gb109) (o := .cells #[.int .i64 t105, .int .i64 t106, .int .i64 t107] 27 (0, 0)) (by (with_reducible repeat first | refine cA_ ?_ _ | refine cB_ ?_ | refine cC_ ?_ _); exact BK109.1) hb); have n2_ := A_ (blk_below (g := gb115) (o := .cells #[.int .i64 t111, .int .i64 t112, .int .i64 t113] 27 (0, 0)) (by (with_reducible repeat first | refine cA_ ?_ _ | refine cB_ ?_ | refine cC_ ?_ _); exact BK115.1) hb); have n3_ := A_ (below_step (by repeat first | exact HB.1 | apply bA_ | apply bB_ | apply bC_ | refine below_set ?_ GE108.out | refine below_set ?_ GE109.out | refine below_set ?_ GE115.out) hb); clear BK108 BK109 BK115 HB; have BK108 := n0_; have BK109 := n1_; have BK115 := n2_; have HB := n3_; clear n0_ n1_ n2_ n3_; (try clear hb); (try clear hk); obtain ⟨hcz191_0, hcz191_1, hcz191_2⟩ := kk3_ BK108.1; have hfz191_0 := bf_ BK108.out 0; have hfz191_1 := bf_ BK108.out 1; have hfz191_2 := bf_ BK108.out 2) | (go_at_call 15; (with_reducible refine (impl_IsPerfect.calls k1 t102 t103 t104 true _ A120.out).mono ?_); rintro e w192 ⟨rfl, hb⟩; (try clear A120); have n0_ := A_ (blk_below (g := gb108) (o := .cells #[.int .i64 t102, .int .i64 t103, .int .i64 t104] 27 (0, 0)) (by (with_reducible repeat first | refine cA_ ?_ _ | refine cB_ ?_ | refine cC_ ?_ _); exact BK108.1) hb); have n1_ := A_ (blk_below (g := gb109) (o := .cells #[.int .i64 t105, .int .i64 t106, .int .i64 t107] 27 (0, 0)) (by (with_reducible repeat first | refine cA_ ?_ _ | refine cB_ ?_ | refine cC_ ?_ _); exact BK109.1) hb); have n2_ := A_ (blk_below (g := gb115) (o := .cells #[.int .i64 t111, .int .i64 t112, .int .i64 t113] 27 (0, 0)) (by (with_reducible repeat first | refine cA_ ?_ _ | refine cB_ ?_ | refine cC_ ?_ _); exact BK115.1) hb); have n3_ := A_ (below_step (by repeat first | exact HB.1 | apply bA_ | apply bB_ | apply bC_ | refine below_set ?_ GE108.out | refine below_set ?_ GE109.out | refine below_set ?_ GE115.out) hb); clear BK108 BK109 BK115 HB; have BK108 := n0_; have BK109 := n1_; have BK115 := n2_; have HB := n3_; clear n0_ n1_ n2_ n3_; (try clear hb); (try clear hk); have hnb193 := NB109_115.out; have hnc193 := NB115_109.out; obtain ⟨hcz194_0, hcz194_1, hcz194_2⟩ := kk3_ BK109.1; have hfz194_0 := bf_ BK109.out 0; have hfz194_1 := bf_ BK109.out 1; have hfz194_2 := bf_ BK109.out 2; obtain ⟨hcz195_0, hcz195_1, hcz195_2⟩ := kk3_ BK108.1; have hfz195_0 := bf_ BK108.out 0; have hfz195_1 := bf_ BK108.out 1; have hfz195_2 := bf_ BK108.out 2) | (go_at_call 6; (with_reducible refine (impl_GapsApart.calls k1 t105 t106 t107 t102 t103 t104 t135 _ A122.out).mono ?_); rintro e w196 ⟨rfl, hb⟩; (try clear A122); have n0_ := A_ (blk_below (g := gb108) (o := .cells #[.int .i64 t102, .int .i64 t103, .int .i64 t104] 27 (0, 0)) (by (with_reducible repeat first | refine cA_ ?_ _ | refine cB_ ?_ | refine cC_ ?_ _); exact BK108.1) hb); have n1_ := A_ (blk_below (g := gb109) (o := .cells #[.int .i64 t105, .int .i64 t106, .int .i64 t107] 27 (0, 0)) (by (with_reducible repeat first | refine cA_ ?_ _ | refine cB_ ?_ | refine cC_ ?_ _); exact BK109.1) hb); have n2_ := A_ (blk_below (g := gb115) (o := .cells #[.int .i64 t111, .int .i64 t112, .int .i64 t113] 27 (0, 0)) (by (with_reducible repeat first | refine cA_ ?_ _ | refine cB_ ?_ | refine cC_ ?_ _); exact BK115.1) hb); have n3_ := A_ (below_step (by repeat first | exact HB.1 | apply bA_ | apply bB_ | apply bC_ | refine below_set ?_ GE108.out | refine below_set ?_ GE109.out | refine below_set ?_ GE115.out) hb); clear BK108 BK109 BK115 HB; have BK108 := n0_; have BK109 := n1_; have BK115 := n2_; have HB := n3_; clear n0_ n1_ n2_ n3_; (try clear hb); (try clear hk); obtain ⟨hcz197_0, hcz197_1, hcz197_2⟩ := kk3_ BK108.1; have hfz197_0 := bf_ BK108.out 0; have hfz197_1 := bf_ BK108.out 1; have hfz197_2 := bf_ BK108.out 2; obtain ⟨hcz198_0, hcz198_1, hcz198_2⟩ := kk3_ BK109.1; have hfz198_0 := bf_ BK109.out 0; have hfz198_1 := bf_ BK109.out 1; have hfz198_2 := bf_ BK109.out 2) | (go_at_call 16; (refine (impl_SwapsBetween.calls k1 t102 t103 t104 t105 t106 t107 t136 _ A124.out (HTZ.out.below (by repeat first | exact HB.1 | apply bA_ | apply bB_ | apply bC_ | refine below_set ?_ GE108.out | refine below_set ?_ GE109.out | refine below_set ?_ GE115.out))).mono ?_); rintro e w199 ⟨rfl, hb⟩; (try clear A124); have n0_ := A_ (blk_below (g := gb108) (o := .cells #[.int .i64 t102, .int .i64 t103, .int .i64 t104] 27 (0, 0)) (by (with_reducible repeat first | refine cA_ ?_ _ | refine cB_ ?_ | refine cC_ ?_ _); exact BK108.1) hb); have n1_ := A_ (blk_below (g := gb109) (o := .cells #[.int .i64 t105, .int .i64 t106, .int .i64 t107] 27 (0, 0)) (by (with_reducible repeat first | refine cA_ ?_ _ | refine cB_ ?_ | refine cC_ ?_ _); exact BK109.1) hb); have n2_ := A_ (blk_below (g := gb115) (o := .cells #[.int .i64 t111, .int .i64 t112, .int .i64 t113] 27 (0, 0)) (by (with_reducible repeat first | refine cA_ ?_ _ | refine cB_ ?_ | refine cC_ ?_ _); exact BK115.1) hb); have n3_ := A_ (below_step (by repeat first | exact HB.1 | apply bA_ | apply bB_ | apply bC_ | refine below_set ?_ GE108.out | refine below_set ?_ GE109.out | refine below_set ?_ GE115.out) hb); clear BK108 BK109 BK115 HB; have BK108 := n0_; have BK109 := n1_; have BK115 := n2_; have HB := n3_; clear n0_ n1_ n2_ n3_; (try clear hb); (try clear hk); obtain ⟨hcz200_0, hcz200_1, hcz200_2⟩ := kk3_ BK108.1; have hfz200_0 := bf_ BK108.out 0; have hfz200_1 := bf_ BK108.out 1; have hfz200_2 := bf_ BK108.out 2) | (go_at_call 17; (with_reducible refine (impl_CountSwaps.calls k1 t102 t103 t104 t140 _ A186.out).mono ?_); rintro e w201 ⟨rfl, hb⟩; (try clear A186); have n0_ := A_ (blk_below (g := gb108) (o := .cells #[.int .i64 t102, .int .i64 t103, .int .i64 t104] 27 (0, 0)) (by (with_reducible repeat first | refine cA_ ?_ _ | refine cB_ ?_ | refine cC_ ?_ _); exact BK108.1) hb); have n1_ := A_ (blk_below (g := gb109) (o := .cells #[.int .i64 t105, .int .i64 t106, .int .i64 t107] 27 (0, 0)) (by (with_reducible repeat first | refine cA_ ?_ _ | refine cB_ ?_ | refine cC_ ?_ _); exact BK109.1) hb); have n2_ := A_ (blk_below (g := gb115) (o := .cells #[.int .i64 t111, .int .i64 t112, .int .i64 t113] 27 (0, 0)) (by (with_reducible repeat first | refine cA_ ?_ _ | refine cB_ ?_ | refine cC_ ?_ _); exact BK115.1) hb); have n3_ := A_ (below_step (by repeat first | exact HB.1 | apply bA_ | apply bB_ | apply bC_ | refine below_set ?_ GE108.out | refine below_set ?_ GE109.out | refine below_set ?_ GE115.out) hb); clear BK108 BK109 BK115 HB; have BK108 := n0_; have BK109 := n1_; have BK115 := n2_; have HB := n3_; clear n0_ n1_ n2_ n3_; (try clear hb); (try clear hk)))
           go_ret
           exact ⟨by first | rfl | (simp [errW_none, errW_some] <;> rfl) | (simp [*, errW_none, errW_some] <;> rfl), by repeat (first | (with_reducible first | exact HB.out | apply below_alloc | apply pw_below_drewN | apply below_drew1 | refine below_set ?_ GE108.out | refine below_set ?_ GE109.out | refine below_set ?_ GE115.out) | exact HB.out)⟩
         ·rw [if_neg c126] at H
          have c126b0 : (t114 == (decide (t110 > 0))) = false := by simpa using c126
          (try (have c126b1 : decide (t114 = (decide (t110 > 0))) = false := by simpa using c126))
          (try (have c126b2 : (t114 == (decide (t110 > 0))) = false := by simpa using c126))
          (try (have c126b3 : ¬ (t114 = (decide (t110 > 0))) := by simpa using c126))
          clear c126
          obtain rfl := Option.some.inj H
          have hnb202 := NB108_109.out
          have hnc202 := NB109_108.out
          have hnb203 := NB108_115.out
          have hnc203 := NB115_108.out
          obtain ⟨hcz204_0, hcz204_1, hcz204_2⟩ := kk3_ BK108.1
          have hfz204_0 := bf_ BK108.out 0
          have hfz204_1 := bf_ BK108.out 1
          have hfz204_2 := bf_ BK108.out 2
          go_wp2_with (first | ((with_reducible refine gate_callee (f := 8) rfl ?_); refine gl_ 35 Tryd.func8 #[.agg #[.int .i64 t102, .int .i64 t103]] ?_; (with_reducible refine (spec_CountGaps.calls t102 t103 t116 _ A21.out).mono ?_); rintro e w205 ⟨rfl, hb⟩; (try clear A21); refine ⟨_, rfl, ?_⟩; have n0_ := A_ (blk_below (g := gb108) (o := .cells #[.int .i64 t102, .int .i64 t103, .int .i64 t104] 27 (0, 0)) (by (with_reducible repeat first | refine cA_ ?_ _ | refine cB_ ?_ | refine cC_ ?_ _); exact BK108.1) hb); have n1_ := A_ (blk_below (g := gb109) (o := .cells #[.int .i64 t105, .int .i64 t106, .int .i64 t107] 27 (0, 0)) (by (with_reducible repeat first | refine cA_ ?_ _ | refine cB_ ?_ | refine cC_ ?_ _); exact BK109.1) hb); have n2_ := A_ (blk_below (g := gb115) (o := .cells #[.int .i64 t111, .int .i64 t112, .int .i64 t113] 27 (0, 0)) (by (with_reducible repeat first | refine cA_ ?_ _ | refine cB_ ?_ | refine cC_ ?_ _); exact BK115.1) hb); have n3_ := A_ (below_step (by repeat first | exact HB.1 | apply bA_ | apply bB_ | apply bC_ | refine below_set ?_ GE108.out | refine below_set ?_ GE109.out | refine below_set ?_ GE115.out) hb); clear BK108 BK109 BK115 HB; have BK108 := n0_; have BK109 := n1_; have BK115 := n2_; have HB := n3_; clear n0_ n1_ n2_ n3_; (try clear hb); (try clear hk); obtain ⟨hcz206_0, hcz206_1, hcz206_2⟩ := kk3_ BK108.1; have hfz206_0 := bf_ BK108.out 0; have hfz206_1 := bf_ BK108.out 1; have hfz206_2 := bf_ BK108.out 2) | (go_at_call 15; (with_reducible refine (impl_IsPerfect.calls k1 t102 t103 t104 true _ A120.out).mono ?_); rintro e w207 ⟨rfl, hb⟩; (try clear A120); have n0_ := A_ (blk_below (g := gb108) (o := .cells #[.int .i64 t102, .int .i64 t103, .int .i64 t104] 27 (0, 0)) (by (with_reducible repeat first | refine cA_ ?_ _ | refine cB_ ?_ | refine cC_ ?_ _); exact BK108.1) hb); have n1_ := A_ (blk_below (g := gb109) (o := .cells #[.int .i64 t105, .int .i64 t106, .int .i64 t107] 27 (0, 0)) (by (with_reducible repeat first | refine cA_ ?_ _ | refine cB_ ?_ | refine cC_ ?_ _); exact BK109.1) hb); have n2_ := A_ (blk_below (g := gb115) (o := .cells #[.int .i64 t111, .int .i64 t112, .int .i64 t113] 27 (0, 0)) (by (with_reducible repeat first | refine cA_ ?_ _ | refine cB_ ?_ | refine cC_ ?_ _); exact BK115.1) hb); have n3_ := A_ (below_step (by repeat first | exact HB.1 | apply bA_ | apply bB_ | apply bC_ | refine below_set ?_ GE108.out | refine below_set ?_ GE109.out | refine below_set ?_ GE115.out) hb); clear BK108 BK109 BK115 HB; have BK108 := n0_; have BK109 := n1_; have BK115 := n2_; have HB := n3_; clear n0_ n1_ n2_ n3_; (try clear hb); (try clear hk); have hnb208 := NB109_115.out; have hnc208 := NB115_109.out; obtain ⟨hcz209_0, hcz209_1, hcz209_2⟩ := kk3_ BK109.1; have hfz209_0 := bf_ BK109.out 0; have hfz209_1 := bf_ BK109.out 1; have hfz209_2 := bf_ BK109.out 2; obtain ⟨hcz210_0, hcz210_1, hcz210_2⟩ := kk3_ BK108.1; have hfz210_0 := bf_ BK108.out 0; have hfz210_1 := bf_ BK108.out 1; have hfz210_2 := bf_ BK108.out 2) | (go_at_call 6; (with_reducible refine (impl_GapsApart.calls k1 t105 t106 t107 t102 t103 t104 t135 _ A122.out).mono ?_); rintro e w211 ⟨rfl, hb⟩; (try clear A122); have n0_ := A_ (blk_below (g := gb108) (o := .cells #[.int .i64 t102, .int .i64 t103, .int .i64 t104] 27 (0, 0)) (by (with_reducible repeat first | refine cA_ ?_ _ | refine cB_ ?_ | refine cC_ ?_ _); exact BK108.1) hb); have n1_ := A_ (blk_below (g := gb109) (o := .cells #[.int .i64 t105, .int .i64 t106, .int .i64 t107] 27 (0, 0)) (by (with_reducible repeat first | refine cA_ ?_ _ | refine cB_ ?_ | refine cC_ ?_ _); exact BK109.1) hb); have n2_ := A_ (blk_below (g := gb115) (o := .cells #[.int .i64 t111, .int .i64 t112, .int .i64 t113] 27 (0, 0)) (by (with_reducible repeat first | refine cA_ ?_ _ | refine cB_ ?_ | refine cC_ ?_ _); exact BK115.1) hb); have n3_ := A_ (below_step (by repeat first | exact HB.1 | apply bA_ | apply bB_ | apply bC_ | refine below_set ?_ GE108.out | refine below_set ?_ GE109.out | refine below_set ?_ GE115.out) hb); clear BK108 BK109 BK115 HB; have BK108 := n0_; have BK109 := n1_; have BK115 := n2_; have HB := n3_; clear n0_ n1_ n2_ n3_; (try clear hb); (try clear hk); obtain ⟨hcz212_0, hcz212_1, hcz212_2⟩ := kk3_ BK108.1; have hfz212_0 := bf_ BK108.out 0; have hfz212_1 := bf_ BK108.out 1; have hfz212_2 := bf_ BK108.out 2; obtain ⟨hcz213_0, hcz213_1, hcz213_2⟩ := kk3_ BK109.1; have hfz213_0 := bf_ BK109.out 0; have hfz213_1 := bf_ BK109.out 1; have hfz213_2 := bf_ BK109.out 2) | (go_at_call 16; (refine (impl_SwapsBetween.calls k1 t102 t103 t104 t105 t106 t107 t136 _ A124.out (HTZ.out.below (by repeat first | exact HB.1 | apply bA_ | apply bB_ | apply bC_ | refine below_set ?_ GE108.out | refine below_set ?_ GE109.out | refine below_set ?_ GE115.out))).mono ?_); rintro e w214 ⟨rfl, hb⟩; (try clear A124); have n0_ := A_ (blk_below (g := gb108) (o := .cells #[.int .i64 t102, .int .i64 t103, .int .i64 t104] 27 (0, 0)) (by (with_reducible repeat first | refine cA_ ?_ _ | refine cB_ ?_ | refine cC_ ?_ _); exact BK108.1) hb); have n1_ := A_ (blk_below (g := gb109) (o := .cells #[.int .i64 t105, .int .i64 t106, .int .i64 t107] 27 (0, 0)) (by (with_reducible repeat first | refine cA_ ?_ _ | refine cB_ ?_ | refine cC_ ?_ _); exact BK109.1) hb); have n2_ := A_ (blk_below (g := gb115) (o := .cells #[.int .i64 t111, .int .i64 t112, .int .i64 t113] 27 (0, 0)) (by (with_reducible repeat first | refine cA_ ?_ _ | refine cB_ ?_ | refine cC_ ?_ _); exact BK115.1) hb); have n3_ := A_ (below_step (by repeat first | exact HB.1 | apply bA_ | apply bB_ | apply bC_ | refine below_set ?_ GE108.out | refine below_set ?_ GE109.out | refine below_set ?_ GE115.out) hb); clear BK108 BK109 BK115 HB; have BK108 := n0_; have BK109 := n1_; have BK115 := n2_; have HB := n3_; clear n0_ n1_ n2_ n3_; (try clear hb); (try clear hk)))
          go_ret
          exact ⟨by first | rfl | (simp [errW_none, errW_some] <;> rfl) | (simp [*, errW_none, errW_some] <;> rfl), by repeat (first | (with_reducible first | exact HB.out | apply below_alloc | apply pw_below_drewN | apply below_drew1 | refine below_set ?_ GE108.out | refine below_set ?_ GE109.out | refine below_set ?_ GE115.out) | exact HB.out)⟩
        ·rw [if_neg c125] at H
         have c125b0 : (t136 == t110) = false := beq_eq_false_iff_ne.mpr c125
         have c125b1 : (t136 != t110) = true := bne_iff_ne.mpr c125
         obtain rfl := Option.some.inj H
         have hnb215 := NB108_109.out
         have hnc215 := NB109_108.out
         have hnb216 := NB108_115.out
         have hnc216 := NB115_108.out
         obtain ⟨hcz217_0, hcz217_1, hcz217_2⟩ := kk3_ BK108.1
         have hfz217_0 := bf_ BK108.out 0
         have hfz217_1 := bf_ BK108.out 1
         have hfz217_2 := bf_ BK108.out 2
         go_wp2_with (first | ((with_reducible refine gate_callee (f := 8) rfl ?_); refine gl_ 35 Tryd.func8 #[.agg #[.int .i64 t102, .int .i64 t103]] ?_; (with_reducible refine (spec_CountGaps.calls t102 t103 t116 _ A21.out).mono ?_); rintro e w218 ⟨rfl, hb⟩; (try clear A21); refine ⟨_, rfl, ?_⟩; have n0_ := A_ (blk_below (g := gb108) (o := .cells #[.int .i64 t102, .int .i64 t103, .int .i64 t104] 27 (0, 0)) (by (with_reducible repeat first | refine cA_ ?_ _ | refine cB_ ?_ | refine cC_ ?_ _); exact BK108.1) hb); have n1_ := A_ (blk_below (g := gb109) (o := .cells #[.int .i64 t105, .int .i64 t106, .int .i64 t107] 27 (0, 0)) (by (with_reducible repeat first | refine cA_ ?_ _ | refine cB_ ?_ | refine cC_ ?_ _); exact BK109.1) hb); have n2_ := A_ (blk_below (g := gb115) (o := .cells #[.int .i64 t111, .int .i64 t112, .int .i64 t113] 27 (0, 0)) (by (with_reducible repeat first | refine cA_ ?_ _ | refine cB_ ?_ | refine cC_ ?_ _); exact BK115.1) hb); have n3_ := A_ (below_step (by repeat first | exact HB.1 | apply bA_ | apply bB_ | apply bC_ | refine below_set ?_ GE108.out | refine below_set ?_ GE109.out | refine below_set ?_ GE115.out) hb); clear BK108 BK109 BK115 HB; have BK108 := n0_; have BK109 := n1_; have BK115 := n2_; have HB := n3_; clear n0_ n1_ n2_ n3_; (try clear hb); (try clear hk); obtain ⟨hcz219_0, hcz219_1, hcz219_2⟩ := kk3_ BK108.1; have hfz219_0 := bf_ BK108.out 0; have hfz219_1 := bf_ BK108.out 1; have hfz219_2 := bf_ BK108.out 2) | (go_at_call 15; (with_reducible refine (impl_IsPerfect.calls k1 t102 t103 t104 true _ A120.out).mono ?_); rintro e w220 ⟨rfl, hb⟩; (try clear A120); have n0_ := A_ (blk_below (g := gb108) (o := .cells #[.int .i64 t102, .int .i64 t103, .int .i64 t104] 27 (0, 0)) (by (with_reducible repeat first | refine cA_ ?_ _ | refine cB_ ?_ | refine cC_ ?_ _); exact BK108.1) hb); have n1_ := A_ (blk_below (g := gb109) (o := .cells #[.int .i64 t105, .int .i64 t106, .int .i64 t107] 27 (0, 0)) (by (with_reducible repeat first | refine cA_ ?_ _ | refine cB_ ?_ | refine cC_ ?_ _); exact BK109.1) hb); have n2_ := A_ (blk_below (g := gb115) (o := .cells #[.int .i64 t111, .int .i64 t112, .int .i64 t113] 27 (0, 0)) (by (with_reducible repeat first | refine cA_ ?_ _ | refine cB_ ?_ | refine cC_ ?_ _); exact BK115.1) hb); have n3_ := A_ (below_step (by repeat first | exact HB.1 | apply bA_ | apply bB_ | apply bC_ | refine below_set ?_ GE108.out | refine below_set ?_ GE109.out | refine below_set ?_ GE115.out) hb); clear BK108 BK109 BK115 HB; have BK108 := n0_; have BK109 := n1_; have BK115 := n2_; have HB := n3_; clear n0_ n1_ n2_ n3_; (try clear hb); (try clear hk); have hnb221 := NB109_115.out; have hnc221 := NB115_109.out; obtain ⟨hcz222_0, hcz222_1, hcz222_2⟩ := kk3_ BK109.1; have hfz222_0 := bf_ BK109.out 0; have hfz222_1 := bf_ BK109.out 1; have hfz222_2 := bf_ BK109.out 2; obtain ⟨hcz223_0, hcz223_1, hcz223_2⟩ := kk3_ BK108.1; have hfz223_0 := bf_ BK108.out 0; have hfz223_1 := bf_ BK108.out 1; have hfz223_2 := bf_ BK108.out 2) | (go_at_call 6; (with_reducible refine (impl_GapsApart.calls k1 t105 t106 t107 t102 t103 t104 t135 _ A122.out).mono ?_); rintro e w224 ⟨rfl, hb⟩; (try clear A122); have n0_ := A_ (blk_below (g := gb108) (o := .cells #[.int .i64 t102, .int .i64 t103, .int .i64 t104] 27 (0, 0)) (by (with_reducible repeat first | refine cA_ ?_ _ | refine cB_ ?_ | refine cC_ ?_ _); exact BK108.1) hb); have n1_ := A_ (blk_below (g := gb109) (o := .cells #[.int .i64 t105, .int .i64 t106, .int .i64 t107] 27 (0, 0)) (by (with_reducible repeat first | refine cA_ ?_ _ | refine cB_ ?_ | refine cC_ ?_ _); exact BK109.1) hb); have n2_ := A_ (blk_below (g := gb115) (o := .cells #[.int .i64 t111, .int .i64 t112, .int .i64 t113] 27 (0, 0)) (by (with_reducible repeat first | refine cA_ ?_ _ | refine cB_ ?_ | refine cC_ ?_ _); exact BK115.1) hb); have n3_ := A_ (below_step (by repeat first | exact HB.1 | apply bA_ | apply bB_ | apply bC_ | refine below_set ?_ GE108.out | refine below_set ?_ GE109.out | refine below_set ?_ GE115.out) hb); clear BK108 BK109 BK115 HB; have BK108 := n0_; have BK109 := n1_; have BK115 := n2_; have HB := n3_; clear n0_ n1_ n2_ n3_; (try clear hb); (try clear hk); obtain ⟨hcz225_0, hcz225_1, hcz225_2⟩ := kk3_ BK108.1; have hfz225_0 := bf_ BK108.out 0; have hfz225_1 := bf_ BK108.out 1; have hfz225_2 := bf_ BK108.out 2; obtain ⟨hcz226_0, hcz226_1, hcz226_2⟩ := kk3_ BK109.1; have hfz226_0 := bf_ BK109.out 0; have hfz226_1 := bf_ BK109.out 1; have hfz226_2 := bf_ BK109.out 2) | (go_at_call 16; (refine (impl_SwapsBetween.calls k1 t102 t103 t104 t105 t106 t107 t136 _ A124.out (HTZ.out.below (by repeat first | exact HB.1 | apply bA_ | apply bB_ | apply bC_ | refine below_set ?_ GE108.out | refine below_set ?_ GE109.out | refine below_set ?_ GE115.out))).mono ?_); rintro e w227 ⟨rfl, hb⟩; (try clear A124); have n0_ := A_ (blk_below (g := gb108) (o := .cells #[.int .i64 t102, .int .i64 t103, .int .i64 t104] 27 (0, 0)) (by (with_reducible repeat first | refine cA_ ?_ _ | refine cB_ ?_ | refine cC_ ?_ _); exact BK108.1) hb); have n1_ := A_ (blk_below (g := gb109) (o := .cells #[.int .i64 t105, .int .i64 t106, .int .i64 t107] 27 (0, 0)) (by (with_reducible repeat first | refine cA_ ?_ _ | refine cB_ ?_ | refine cC_ ?_ _); exact BK109.1) hb); have n2_ := A_ (blk_below (g := gb115) (o := .cells #[.int .i64 t111, .int .i64 t112, .int .i64 t113] 27 (0, 0)) (by (with_reducible repeat first | refine cA_ ?_ _ | refine cB_ ?_ | refine cC_ ?_ _); exact BK115.1) hb); have n3_ := A_ (below_step (by repeat first | exact HB.1 | apply bA_ | apply bB_ | apply bC_ | refine below_set ?_ GE108.out | refine below_set ?_ GE109.out | refine below_set ?_ GE115.out) hb); clear BK108 BK109 BK115 HB; have BK108 := n0_; have BK109 := n1_; have BK115 := n2_; have HB := n3_; clear n0_ n1_ n2_ n3_; (try clear hb); (try clear hk)))
         go_ret
         exact ⟨by first | rfl | (simp [errW_none, errW_some] <;> rfl) | (simp [*, errW_none, errW_some] <;> rfl), by repeat (first | (with_reducible first | exact HB.out | apply below_alloc | apply pw_below_drewN | apply below_drew1 | refine below_set ?_ GE108.out | refine below_set ?_ GE109.out | refine below_set ?_ GE115.out) | exact HB.out)⟩
       ·rw [if_neg c123] at H
        have c123b0 : (t110 == t135) = false := beq_eq_false_iff_ne.mpr c123
        have c123b1 : (t110 != t135) = true := bne_iff_ne.mpr c123
        obtain rfl := Option.some.inj H
        have hnb228 := NB108_109.out
        have hnc228 := NB109_108.out
        have hnb229 := NB108_115.out
        have hnc229 := NB115_108.out
        obtain ⟨hcz230_0, hcz230_1, hcz230_2⟩ := kk3_ BK108.1
        have hfz230_0 := bf_ BK108.out 0
        have hfz230_1 := bf_ BK108.out 1
        have hfz230_2 := bf_ BK108.out 2
        go_wp2_with (first | ((with_reducible refine gate_callee (f := 8) rfl ?_); refine gl_ 35 Tryd.func8 #[.agg #[.int .i64 t102, .int .i64 t103]] ?_; (with_reducible refine (spec_CountGaps.calls t102 t103 t116 _ A21.out).mono ?_); rintro e w231 ⟨rfl, hb⟩; (try clear A21); refine ⟨_, rfl, ?_⟩; have n0_ := A_ (blk_below (g := gb108) (o := .cells #[.int .i64 t102, .int .i64 t103, .int .i64 t104] 27 (0, 0)) (by (with_reducible repeat first | refine cA_ ?_ _ | refine cB_ ?_ | refine cC_ ?_ _); exact BK108.1) hb); have n1_ := A_ (blk_below (g := gb109) (o := .cells #[.int .i64 t105, .int .i64 t106, .int .i64 t107] 27 (0, 0)) (by (with_reducible repeat first | refine cA_ ?_ _ | refine cB_ ?_ | refine cC_ ?_ _); exact BK109.1) hb); have n2_ := A_ (blk_below (g := gb115) (o := .cells #[.int .i64 t111, .int .i64 t112, .int .i64 t113] 27 (0, 0)) (by (with_reducible repeat first | refine cA_ ?_ _ | refine cB_ ?_ | refine cC_ ?_ _); exact BK115.1) hb); have n3_ := A_ (below_step (by repeat first | exact HB.1 | apply bA_ | apply bB_ | apply bC_ | refine below_set ?_ GE108.out | refine below_set ?_ GE109.out | refine below_set ?_ GE115.out) hb); clear BK108 BK109 BK115 HB; have BK108 := n0_; have BK109 := n1_; have BK115 := n2_; have HB := n3_; clear n0_ n1_ n2_ n3_; (try clear hb); (try clear hk); obtain ⟨hcz232_0, hcz232_1, hcz232_2⟩ := kk3_ BK108.1; have hfz232_0 := bf_ BK108.out 0; have hfz232_1 := bf_ BK108.out 1; have hfz232_2 := bf_ BK108.out 2) | (go_at_call 15; (with_reducible refine (impl_IsPerfect.calls k1 t102 t103 t104 true _ A120.out).mono ?_); rintro e w233 ⟨rfl, hb⟩; (try clear A120); have n0_ := A_ (blk_below (g := gb108) (o := .cells #[.int .i64 t102, .int .i64 t103, .int .i64 t104] 27 (0, 0)) (by (with_reducible repeat first | refine cA_ ?_ _ | refine cB_ ?_ | refine cC_ ?_ _); exact BK108.1) hb); have n1_ := A_ (blk_below (g := gb109) (o := .cells #[.int .i64 t105, .int .i64 t106, .int .i64 t107] 27 (0, 0)) (by (with_reducible repeat first | refine cA_ ?_ _ | refine cB_ ?_ | refine cC_ ?_ _); exact BK109.1) hb); have n2_ := A_ (blk_below (g := gb115) (o := .cells #[.int .i64 t111, .int .i64 t112, .int .i64 t113] 27 (0, 0)) (by (with_reducible repeat first | refine cA_ ?_ _ | refine cB_ ?_ | refine cC_ ?_ _); exact BK115.1) hb); have n3_ := A_ (below_step (by repeat first | exact HB.1 | apply bA_ | apply bB_ | apply bC_ | refine below_set ?_ GE108.out | refine below_set ?_ GE109.out | refine below_set ?_ GE115.out) hb); clear BK108 BK109 BK115 HB; have BK108 := n0_; have BK109 := n1_; have BK115 := n2_; have HB := n3_; clear n0_ n1_ n2_ n3_; (try clear hb); (try clear hk); have hnb234 := NB109_115.out; have hnc234 := NB115_109.out; obtain ⟨hcz235_0, hcz235_1, hcz235_2⟩ := kk3_ BK109.1; have hfz235_0 := bf_ BK109.out 0; have hfz235_1 := bf_ BK109.out 1; have hfz235_2 := bf_ BK109.out 2; obtain ⟨hcz236_0, hcz236_1, hcz236_2⟩ := kk3_ BK108.1; have hfz236_0 := bf_ BK108.out 0; have hfz236_1 := bf_ BK108.out 1; have hfz236_2 := bf_ BK108.out 2) | (go_at_call 6; (with_reducible refine (impl_GapsApart.calls k1 t105 t106 t107 t102 t103 t104 t135 _ A122.out).mono ?_); rintro e w237 ⟨rfl, hb⟩; (try clear A122); have n0_ := A_ (blk_below (g := gb108) (o := .cells #[.int .i64 t102, .int .i64 t103, .int .i64 t104] 27 (0, 0)) (by (with_reducible repeat first | refine cA_ ?_ _ | refine cB_ ?_ | refine cC_ ?_ _); exact BK108.1) hb); have n1_ := A_ (blk_below (g := gb109) (o := .cells #[.int .i64 t105, .int .i64 t106, .int .i64 t107] 27 (0, 0)) (by (with_reducible repeat first | refine cA_ ?_ _ | refine cB_ ?_ | refine cC_ ?_ _); exact BK109.1) hb); have n2_ := A_ (blk_below (g := gb115) (o := .cells #[.int .i64 t111, .int .i64 t112, .int .i64 t113] 27 (0, 0)) (by (with_reducible repeat first | refine cA_ ?_ _ | refine cB_ ?_ | refine cC_ ?_ _); exact BK115.1) hb); have n3_ := A_ (below_step (by repeat first | exact HB.1 | apply bA_ | apply bB_ | apply bC_ | refine below_set ?_ GE108.out | refine below_set ?_ GE109.out | refine below_set ?_ GE115.out) hb); clear BK108 BK109 BK115 HB; have BK108 := n0_; have BK109 := n1_; have BK115 := n2_; have HB := n3_; clear n0_ n1_ n2_ n3_; (try clear hb); (try clear hk)))
        go_ret
        exact ⟨by first | rfl | (simp [errW_none, errW_some] <;> rfl) | (simp [*, errW_none, errW_some] <;> rfl), by repeat (first | (with_reducible first | exact HB.out | apply below_alloc | apply pw_below_drewN | apply below_drew1 | refine below_set ?_ GE108.out | refine below_set ?_ GE109.out | refine below_set ?_ GE115.out) | exact HB.out)⟩
      ·rw [if_neg c121] at H; exact absurd H (by simp)
     ·rw [if_neg c119] at H
      have c119b0 : decide (0 ≤ t110) = false := decide_eq_false c119
      clear c119
      obtain rfl := Option.some.inj H
      have hnb244 := NB108_109.out
      have hnc244 := NB109_108.out
      have hnb245 := NB108_115.out
      have hnc245 := NB115_108.out
      obtain ⟨hcz246_0, hcz246_1, hcz246_2⟩ := kk3_ BK108.1
      have hfz246_0 := bf_ BK108.out 0
      have hfz246_1 := bf_ BK108.out 1
      have hfz246_2 := bf_ BK108.out 2
      go_wp2_with (first | ((with_reducible refine gate_callee (f := 8) rfl ?_); refine gl_ 35 Tryd.func8 #[.agg #[.int .i64 t102, .int .i64 t103]] ?_; (with_reducible refine (spec_CountGaps.calls t102 t103 t116 _ A21.out).mono ?_); rintro e w247 ⟨rfl, hb⟩; (try clear A21); refine ⟨_, rfl, ?_⟩; have n0_ := A_ (blk_below (g := gb108) (o := .cells #[.int .i64 t102, .int .i64 t103, .int .i64 t104] 27 (0, 0)) (by (with_reducible repeat first | refine cA_ ?_ _ | refine cB_ ?_ | refine cC_ ?_ _); exact BK108.1) hb); have n1_ := A_ (blk_below (g := gb109) (o := .cells #[.int .i64 t105, .int .i64 t106, .int .i64 t107] 27 (0, 0)) (by (with_reducible repeat first | refine cA_ ?_ _ | refine cB_ ?_ | refine cC_ ?_ _); exact BK109.1) hb); have n2_ := A_ (blk_below (g := gb115) (o := .cells #[.int .i64 t111, .int .i64 t112, .int .i64 t113] 27 (0, 0)) (by (with_reducible repeat first | refine cA_ ?_ _ | refine cB_ ?_ | refine cC_ ?_ _); exact BK115.1) hb); have n3_ := A_ (below_step (by repeat first | exact HB.1 | apply bA_ | apply bB_ | apply bC_ | refine below_set ?_ GE108.out | refine below_set ?_ GE109.out | refine below_set ?_ GE115.out) hb); clear BK108 BK109 BK115 HB; have BK108 := n0_; have BK109 := n1_; have BK115 := n2_; have HB := n3_; clear n0_ n1_ n2_ n3_; (try clear hb); (try clear hk)))
      go_ret
      exact ⟨by first | rfl | (simp [errW_none, errW_some] <;> rfl) | (simp [*, errW_none, errW_some] <;> rfl), by repeat (first | (with_reducible first | exact HB.out | apply below_alloc | apply pw_below_drewN | apply below_drew1 | refine below_set ?_ GE108.out | refine below_set ?_ GE109.out | refine below_set ?_ GE115.out) | exact HB.out)⟩

end Go.Proofs.YtamkcplflbjdkaaDoor.P
namespace Go.Proofs.YtamkcplflbjdkaaDoor.P
open Go.RowKit Go.Proofs.YtamkcplflbjdkaaDoorW.PrintWords
set_option linter.unusedVariables false
set_option linter.unusedSimpArgs false
section
variable {α β : Type}
theorem Ev.tt {c : Prop} [Decidable c] {g f : Nat → Option α} {r : α} (h : c) (e : Ev g r) : Ev (fun k => if c then g k else f k) r := by simpa only [if_pos h] using e
theorem Ev.ff {c : Prop} [Decidable c] {g f : Nat → Option α} {r : α} (h : ¬ c) (e : Ev f r) : Ev (fun k => if c then g k else f k) r := by simpa only [if_neg h] using e
theorem Ev.ite {c : Prop} [Decidable c] {g f : Nat → Option α} {r : α} (e1 : c → Ev g r) (e2 : ¬ c → Ev f r) : Ev (fun k => if c then g k else f k) r := by
 by_cases h : c
 ·exact Ev.tt h (e1 h)
 ·exact Ev.ff h (e2 h)
theorem Ev.bnd0 {o : Option α} {f : Nat → α → Option β} {a : α} {r : β} (h : o = some a) (k : Ev (fun n => f n a) r) : Ev (fun n => o.bind (f n)) r := by subst h; exact k
theorem Ev.ret {a r : α} (h : a = r) : Ev (fun _ => some a) r := ⟨0, fun _ _ => by rw [h]⟩
theorem Ev.eq {g : Nat → Option α} {r r' : α} (h : Ev g r) (e : r = r') : Ev g r' := e ▸ h
end
theorem wrap64_id {x : Int} (h0 : -9223372036854775808 ≤ x) (h1 : x ≤ 9223372036854775807) : wrap64 x = x := by unfold wrap64; omega
theorem wsucc {i : Nat} (h : i < 4611686018427387904) : wrap64 ((i : Int) + 1) = ((i + 1 : Nat) : Int) := by unfold wrap64; omega
theorem rd_nat (l : List Int) (i : Nat) : rd l (i : Int) = l.getD i 0 := rfl
theorem rd_get {l : List Int} {i : Nat} (h : i < l.length) : rd l (i : Int) = l[i] := by simp [rd_nat, List.getD_eq_getElem?_getD, List.getElem?_eq_getElem h]
end Go.Proofs.YtamkcplflbjdkaaDoor.P
namespace Go.Proofs.YtamkcplflbjdkaaDoor.P
open Go Go.RowKit Go.Proofs.YtamkcplflbjdkaaDoorW.PrintWords
set_option linter.unusedVariables false
set_option linter.unusedSimpArgs false

theorem wrap_small {n : Nat} (h : n < 9223372036854775808) : IntKind.i64.wrap (n : Int) = n := by
 rw [IntKind.wrap_i64]; omega
theorem shl_pow {k : Nat} (h : k < 63) : shl .i64 1 (k : Int) = ((2 ^ k : Nat) : Int) := by
 have h1 : (2 : Nat) ^ k < 2 ^ 63 := Nat.pow_lt_pow_right (by decide) h
 unfold shl
 rw [show min (k : Int).toNat IntKind.i64.bits = k by simp [IntKind.bits]; omega, Int.one_mul]
 have := wrap_small (n := 2 ^ k) (by simpa using h1)
 simpa using this
theorem bits_and {a b : Nat} (ha : a < 4611686018427387904) (hb : b < 4611686018427387904) : Go.bits .and .i64 a b = ((a &&& b : Nat) : Int) :=
 (bits_nat .i64 62 (by decide) (fun n h0 h1 => by rw [IntKind.wrap_i64]; omega) a b (by simpa using ha) (by simpa using hb)).1
theorem bits_or {a b : Nat} (ha : a < 4611686018427387904) (hb : b < 4611686018427387904) : Go.bits .or .i64 a b = ((a ||| b : Nat) : Int) :=
 (bits_nat .i64 62 (by decide) (fun n h0 h1 => by rw [IntKind.wrap_i64]; omega) a b (by simpa using ha) (by simpa using hb)).2
def andNot (a b : Nat) : Nat := a ^^^ (a &&& b)
theorem testBit_andNot (a b i : Nat) : (andNot a b).testBit i = (a.testBit i && !b.testBit i) := by
 simp [andNot]
 cases a.testBit i <;> cases b.testBit i <;> rfl
theorem andNot_le (a b : Nat) : andNot a b ≤ a := by
 apply Nat.le_of_testBit
 intro i h
 rw [testBit_andNot] at h
 simp at h
 exact h.1
theorem bits_andNot {a b : Nat} (ha : a < 4611686018427387904) (hb : b < 4611686018427387904) : Go.bits .andNot .i64 a b = ((andNot a b : Nat) : Int) := by
 have e : (BitVec.ofInt 64 (a : Int) &&& ~~~ BitVec.ofInt 64 (b : Int)).toNat = andNot a b := by
  rw [BitVec.ofInt_natCast, BitVec.ofInt_natCast]
  apply Nat.eq_of_testBit_eq
  intro i
  rw [testBit_andNot, BitVec.testBit_toNat, BitVec.getLsbD_and, BitVec.getLsbD_not, BitVec.getLsbD_ofNat, BitVec.getLsbD_ofNat]
  by_cases h : i < 64
  ·simp [h]
  ·have : a.testBit i = false := Nat.testBit_lt_two_pow (Nat.lt_of_lt_of_le (by simpa using ha : a < 2 ^ 62) (Nat.pow_le_pow_right (by decide) (by omega)))
   simp [h, this]
 show IntKind.i64.wrap ((BitVec.ofInt 64 (a : Int) &&& ~~~ BitVec.ofInt 64 (b : Int)).toNat : Int) = _
 rw [e]
 exact wrap_small (by have := andNot_le a b; omega)
theorem shr_nat {m : Nat} (hm : m < 4611686018427387904) (k : Nat) : shr .i64 (m : Int) (k : Int) = ((m / 2 ^ k : Nat) : Int) := by
 unfold shr
 by_cases h : k ≤ 64
 ·rw [show min (k : Int).toNat IntKind.i64.bits = k by simp [IntKind.bits]; omega]
  simp
 ·rw [show min (k : Int).toNat IntKind.i64.bits = 64 by simp [IntKind.bits]; omega]
  have h1 : m / 2 ^ k = 0 := Nat.div_eq_of_lt (Nat.lt_of_lt_of_le (by simpa using hm : m < 2 ^ 62) (Nat.pow_le_pow_right (by decide) (by omega)))
  rw [h1]
  have : (m : Int) / 2 ^ 64 = ((m / 2 ^ 64 : Nat) : Int) := by simp
  rw [this, Nat.div_eq_of_lt (by omega)]
theorem bit_test {m : Nat} (hm : m < 4611686018427387904) (k : Nat) (c : Int) : (Go.bits .and .i64 (shr .i64 (m : Int) (k : Int)) 1 == c) = (((m.testBit k).toNat : Int) == c) := by
 rw [shr_nat hm, show (1 : Int) = ((1 : Nat) : Int) from rfl, bits_and (Nat.lt_of_le_of_lt (Nat.div_le_self _ _) hm) (by decide)]
 congr 2
 rw [Nat.testBit_eq_decide_div_mod_eq, Nat.and_one_is_mod]
 have := Nat.mod_two_eq_zero_or_one (m / 2 ^ k)
 rcases this with h | h <;> simp [h]
theorem bit_one {m : Nat} (hm : m < 4611686018427387904) (k : Nat) : (Go.bits .and .i64 (shr .i64 (m : Int) (k : Int)) 1 == 1) = m.testBit k := by
 rw [bit_test hm]
 cases m.testBit k <;> rfl
def setB (o g : Nat) (b : Bool) : Nat := if b then o ||| 2 ^ g else andNot o (2 ^ g)
theorem testBit_setB (o g : Nat) (b : Bool) (i : Nat) : (setB o g b).testBit i = if i = g then b else o.testBit i := by
 unfold setB
 cases b
 ·simp only [Bool.false_eq_true, if_false, testBit_andNot, Nat.testBit_two_pow]
  by_cases h : i = g
  ·simp [h]
  ·simp [h, show ¬ g = i from fun e => h e.symm]
 ·simp only [if_true, Nat.testBit_or, Nat.testBit_two_pow]
  by_cases h : i = g
  ·simp [h]
  ·simp [h, show ¬ g = i from fun e => h e.symm]
theorem setB_lt {o g n : Nat} (b : Bool) (ho : o < 2 ^ n) (hg : g < n) : setB o g b < 2 ^ n := by
 unfold setB
 split
 ·exact Nat.or_lt_two_pow ho (Nat.pow_lt_pow_right (by decide) hg)
 ·exact Nat.lt_of_le_of_lt (andNot_le _ _) ho
end Go.Proofs.YtamkcplflbjdkaaDoor.P
namespace Go.Proofs.YtamkcplflbjdkaaDoor.P
open Go.RowKit Go.Proofs.YtamkcplflbjdkaaDoorW.PrintWords
set_option linter.unusedVariables false
set_option linter.unusedSimpArgs false

def pop : Nat → Nat → Nat
 | 0, _ => 0
 | n + 1, s => pop n s + (s.testBit n).toNat
theorem pop_le (n s : Nat) : pop n s ≤ n := by
 induction n with
 | zero => simp [pop]
 | succ n ih => simp only [pop]; have := Bool.toNat_le (s.testBit n); omega
theorem pop_congr {n s t : Nat} (h : ∀ i, i < n → s.testBit i = t.testBit i) : pop n s = pop n t := by
 induction n with
 | zero => rfl
 | succ n ih => simp only [pop]; rw [ih (fun i hi => h i (by omega)), h n (by omega)]
theorem pop_add (m n s : Nat) : pop (m + n) s = pop m s + pop n (s / 2 ^ m) := by
 induction n with
 | zero => simp [pop]
 | succ n ih =>
  rw [← Nat.add_assoc]
  simp only [pop]
  rw [ih, Nat.add_assoc, Nat.testBit_div_two_pow, Nat.add_comm n m]
theorem pop_mod (n s : Nat) : pop n (s % 2 ^ n) = pop n s := pop_congr fun i hi => by rw [Nat.testBit_mod_two_pow]; simp [hi]
theorem pop_big {n m s : Nat} (h : s < 2 ^ n) (hm : n ≤ m) : pop m s = pop n s := by
 obtain ⟨d, rfl⟩ := Nat.exists_eq_add_of_le hm
 rw [pop_add, Nat.div_eq_of_lt h]
 have : pop d 0 = 0 := by
  induction d with
  | zero => rfl
  | succ d ih => simp only [pop, Nat.zero_testBit]; rw [ih (by omega)]; rfl
 rw [this, Nat.add_zero]
def gridOk (w h : Int) : Bool := decide (1 ≤ w ∧ w ≤ 4 ∧ 1 ≤ h ∧ h ≤ 4)
theorem gridOk_iff {w h : Int} : gridOk w h = true ↔ 1 ≤ w ∧ w ≤ 4 ∧ 1 ≤ h ∧ h ≤ 4 := by simp [gridOk]
theorem grid_cases {w h : Int} (hg : gridOk w h = true) : (w = 1 ∨ w = 2 ∨ w = 3 ∨ w = 4) ∧ (h = 1 ∨ h = 2 ∨ h = 3 ∨ h = 4) := by
 rw [gridOk_iff] at hg
 omega
def cellsOf (w h : Int) : Int := if gridOk w h then w * h else 0
def eastOf (w h : Int) : Int := (w - 1) * h
def gapsOf (w h : Int) : Int := if gridOk w h then (w - 1) * h + w * (h - 1) else 0
theorem cellsOf_range (w h : Int) : 0 ≤ cellsOf w h ∧ cellsOf w h ≤ 16 := by
 unfold cellsOf
 split
 ·rename_i hg
  obtain ⟨h1 | h1 | h1 | h1, h2 | h2 | h2 | h2⟩ := grid_cases hg <;> subst h1 <;> subst h2 <;> decide
 ·omega
theorem gapsOf_range (w h : Int) : 0 ≤ gapsOf w h ∧ gapsOf w h ≤ 24 := by
 unfold gapsOf
 split
 ·rename_i hg
  obtain ⟨h1 | h1 | h1 | h1, h2 | h2 | h2 | h2⟩ := grid_cases hg <;> subst h1 <;> subst h2 <;> decide
 ·omega
def isCellI (w h c : Int) : Bool := decide (0 ≤ c ∧ c < cellsOf w h)
def nbI (w h c d : Int) : Int :=
 if 0 ≤ c ∧ c < cellsOf w h then
  (if d = 0 ∧ 0 < c / w then c - w else if d = 1 ∧ c % w < w - 1 then c + 1 else if d = 2 ∧ c / w < h - 1 then c + w else if d = 3 ∧ 0 < c % w then c - 1 else -1)
 else -1
theorem cellsOf_valid {w h c : Int} (h1 : 0 ≤ c) (h2 : c < cellsOf w h) : gridOk w h = true ∧ cellsOf w h = w * h := by
 unfold cellsOf at *
 by_cases hg : gridOk w h = true
 ·exact ⟨hg, if_pos hg⟩
 ·rw [if_neg hg] at h2; omega
def gapsN (w h : Int) : Nat := (gapsOf w h).toNat
theorem gapsN_le (w h : Int) : gapsN w h ≤ 24 := by have := gapsOf_range w h; unfold gapsN; omega
theorem gapsN_cast (w h : Int) : ((gapsN w h : Nat) : Int) = gapsOf w h := by have := gapsOf_range w h; unfold gapsN; omega
def mazeOk (w h o : Int) : Bool := gridOk w h && decide (0 ≤ o ∧ o < 2 ^ gapsN w h)
theorem mazeOk_iff {w h o : Int} : mazeOk w h o = true ↔ gridOk w h = true ∧ ∃ n : Nat, o = (n : Int) ∧ n < 2 ^ gapsN w h := by
 unfold mazeOk
 simp only [Bool.and_eq_true, decide_eq_true_eq]
 constructor
 ·rintro ⟨h1, h2, h3⟩
  obtain ⟨n, rfl⟩ := Int.eq_ofNat_of_zero_le h2
  exact ⟨h1, n, rfl, by exact_mod_cast h3⟩
 ·rintro ⟨h1, n, rfl, h3⟩
  exact ⟨h1, by omega, by exact_mod_cast h3⟩
theorem open_small {w h : Int} {n : Nat} (hn : n < 2 ^ gapsN w h) : n < 16777216 := Nat.lt_of_lt_of_le hn (Nat.pow_le_pow_right (by decide) (gapsN_le w h))
def openI (n : Nat) (g : Int) : Bool := decide (0 ≤ g) && n.testBit g.toNat
theorem openI_nat' (n j : Nat) : openI n (j : Int) = n.testBit j := by simp [openI]
def isGapI (w h g : Int) : Bool := decide (0 ≤ g ∧ g < gapsOf w h)
theorem gapsOf_valid {w h g : Int} (h1 : 0 ≤ g) (h2 : g < gapsOf w h) : gridOk w h = true ∧ gapsOf w h = (w - 1) * h + w * (h - 1) := by
 unfold gapsOf at *
 by_cases hg : gridOk w h = true
 ·exact ⟨hg, if_pos hg⟩
 ·rw [if_neg hg] at h2; omega
def gapI (w h c d : Int) : Int :=
 if nbI w h c d < 0 then -1 else if d = 1 ∨ d = 3 then (min c (nbI w h c d)) / w * (w - 1) + (min c (nbI w h c d)) % w else (w - 1) * h + min c (nbI w h c d)
def endsI (w h g : Int) : Int × Int :=
 if 0 ≤ g ∧ g < gapsOf w h then (if g < (w - 1) * h then (g / (w - 1) * w + g % (w - 1), g / (w - 1) * w + g % (w - 1) + 1) else (g - (w - 1) * h, g - (w - 1) * h + w)) else (-1, -1)
theorem nb_dir {w h c d : Int} (hn : 0 ≤ nbI w h c d) : (d = 0 ∨ d = 1 ∨ d = 2 ∨ d = 3) ∧ 0 ≤ c ∧ c < cellsOf w h := by
 unfold nbI at hn
 by_cases hc : 0 ≤ c ∧ c < cellsOf w h
 ·rw [if_pos hc] at hn
  refine ⟨?_, hc⟩
  repeat' split at hn
  all_goals omega
 ·rw [if_neg hc] at hn
  omega
theorem grid_nat {w h : Int} (hg : gridOk w h = true) : ∃ W H : Nat, w = W ∧ h = H ∧ 1 ≤ W ∧ W < 5 ∧ 1 ≤ H ∧ H < 5 := by
 have := gridOk_iff.1 hg
 exact ⟨w.toNat, h.toNat, by omega, by omega, by omega, by omega, by omega, by omega⟩
def StepFacts (w h c d : Int) : Prop :=
 nbI w h c d = -1 ∧ gapI w h c d = -1 ∨
 (0 ≤ nbI w h c d ∧ nbI w h c d < cellsOf w h ∧ nbI w h c d ≠ c ∧ 0 ≤ gapI w h c d ∧ gapI w h c d < gapsOf w h ∧
  endsI w h (gapI w h c d) = (min c (nbI w h c d), max c (nbI w h c d)) ∧ nbI w h (nbI w h c d) ((d + 2) % 4) = c ∧ gapI w h (nbI w h c d) ((d + 2) % 4) = gapI w h c d)
instance (w h c d : Int) : Decidable (StepFacts w h c d) := by unfold StepFacts; infer_instance
theorem step_facts_all : ∀ W : Nat, W < 5 → ∀ H : Nat, H < 5 → ∀ c : Nat, c < 16 → ∀ d : Nat, d < 4 → StepFacts W H c d := by decide +kernel
theorem step_facts (w h c d : Int) : StepFacts w h c d := by
 by_cases hn : 0 ≤ nbI w h c d
 ·obtain ⟨hd, h0, h1⟩ := nb_dir hn
  obtain ⟨hg, hcw⟩ := cellsOf_valid h0 h1
  obtain ⟨W, H, rfl, rfl, hW1, hW2, hH1, hH2⟩ := grid_nat hg
  have hcr := cellsOf_range (W : Int) (H : Int)
  have := step_facts_all W hW2 H hH2 c.toNat (by omega) d.toNat (by omega)
  rwa [show ((c.toNat : Nat) : Int) = c by omega, show ((d.toNat : Nat) : Int) = d by omega] at this
 ·have hm : nbI w h c d = -1 := by
   unfold nbI at *
   by_cases hc : 0 ≤ c ∧ c < cellsOf w h
   ·rw [if_pos hc] at *
    obtain ⟨hg, hcw⟩ := cellsOf_valid hc.1 hc.2
    have hgr := gridOk_iff.1 hg
    have hyw : c / w * w + c % w = c := by rw [Int.mul_comm]; exact Int.mul_ediv_add_emod c w
    have hx0 : 0 ≤ c % w := Int.emod_nonneg _ (by omega)
    repeat' split
    ·rename_i hh
     rw [if_pos hh] at hn
     have : w ≤ c := by
      have : w * 1 ≤ w * (c / w) := Int.mul_le_mul_of_nonneg_left (by omega) (by omega)
      rw [Int.mul_comm (c / w)] at hyw
      omega
     omega
    ·rename_i h1 hh
     rw [if_neg h1, if_pos hh] at hn
     omega
    ·rename_i h1 h2 hh
     rw [if_neg h1, if_neg h2, if_pos hh] at hn
     omega
    ·rename_i h1 h2 h3 hh
     rw [if_neg h1, if_neg h2, if_neg h3, if_pos hh] at hn
     have : 1 ≤ c := by
      have : 0 ≤ c / w * w := Int.mul_nonneg (Int.ediv_nonneg hc.1 (by omega)) (by omega)
      omega
     omega
    ·rfl
   ·rw [if_neg hc]
  refine .inl ⟨hm, ?_⟩
  unfold gapI
  rw [if_pos (by omega)]
def EndFacts (w h g : Int) : Prop :=
 0 ≤ g ∧ g < gapsOf w h → 0 ≤ (endsI w h g).1 ∧ (endsI w h g).1 < (endsI w h g).2 ∧ (endsI w h g).2 < cellsOf w h ∧
  (nbI w h (endsI w h g).1 1 = (endsI w h g).2 ∧ gapI w h (endsI w h g).1 1 = g ∨ nbI w h (endsI w h g).1 2 = (endsI w h g).2 ∧ gapI w h (endsI w h g).1 2 = g)
instance (w h g : Int) : Decidable (EndFacts w h g) := by unfold EndFacts; infer_instance
theorem end_facts_all : ∀ W : Nat, W < 5 → ∀ H : Nat, H < 5 → ∀ g : Nat, g < 24 → EndFacts W H g := by decide +kernel
theorem end_facts {w h g : Int} (h0 : 0 ≤ g) (h1 : g < gapsOf w h) : 0 ≤ (endsI w h g).1 ∧ (endsI w h g).1 < (endsI w h g).2 ∧ (endsI w h g).2 < cellsOf w h ∧
  (nbI w h (endsI w h g).1 1 = (endsI w h g).2 ∧ gapI w h (endsI w h g).1 1 = g ∨ nbI w h (endsI w h g).1 2 = (endsI w h g).2 ∧ gapI w h (endsI w h g).1 2 = g) := by
 obtain ⟨hg, _⟩ := gapsOf_valid h0 h1
 obtain ⟨W, H, rfl, rfl, hW1, hW2, hH1, hH2⟩ := grid_nat hg
 have hr := gapsOf_range (W : Int) (H : Int)
 have := end_facts_all W hW2 H hH2 g.toNat (by omega)
 rw [show ((g.toNat : Nat) : Int) = g by omega] at this
 exact this ⟨h0, h1⟩
theorem nb_lt {w h c d : Int} : nbI w h c d = -1 ∨ 0 ≤ nbI w h c d ∧ nbI w h c d < cellsOf w h := by
 rcases step_facts w h c d with h1 | h1
 ·exact .inl h1.1
 ·exact .inr ⟨h1.1, h1.2.1⟩
def stepI (w h : Int) (n : Nat) (c d : Int) : Int := if openI n (gapI w h c d) then nbI w h c d else -1
theorem step_lt {w h c d : Int} {n : Nat} : stepI w h n c d = -1 ∨ 0 ≤ stepI w h n c d ∧ stepI w h n c d < cellsOf w h := by
 unfold stepI
 split
 ·exact nb_lt
 ·exact .inl rfl
/-- Connected by the edges of n. -/
inductive Cn (e : Nat → Nat × Nat) (n : Nat) : Nat → Nat → Prop
  | refl (x : Nat) : Cn e n x x
  | fwd {x : Nat} (k : Nat) : n.testBit k = true → Cn e n x (e k).1 → Cn e n x (e k).2
  | bwd {x : Nat} (k : Nat) : n.testBit k = true → Cn e n x (e k).2 → Cn e n x (e k).1
theorem Cn.trans {e : Nat → Nat × Nat} {n x y z : Nat} (h : Cn e n x y) (g : Cn e n y z) : Cn e n x z := by
  induction g with
  | refl => exact h
  | fwd k hk _ ih => exact .fwd k hk ih
  | bwd k hk _ ih => exact .bwd k hk ih
theorem Cn.edge {e : Nat → Nat × Nat} {n k : Nat} (h : n.testBit k = true) : Cn e n (e k).1 (e k).2 := .fwd k h (.refl _)
theorem Cn.edge' {e : Nat → Nat × Nat} {n k : Nat} (h : n.testBit k = true) : Cn e n (e k).2 (e k).1 := .bwd k h (.refl _)
theorem Cn.symm {e : Nat → Nat × Nat} {n x y : Nat} (h : Cn e n x y) : Cn e n y x := by
  induction h with
  | refl => exact .refl _
  | fwd k hk _ ih => exact (Cn.edge' hk).trans ih
  | bwd k hk _ ih => exact (Cn.edge hk).trans ih
theorem Cn.mono {e : Nat → Nat × Nat} {n m x y : Nat} (hm : ∀ i, n.testBit i = true → m.testBit i = true) (h : Cn e n x y) : Cn e m x y := by
  induction h with
  | refl => exact .refl _
  | fwd k hk _ ih => exact .fwd k (hm k hk) ih
  | bwd k hk _ ih => exact .bwd k (hm k hk) ih
theorem Cn_add {e : Nat → Nat × Nat} {n k x y : Nat} : Cn e (setB n k true) x y ↔ Cn e n x y ∨ (Cn e n x (e k).1 ∧ Cn e n (e k).2 y) ∨ (Cn e n x (e k).2 ∧ Cn e n (e k).1 y) := by
  have hm : ∀ i, n.testBit i = true → (setB n k true).testBit i = true := fun i hi => by rw [testBit_setB]; split <;> simp [hi]
  have hk : (setB n k true).testBit k = true := by rw [testBit_setB]; simp
  constructor
  · intro h
    induction h with
    | refl => exact .inl (.refl _)
    | fwd j hj _ ih =>
      rw [testBit_setB] at hj
      by_cases e1 : j = k
      · subst e1
        rcases ih with ih | ⟨h1, h2⟩ | ⟨h1, h2⟩
        · exact .inr (.inl ⟨ih, .refl _⟩)
        · exact .inr (.inl ⟨h1, .refl _⟩)
        · exact .inl h1
      · rw [if_neg e1] at hj
        rcases ih with ih | ⟨h1, h2⟩ | ⟨h1, h2⟩
        · exact .inl (.fwd j hj ih)
        · exact .inr (.inl ⟨h1, .fwd j hj h2⟩)
        · exact .inr (.inr ⟨h1, .fwd j hj h2⟩)
    | bwd j hj _ ih =>
      rw [testBit_setB] at hj
      by_cases e1 : j = k
      · subst e1
        rcases ih with ih | ⟨h1, h2⟩ | ⟨h1, h2⟩
        · exact .inr (.inr ⟨ih, .refl _⟩)
        · exact .inl h1
        · exact .inr (.inr ⟨h1, .refl _⟩)
      · rw [if_neg e1] at hj
        rcases ih with ih | ⟨h1, h2⟩ | ⟨h1, h2⟩
        · exact .inl (.bwd j hj ih)
        · exact .inr (.inl ⟨h1, .bwd j hj h2⟩)
        · exact .inr (.inr ⟨h1, .bwd j hj h2⟩)
  · rintro (h | ⟨h1, h2⟩ | ⟨h1, h2⟩)
    · exact h.mono hm
    · exact ((h1.mono hm).trans (Cn.edge hk)).trans (h2.mono hm)
    · exact ((h1.mono hm).trans (Cn.edge' hk)).trans (h2.mono hm)
theorem Cn_zero {e : Nat → Nat × Nat} {x y : Nat} : Cn e 0 x y ↔ x = y := by
  constructor
  · intro h
    induction h with
    | refl => rfl
    | fwd k hk => simp at hk
    | bwd k hk => simp at hk
  · rintro rfl; exact .refl _
/-- The first k bits of n. -/
def low (n k : Nat) : Nat := n % 2 ^ k
theorem testBit_low (n k i : Nat) : (low n k).testBit i = (decide (i < k) && n.testBit i) := Nat.testBit_mod_two_pow ..
theorem low_all {n k : Nat} (h : n < 2 ^ k) : low n k = n := Nat.mod_eq_of_lt h
theorem low_succ_set {n k : Nat} (h : n.testBit k = true) : low n (k + 1) = setB (low n k) k true := by
  apply Nat.eq_of_testBit_eq
  intro i
  rw [testBit_setB, testBit_low, testBit_low]
  by_cases e : i = k
  · subst e; simp [h]
  · rw [if_neg e]
    congr 1
    rw [decide_eq_decide]; omega
theorem low_succ_not {n k : Nat} (h : n.testBit k = false) : low n (k + 1) = low n k := by
  apply Nat.eq_of_testBit_eq
  intro i
  rw [testBit_low, testBit_low]
  by_cases e : i = k
  · subst e; simp [h]
  · congr 1
    rw [decide_eq_decide]; omega
/-- The least vertex of the part of v, by the first k edges. -/
def lab (e : Nat → Nat × Nat) (n : Nat) : Nat → Nat → Nat
  | 0, v => v
  | k + 1, v =>
    if n.testBit k = true then
      (if lab e n k v = max (lab e n k (e k).1) (lab e n k (e k).2) then min (lab e n k (e k).1) (lab e n k (e k).2) else lab e n k v)
    else lab e n k v
theorem lab_facts (e : Nat → Nat × Nat) (n : Nat) : ∀ k, (∀ v, lab e n k v ≤ v ∧ lab e n k (lab e n k v) = lab e n k v) ∧ ∀ x y, lab e n k x = lab e n k y ↔ Cn e (low n k) x y
  | 0 => by
    refine ⟨fun v => ⟨Nat.le_refl _, rfl⟩, fun x y => ?_⟩
    have : low n 0 = 0 := by unfold low; simp [Nat.mod_one]
    rw [this, Cn_zero]
    rfl
  | k + 1 => by
    obtain ⟨h1, h2⟩ := lab_facts e n k
    cases hb : n.testBit k with
    | false =>
      simp only [lab, hb, Bool.false_eq_true, if_false]
      rw [low_succ_not hb]
      exact ⟨h1, h2⟩
    | true =>
      simp only [lab, hb, if_true]
      rw [low_succ_set hb]
      refine ⟨fun v => ?_, fun x y => ?_⟩
      · have a1 := h1 v
        have a2 := h1 (e k).1
        have a3 := h1 (e k).2
        grind
      · rw [Cn_add, ← h2, ← h2, ← h2, ← h2, ← h2]
        grind
/-- Tells whether a vertex is the least of its part. -/
theorem lab_le (e : Nat → Nat × Nat) (n k v : Nat) : lab e n k v ≤ v := ((lab_facts e n k).1 v).1
theorem lab_lab (e : Nat → Nat × Nat) (n k v : Nat) : lab e n k (lab e n k v) = lab e n k v := ((lab_facts e n k).1 v).2
theorem lab_iff {e : Nat → Nat × Nat} {n k : Nat} (hn : n < 2 ^ k) (x y : Nat) : lab e n k x = lab e n k y ↔ Cn e n x y := by
  have := (lab_facts e n k).2 x y
  rwa [low_all hn] at this
theorem lab_least {e : Nat → Nat × Nat} {n k : Nat} (hn : n < 2 ^ k) {x y : Nat} (h : Cn e n x y) : lab e n k x ≤ y := by
  rw [(lab_iff hn x y).2 h]
  exact lab_le ..
theorem lab_cn {e : Nat → Nat × Nat} {n k : Nat} (hn : n < 2 ^ k) (x : Nat) : Cn e n x (lab e n k x) := (lab_iff hn _ _).1 (lab_lab ..).symm
/-- How many of the numbers under v. -/
def cnt (p : Nat → Bool) : Nat → Nat
  | 0 => 0
  | v + 1 => cnt p v + (p v).toNat
theorem cnt_congr {p q : Nat → Bool} {v : Nat} (h : ∀ i, i < v → p i = q i) : cnt p v = cnt q v := by
  induction v with
  | zero => rfl
  | succ n ih => simp only [cnt]; rw [ih (fun i hi => h i (by omega)), h n (by omega)]
theorem cnt_one {p q : Nat → Bool} {v m : Nat} (hm : m < v) (h1 : p m = true) (h2 : q m = false) (h : ∀ i, i < v → i ≠ m → p i = q i) : cnt p v = cnt q v + 1 := by
  induction v with
  | zero => omega
  | succ n ih =>
    simp only [cnt]
    by_cases e : m = n
    · subst e
      rw [cnt_congr (q := q) (fun i hi => h i (by omega) (by omega)), h1, h2]
      simp
    · rw [ih (by omega) (fun i hi hne => h i (by omega) hne), h n (by omega) (fun e' => e e'.symm)]
      omega
/-- The number of parts of v vertices, by k edges. -/
def parts (e : Nat → Nat × Nat) (v k n : Nat) : Nat := cnt (fun c => lab e n k c == c) v
theorem rep_iff {e : Nat → Nat × Nat} {n k : Nat} (hn : n < 2 ^ k) (c : Nat) : (lab e n k c == c) = true ↔ ∀ y, Cn e n c y → c ≤ y := by
  rw [beq_iff_eq]
  constructor
  · intro h y hy
    have := lab_least hn hy
    omega
  · intro h
    have := h _ (lab_cn hn c)
    have := lab_le e n k c
    omega
theorem parts_zero (e : Nat → Nat × Nat) (v k : Nat) : parts e v k 0 = v := by
  have : ∀ k c, lab e 0 k c = c := by
    intro k
    induction k with
    | zero => intro c; rfl
    | succ k ih => intro c; simp [lab, ih]
  unfold parts
  simp only [this, beq_self_eq_true]
  induction v with
  | zero => rfl
  | succ n ih => simp only [cnt]; rw [ih]; rfl
/-- One more edge joins two parts, or none. -/
theorem parts_add {e : Nat → Nat × Nat} {v k n j : Nat} (hn : n < 2 ^ k) (hj : j < k) (h1 : (e j).1 < v) (h2 : (e j).2 < v) :
    (Cn e n (e j).1 (e j).2 → parts e v k (setB n j true) = parts e v k n) ∧ (¬ Cn e n (e j).1 (e j).2 → parts e v k n = parts e v k (setB n j true) + 1) := by
  have hn' : setB n j true < 2 ^ k := setB_lt true hn hj
  constructor
  · intro hc
    unfold parts
    refine cnt_congr fun c hcv => ?_
    rw [Bool.eq_iff_iff, rep_iff hn, rep_iff hn']
    simp only [Cn_add]
    constructor
    · intro h y hy; exact h y (.inl hy)
    · rintro h y (hy | ⟨ha, hb⟩ | ⟨ha, hb⟩)
      · exact h y hy
      · exact h y ((ha.trans hc).trans hb)
      · exact h y ((ha.trans hc.symm).trans hb)
  · intro hc
    have hne : lab e n k (e j).1 ≠ lab e n k (e j).2 := fun h => hc ((lab_iff hn _ _).1 h)
    have l1 := lab_le e n k (e j).1
    have l2 := lab_le e n k (e j).2
    have c1 := lab_cn (e := e) hn (e j).1
    have c2 := lab_cn (e := e) hn (e j).2
    unfold parts
    refine cnt_one (m := max (lab e n k (e j).1) (lab e n k (e j).2)) (by omega) ?_ ?_ ?_
    · have := lab_lab e n k (e j).1
      have := lab_lab e n k (e j).2
      rw [beq_iff_eq]
      rcases Nat.le_total (lab e n k (e j).1) (lab e n k (e j).2) with hle | hle
      · rw [Nat.max_eq_right hle]; assumption
      · rw [Nat.max_eq_left hle]; assumption
    · rw [Bool.eq_false_iff]
      intro h
      rw [rep_iff hn'] at h
      rcases Nat.le_total (lab e n k (e j).1) (lab e n k (e j).2) with hle | hle
      · rw [Nat.max_eq_right hle] at h
        have := h (lab e n k (e j).1) (Cn_add.2 (.inr (.inr ⟨c2.symm, c1⟩)))
        omega
      · rw [Nat.max_eq_left hle] at h
        have := h (lab e n k (e j).2) (Cn_add.2 (.inr (.inl ⟨c1.symm, c2⟩)))
        omega
    · intro c hcv hcm
      rw [Bool.eq_iff_iff, rep_iff hn, rep_iff hn']
      simp only [Cn_add]
      constructor
      · rintro h y (hy | ⟨ha, hb⟩ | ⟨ha, hb⟩)
        · exact h y hy
        · have e1 : lab e n k (e j).1 = c := by
            have := h _ (ha.trans c1)
            have := lab_least (e := e) hn ha.symm
            omega
          have := lab_least (e := e) hn hb
          have := lab_le e n k c
          omega
        · have e1 : lab e n k (e j).2 = c := by
            have := h _ (ha.trans c2)
            have := lab_least (e := e) hn ha.symm
            omega
          have := lab_least (e := e) hn hb
          omega
      · intro h y hy; exact h y (.inl hy)
theorem pop_setB {m n j : Nat} (hj : j < m) (h : n.testBit j = false) : pop m (setB n j true) = pop m n + 1 := by
  induction m with
  | zero => omega
  | succ m ih =>
    simp only [pop]
    by_cases e : j = m
    · subst e
      rw [pop_congr (t := n) (fun i hi => by rw [testBit_setB, if_neg (by omega)]), testBit_setB, if_pos rfl, h]
      simp
    · rw [ih (by omega), testBit_setB, if_neg (by omega)]
      omega
theorem setB_off_on {n j : Nat} (h : n.testBit j = true) : setB (setB n j false) j true = n := by
  apply Nat.eq_of_testBit_eq
  intro i
  rw [testBit_setB, testBit_setB]
  by_cases e : i = j
  · subst e; simp [h]
  · simp [e]
theorem setB_bit (n j : Nat) (b : Bool) : (setB n j b).testBit j = b := by rw [testBit_setB, if_pos rfl]
theorem setB_ne {n j i : Nat} (b : Bool) (h : i ≠ j) : (setB n j b).testBit i = n.testBit i := by rw [testBit_setB, if_neg h]
/-- A statement over masks, from none on, an edge at a time. -/
theorem mask_induction {P : Nat → Prop} {k : Nat} (h0 : P 0) (hs : ∀ n j, n < 2 ^ k → j < k → n.testBit j = false → P n → P (setB n j true)) : ∀ n, n < 2 ^ k → P n := by
  intro n hn
  have : ∀ d, d ≤ k → P (low n d) := by
    intro d
    induction d with
    | zero => intro _; have : low n 0 = 0 := by unfold low; simp [Nat.mod_one]
              rw [this]; exact h0
    | succ d ih =>
      intro hd
      cases hb : n.testBit d with
      | false => rw [low_succ_not hb]; exact ih (by omega)
      | true =>
        rw [low_succ_set hb]
        refine hs _ _ (Nat.lt_of_le_of_lt (Nat.mod_le _ _) hn) (by omega) ?_ (ih (by omega))
        rw [testBit_low]; simp
  have := this k (Nat.le_refl k)
  rwa [low_all hn] at this
/-- A graph: the ends of its edges are vertices. -/
def Gr (e : Nat → Nat × Nat) (v k : Nat) : Prop := ∀ j, j < k → (e j).1 < v ∧ (e j).2 < v
/-- The number of loops is no number under 0. -/
theorem loops_nonneg {e : Nat → Nat × Nat} {v k : Nat} (hg : Gr e v k) : ∀ n, n < 2 ^ k → v ≤ pop k n + parts e v k n := by
  refine mask_induction ?_ ?_
  · rw [parts_zero]; omega
  · intro n j hn hj hb ih
    have hp := parts_add (e := e) hn hj (hg j hj).1 (hg j hj).2
    rw [pop_setB hj hb]
    by_cases hc : Cn e n (e j).1 (e j).2
    · rw [hp.1 hc]; omega
    · have := hp.2 hc; omega
theorem lt_of_testBit {n k j : Nat} (hn : n < 2 ^ k) (h : n.testBit j = true) : j < k := by
  rcases Nat.lt_or_ge j k with h1 | h1
  · exact h1
  · rw [Nat.testBit_lt_two_pow (Nat.lt_of_lt_of_le hn (Nat.pow_le_pow_right (by decide) h1))] at h
    cases h
/-- Taking an edge away. -/
theorem parts_del {e : Nat → Nat × Nat} {v k n j : Nat} (hg : Gr e v k) (hn : n < 2 ^ k) (hb : n.testBit j = true) :
    pop k n = pop k (setB n j false) + 1 ∧ (Cn e (setB n j false) (e j).1 (e j).2 → parts e v k (setB n j false) = parts e v k n) ∧ (¬ Cn e (setB n j false) (e j).1 (e j).2 → parts e v k (setB n j false) = parts e v k n + 1) := by
  have hj := lt_of_testBit hn hb
  have hp := parts_add (e := e) (setB_lt false hn hj) hj (hg j hj).1 (hg j hj).2
  have h2 := pop_setB (m := k) (n := setB n j false) hj (setB_bit ..)
  rw [setB_off_on hb] at hp h2
  exact ⟨h2, fun h => (hp.1 h).symm, hp.2⟩
/-- No loops: every edge is a bridge. -/
theorem bridge_of_forest {e : Nat → Nat × Nat} {v k n j : Nat} (hg : Gr e v k) (hn : n < 2 ^ k) (hf : pop k n + parts e v k n = v) (hb : n.testBit j = true) : ¬ Cn e (setB n j false) (e j).1 (e j).2 := by
  intro hc
  obtain ⟨h1, h2, _⟩ := parts_del hg hn hb
  have := h2 hc
  have := loops_nonneg hg (setB n j false) (setB_lt false hn (lt_of_testBit hn hb))
  omega
/-- One part: all are connected. -/
theorem parts_one {e : Nat → Nat × Nat} {v k n : Nat} (hn : n < 2 ^ k) (hv : 0 < v) : parts e v k n = 1 ↔ ∀ x, x < v → Cn e n 0 x := by
  have h0 : (lab e n k 0 == 0) = true := by have := lab_le e n k 0; rw [beq_iff_eq]; omega
  have hq : cnt (fun c => c == 0) v = 1 := by
    obtain ⟨v, rfl⟩ : ∃ u, v = u + 1 := ⟨v - 1, by omega⟩
    clear hv
    induction v with
    | zero => rfl
    | succ v ih => simp only [cnt] at *; rw [ih]; simp
  constructor
  · intro h x hx
    have hl := lab_lab e n k x
    have hle := lab_le e n k x
    have hxc := lab_cn (e := e) hn x
    by_cases hz : lab e n k x = 0
    · rw [hz] at hxc; exact hxc.symm
    · exfalso
      unfold parts at h
      have : 2 ≤ cnt (fun c => lab e n k c == c) v := by
        have h2 : cnt (fun c => c == 0 || c == lab e n k x) v = cnt (fun c => c == 0) v + 1 := cnt_one (m := lab e n k x) (by omega) (by simp) (by simpa using hz) (fun i hi hne => by simp [hne])
        have hmono : ∀ (p q : Nat → Bool) (u : Nat), (∀ i, p i = true → q i = true) → cnt p u ≤ cnt q u := by
          intro p q u hpq
          induction u with
          | zero => exact Nat.le_refl _
          | succ u ih =>
            simp only [cnt]
            have := hpq u
            cases hp : p u <;> cases hq : q u <;> simp_all <;> omega
        have h3 := hmono (fun c => c == 0 || c == lab e n k x) (fun c => lab e n k c == c) v (fun i hi => by
          simp at hi
          rcases hi with rfl | rfl
          · exact h0
          · simpa using hl)
        omega
      omega
  · intro h
    unfold parts
    rw [← hq]
    refine cnt_congr fun c hc => ?_
    have := lab_least hn (h c hc).symm
    rw [Bool.eq_iff_iff, beq_iff_eq, beq_iff_eq]
    constructor
    · intro h1; omega
    · rintro rfl; omega
def upd (D : Nat → Int) (y : Nat) (v : Int) : Nat → Int := fun c => if c = y then v else D c
/-- One direction of one cell. -/
def relax (s : Nat → Nat → Int) (x d : Nat) (S : (Nat → Int) × List Nat) : (Nat → Int) × List Nat :=
  if 0 ≤ s x d ∧ S.1 (s x d).toNat < 0 then (upd S.1 (s x d).toNat (S.1 x + 1), S.2 ++ [(s x d).toNat]) else S
def bround (s : Nat → Nat → Int) (x : Nat) (S : (Nat → Int) × List Nat) : (Nat → Int) × List Nat := relax s x 3 (relax s x 2 (relax s x 1 (relax s x 0 S)))
def bfsF (s : Nat → Nat → Int) : Nat → (Nat → Int) × List Nat → Nat → (Nat → Int)
  | 0, S, _ => S.1
  | f + 1, S, i => match S.2[i]? with
    | none => S.1
    | some x => bfsF s f (bround s x S) (i + 1)
/-- The distances from a cell, or -1. -/
def bfsD (s : Nat → Nat → Int) (v src : Nat) : Nat → Int := bfsF s (v + 1) (upd (fun _ => -1) src 0, [src]) 0
/-- Steps stay among v cells. -/
def Rng (s : Nat → Nat → Int) (v : Nat) : Prop := ∀ x d, x < v → d < 4 → s x d = -1 ∨ (0 ≤ s x d ∧ s x d < (v : Int))

structure BInv (s : Nat → Nat → Int) (v src : Nat) (S : (Nat → Int) × List Nat) (i : Nat) (m : Nat) : Prop where
  src0 : S.1 src = 0
  zero : ∀ c, S.1 c = 0 → c = src
  srcq : src ∈ S.2
  inr : ∀ c ∈ S.2, c < v
  nodup : S.2.Nodup
  neg : ∀ c, S.1 c = -1 ∨ 0 ≤ S.1 c
  mem : ∀ c, 0 ≤ S.1 c ↔ c ∈ S.2
  sorted : S.2.Pairwise (fun a b => S.1 a ≤ S.1 b)
  top : ∀ x, S.2[i]? = some x → ∀ c ∈ S.2, S.1 c ≤ S.1 x + 1
  done : ∀ j x, S.2[j]? = some x → ∀ d, d < 4 → (j < i ∨ (j = i ∧ d < m)) → 0 ≤ s x d → 0 ≤ S.1 (s x d).toNat ∧ S.1 (s x d).toNat ≤ S.1 x + 1
  pred : ∀ c ∈ S.2, c = src ∨ ∃ c' d, c' ∈ S.2 ∧ d < 4 ∧ s c' d = (c : Int) ∧ S.1 c = S.1 c' + 1
theorem BInv.start {s : Nat → Nat → Int} {v src : Nat} (h : src < v) : BInv s v src (upd (fun _ => -1) src 0, [src]) 0 0 where
  src0 := by simp [upd]
  zero := fun c => by simp only [upd]; split <;> simp_all
  srcq := by simp
  inr := by simpa using h
  nodup := by simp
  neg := fun c => by simp only [upd]; split <;> simp
  mem := fun c => by
    simp only [upd, List.mem_singleton]
    split
    · rename_i e; simp [e]
    · rename_i e; simp [e]
  sorted := by simp
  top := fun x hx c hc => by
    simp at hx hc
    subst hx hc
    omega
  done := fun j x hx d hd hj => by omega
  pred := fun c hc => .inl (by simpa using hc)
theorem BInv.relax {s : Nat → Nat → Int} {v src : Nat} (hs : Rng s v) {S : (Nat → Int) × List Nat} {i m x : Nat} (hm : m < 4) (hx : S.2[i]? = some x) (I : BInv s v src S i m) :
    BInv s v src (relax s x m S) i (m + 1) ∧ (relax s x m S).2[i]? = some x := by
  have hxq : x ∈ S.2 := List.mem_of_getElem? hx
  have hi : i < S.2.length := by
    rcases Nat.lt_or_ge i S.2.length with h | h
    · exact h
    · rw [List.getElem?_eq_none h] at hx; cases hx
  have hxv := I.inr x hxq
  have hx0 := (I.mem x).2 hxq
  unfold Go.Proofs.YtamkcplflbjdkaaDoor.P.relax
  by_cases hc : 0 ≤ s x m ∧ S.1 (s x m).toNat < 0
  · rw [if_pos hc]
    obtain ⟨y, hy⟩ : ∃ y : Nat, s x m = y := ⟨(s x m).toNat, by omega⟩
    have hyv : y < v := by have := hs x m hxv hm; omega
    rw [hy] at hc ⊢
    simp only [Int.toNat_natCast] at hc ⊢
    have hyq : y ∉ S.2 := fun h => by have := (I.mem y).2 h; omega
    have keep : ∀ c, c ∈ S.2 → upd S.1 y (S.1 x + 1) c = S.1 c := by
      intro c h
      unfold upd
      rw [if_neg]
      rintro rfl
      exact hyq h
    have uy : upd S.1 y (S.1 x + 1) y = S.1 x + 1 := by unfold upd; rw [if_pos rfl]
    have idx : ∀ j z, (S.2 ++ [y])[j]? = some z → S.2[j]? = some z ∨ (j = S.2.length ∧ z = y) := by
      intro j z h
      rcases Nat.lt_or_ge j S.2.length with h1 | h1
      · rw [List.getElem?_append_left h1] at h; exact .inl h
      · rw [List.getElem?_append_right h1] at h
        have : j - S.2.length = 0 := by
          rcases Nat.eq_zero_or_pos (j - S.2.length) with h2 | h2
          · exact h2
          · rw [List.getElem?_eq_none (by simp only [List.length_singleton]; omega)] at h; cases h
        rw [this] at h
        simp at h
        exact .inr ⟨by omega, h.symm⟩
    have I0 : ∀ c, (upd S.1 y (S.1 x + 1), S.2 ++ [y]).1 c = 0 → c = src := by
      intro c
      show upd _ _ _ c = 0 → _
      unfold upd
      split
      · intro h; omega
      · exact I.zero c
    refine ⟨{ src0 := ?_, zero := I0, srcq := ?_, inr := ?_, nodup := ?_, neg := ?_, mem := ?_, sorted := ?_, top := ?_, done := ?_, pred := ?_ }, by rw [List.getElem?_append_left hi]; exact hx⟩
    · show upd _ _ _ src = 0
      rw [keep _ I.srcq]; exact I.src0
    · exact List.mem_append_left _ I.srcq
    · intro c hcq
      rcases List.mem_append.1 hcq with h | h
      · exact I.inr c h
      · simp at h; omega
    · rw [List.nodup_append]
      refine ⟨I.nodup, by simp, ?_⟩
      intro a ha b hb hab
      simp at hb
      subst hab hb
      exact hyq ha
    · intro c
      show upd _ _ _ c = -1 ∨ 0 ≤ upd _ _ _ c
      by_cases e : c = y
      · subst e; rw [uy]; omega
      · rw [show upd S.1 y (S.1 x + 1) c = S.1 c from if_neg e]; exact I.neg c
    · intro c
      rw [List.mem_append, List.mem_singleton]
      show 0 ≤ upd _ _ _ c ↔ _
      unfold upd
      by_cases e : c = y
      · rw [if_pos e]; exact ⟨fun _ => .inr e, fun _ => by omega⟩
      · rw [if_neg e, I.mem]; simp [e]
    · rw [List.pairwise_append]
      refine ⟨I.sorted.imp_of_mem fun {a b} ha hb h => ?_, by simp, ?_⟩
      · show upd _ _ _ a ≤ upd _ _ _ b
        rw [keep a ha, keep b hb]; exact h
      · intro a ha b hb
        simp at hb
        subst hb
        show upd _ _ _ a ≤ upd _ _ _ b
        rw [keep a ha, uy]
        exact I.top x hx a ha
    · intro z hz c hcq
      rw [List.getElem?_append_left hi, hx] at hz
      obtain rfl := Option.some.inj hz
      show upd _ _ _ c ≤ upd _ _ _ x + 1
      rw [keep x hxq]
      rcases List.mem_append.1 hcq with h | h
      · rw [keep c h]; exact I.top x hx c h
      · simp at h; subst h; rw [uy]; omega
    · intro j z hz d hd hj h0
      rcases idx j z hz with h | ⟨h, _⟩
      · have hzq : z ∈ S.2 := List.mem_of_getElem? h
        show 0 ≤ upd _ _ _ _ ∧ upd _ _ _ _ ≤ upd _ _ _ z + 1
        rw [keep z hzq]
        by_cases e : j = i ∧ d = m
        · obtain ⟨rfl, rfl⟩ := e
          rw [hx] at h
          obtain rfl := Option.some.inj h
          rw [hy, Int.toNat_natCast, uy]
          omega
        · have := I.done j z h d hd (by omega) h0
          have h1 := (I.mem _).1 this.1
          rw [keep _ h1]
          exact this
      · omega
    · intro c hcq
      rcases List.mem_append.1 hcq with h | h
      · rcases I.pred c h with h1 | ⟨c', d, h1, h2, h3, h4⟩
        · exact .inl h1
        · refine .inr ⟨c', d, List.mem_append_left _ h1, h2, h3, ?_⟩
          show upd _ _ _ c = upd _ _ _ c' + 1
          rw [keep c h, keep c' h1]; exact h4
      · simp at h
        subst h
        refine .inr ⟨x, m, List.mem_append_left _ hxq, hm, hy, ?_⟩
        show upd _ _ _ c = upd _ _ _ x + 1
        rw [uy, keep x hxq]
  · rw [if_neg hc]
    refine ⟨{ I with done := ?_ }, hx⟩
    intro j z hz d hd hj h0
    by_cases e : j = i ∧ d = m
    · obtain ⟨rfl, rfl⟩ := e
      rw [hx] at hz
      obtain rfl := Option.some.inj hz
      have h1 : 0 ≤ S.1 (s x d).toNat := by
        have := I.neg (s x d).toNat
        omega
      exact ⟨h1, I.top x hx _ ((I.mem _).1 h1)⟩
    · exact I.done j z hz d hd (by omega) h0
theorem BInv.next {s : Nat → Nat → Int} {v src : Nat} {S : (Nat → Int) × List Nat} {i x : Nat} (hx : S.2[i]? = some x) (I : BInv s v src S i 4) : BInv s v src S (i + 1) 0 :=
  { I with
    top := fun z hz c hc => by
      have h1 := I.top x hx c hc
      have h2 := List.pairwise_iff_getElem.1 I.sorted i (i + 1)
      obtain ⟨a, rfl⟩ := List.getElem?_eq_some_iff.1 hx
      obtain ⟨b, rfl⟩ := List.getElem?_eq_some_iff.1 hz
      have := h2 a b (by omega)
      omega
    done := fun j z hz d hd hj h0 => I.done j z hz d hd (by omega) h0 }
theorem BInv.round {s : Nat → Nat → Int} {v src : Nat} (hs : Rng s v) {S : (Nat → Int) × List Nat} {i x : Nat} (hx : S.2[i]? = some x) (I : BInv s v src S i 0) : BInv s v src (bround s x S) (i + 1) 0 := by
  obtain ⟨I1, h1⟩ := I.relax hs (by omega) hx
  obtain ⟨I2, h2⟩ := I1.relax hs (by omega) h1
  obtain ⟨I3, h3⟩ := I2.relax hs (by omega) h2
  obtain ⟨I4, h4⟩ := I3.relax hs (by omega) h3
  exact I4.next h4
theorem nodup_len {v : Nat} : ∀ {q : List Nat}, q.Nodup → (∀ c ∈ q, c < v) → q.length ≤ v := by
  induction v with
  | zero =>
    intro q _ h
    cases q with
    | nil => simp
    | cons a l => have := h a (by simp); omega
  | succ v ih =>
    intro q hn h
    have h1 := ih (q := q.erase v) (hn.erase v) (fun c hc => by
      have h1 := h c (List.mem_of_mem_erase hc)
      have : c ≠ v := by rintro rfl; exact absurd hc (List.Nodup.not_mem_erase hn)
      omega)
    have h2 := List.length_erase (a := v) (l := q)
    split at h2 <;> omega
theorem BInv.len {s : Nat → Nat → Int} {v src : Nat} {S : (Nat → Int) × List Nat} {i m : Nat} (I : BInv s v src S i m) : S.2.length ≤ v := nodup_len I.nodup I.inr
/-- What distances are. -/
structure Dist (s : Nat → Nat → Int) (v src : Nat) (D : Nat → Int) : Prop where
  src0 : D src = 0
  zero : ∀ c, D c = 0 → c = src
  neg : ∀ c, D c = -1 ∨ 0 ≤ D c
  inr : ∀ c, 0 ≤ D c → c < v
  lip : ∀ x d, d < 4 → 0 ≤ D x → 0 ≤ s x d → 0 ≤ D (s x d).toNat ∧ D (s x d).toNat ≤ D x + 1
  pred : ∀ c, 0 < D c → ∃ c' d, d < 4 ∧ s c' d = (c : Int) ∧ 0 ≤ D c' ∧ D c = D c' + 1
theorem BInv.dist {s : Nat → Nat → Int} {v src : Nat} {S : (Nat → Int) × List Nat} {i : Nat} (hi : S.2[i]? = none) (I : BInv s v src S i 0) : Dist s v src S.1 where
  src0 := I.src0
  zero := I.zero
  neg := I.neg
  inr := fun c h => I.inr c ((I.mem c).1 h)
  lip := fun x d hd hx h0 => by
    obtain ⟨j, hj⟩ := List.mem_iff_getElem?.1 ((I.mem x).1 hx)
    refine I.done j x hj d hd (.inl ?_) h0
    rcases Nat.lt_or_ge j i with h | h
    · exact h
    · rw [List.getElem?_eq_none_iff] at hi
      rw [List.getElem?_eq_none (by omega)] at hj
      cases hj
  pred := fun c h => by
    rcases I.pred c ((I.mem c).1 (by omega)) with h1 | ⟨c', d, h1, h2, h3, h4⟩
    · rw [h1, I.src0] at h; omega
    · exact ⟨c', d, h2, h3, (I.mem c').2 h1, h4⟩
theorem bfsF_dist {s : Nat → Nat → Int} {v src : Nat} (hs : Rng s v) : ∀ (f : Nat) (S : (Nat → Int) × List Nat) (i : Nat), BInv s v src S i 0 → i ≤ S.2.length → v + 1 - i ≤ f → Dist s v src (bfsF s f S i)
  | 0, S, i, I, hi, hf => by have := I.len; omega
  | f + 1, S, i, I, hi, hf => by
    simp only [bfsF]
    cases h : S.2[i]? with
    | none => exact I.dist h
    | some x =>
      have I2 := I.round hs h
      have hl : S.2.length ≤ (bround s x S).2.length := by
        have h1 : ∀ m T, T.2.length ≤ (Go.Proofs.YtamkcplflbjdkaaDoor.P.relax s x m T).2.length := by
          intro m T
          unfold Go.Proofs.YtamkcplflbjdkaaDoor.P.relax
          split <;> simp
        exact Nat.le_trans (h1 0 S) (Nat.le_trans (h1 1 _) (Nat.le_trans (h1 2 _) (h1 3 _)))
      have h2 := (List.getElem?_eq_some_iff.1 h).1
      exact bfsF_dist hs f _ (i + 1) I2 (by omega) (by omega)
theorem bfsD_dist {s : Nat → Nat → Int} {v src : Nat} (hs : Rng s v) (h : src < v) : Dist s v src (bfsD s v src) := bfsF_dist hs _ _ 0 (BInv.start h) (by simp) (by omega)
/-- Steps are the edges of n. -/
structure Net (s : Nat → Nat → Int) (e : Nat → Nat × Nat) (v n : Nat) : Prop where
  rng : Rng s v
  edge : ∀ x d, x < v → d < 4 → 0 ≤ s x d → ∃ k, n.testBit k = true ∧ (e k = (x, (s x d).toNat) ∨ e k = ((s x d).toNat, x))
  lt : ∀ k, n.testBit k = true → (e k).1 < v ∧ (e k).2 < v
  fwd : ∀ k, n.testBit k = true → ∃ d, d < 4 ∧ s (e k).1 d = ((e k).2 : Int)
  bwd : ∀ k, n.testBit k = true → ∃ d, d < 4 ∧ s (e k).2 d = ((e k).1 : Int)
theorem Dist.cn {s : Nat → Nat → Int} {e : Nat → Nat × Nat} {v n src : Nat} {D : Nat → Int} (N : Net s e v n) (I : Dist s v src D) (c : Nat) : 0 ≤ D c ↔ Cn e n src c := by
  constructor
  · intro h
    obtain ⟨m, hm⟩ : ∃ m : Nat, D c = m := ⟨(D c).toNat, by omega⟩
    clear h
    induction m using Nat.strongRecOn generalizing c with
    | _ m ih =>
      by_cases h0 : 0 < D c
      · obtain ⟨c', d, hd, h1, h2, h3⟩ := I.pred c h0
        have := ih (D c').toNat (by omega) c' (by omega)
        obtain ⟨k, hk, hk2⟩ := N.edge c' d (I.inr _ h2) hd (by omega)
        rw [h1] at hk2
        simp only [Int.toNat_natCast] at hk2
        rcases hk2 with h | h
        · have e1 := Cn.edge (e := e) hk
          rw [h] at e1
          exact this.trans e1
        · have e1 := Cn.edge' (e := e) hk
          rw [h] at e1
          exact this.trans e1
      · rw [I.zero c (by omega)]
        exact .refl _
  · intro h
    induction h with
    | refl => rw [I.src0]; omega
    | fwd k hk _ ih =>
      obtain ⟨d, hd, h1⟩ := N.fwd k hk
      have := I.lip _ d hd ih (by omega)
      rw [h1] at this
      simpa using this.1
    | bwd k hk _ ih =>
      obtain ⟨d, hd, h1⟩ := N.bwd k hk
      have := I.lip _ d hd ih (by omega)
      rw [h1] at this
      simpa using this.1
def cellsN (w h : Int) : Nat := (cellsOf w h).toNat
theorem cellsN_cast (w h : Int) : ((cellsN w h : Nat) : Int) = cellsOf w h := by have := cellsOf_range w h; unfold cellsN; omega
theorem cellsN_le (w h : Int) : cellsN w h ≤ 16 := by have := cellsOf_range w h; unfold cellsN; omega
def ends (w h : Int) (g : Nat) : Nat × Nat := ((endsI w h g).1.toNat, (endsI w h g).2.toNat)
def st (w h : Int) (n : Nat) (c d : Nat) : Int := stepI w h n c d
theorem ends_facts {w h : Int} {g : Nat} (hg : g < gapsN w h) : endsI w h g = (((ends w h g).1 : Int), ((ends w h g).2 : Int)) ∧ (ends w h g).1 < (ends w h g).2 ∧ (ends w h g).2 < cellsN w h := by
 have hc := gapsN_cast w h
 have hc2 := cellsN_cast w h
 obtain ⟨h1, h2, h3, _⟩ := end_facts (w := w) (h := h) (g := g) (by omega) (by omega)
 unfold ends
 refine ⟨?_, by simp only; omega, by simp only; omega⟩
 apply Prod.ext
 ·simp only; omega
 ·simp only; omega
theorem gr_grid (w h : Int) : Gr (ends w h) (cellsN w h) (gapsN w h) := fun g hg => by
 have := ends_facts hg
 omega
theorem step_open {w h : Int} {n : Nat} {c d : Int} (hn : n < 2 ^ gapsN w h) (h0 : 0 ≤ stepI w h n c d) : ∃ g : Nat, g < gapsN w h ∧ gapI w h c d = g ∧ n.testBit g = true ∧ stepI w h n c d = nbI w h c d ∧ endsI w h g = (min c (nbI w h c d), max c (nbI w h c d)) := by
 have hc := gapsN_cast w h
 unfold stepI at *
 by_cases ho : openI n (gapI w h c d) = true
 ·rw [if_pos ho] at *
  rcases step_facts w h c d with ⟨h1, _⟩ | ⟨h1, h2, h3, h4, h5, h6, _⟩
  ·omega
  ·refine ⟨(gapI w h c d).toNat, by omega, by omega, ?_, rfl, ?_⟩
   ·unfold openI at ho
    simp only [Bool.and_eq_true] at ho
    exact ho.2
   ·rw [show (((gapI w h c d).toNat : Nat) : Int) = gapI w h c d by omega]; exact h6
 ·rw [if_neg ho] at h0; omega
theorem net_grid {w h : Int} {n : Nat} (hn : n < 2 ^ gapsN w h) : Net (st w h n) (ends w h) (cellsN w h) n where
 rng := fun x d _ _ => by
  have := cellsN_cast w h
  unfold st
  rcases step_lt (w := w) (h := h) (c := x) (d := d) (n := n) with h1 | h1
  ·exact .inl h1
  ·exact .inr (by omega)
 edge := fun x d hx hd h0 => by
  unfold st at *
  obtain ⟨g, h1, h2, h3, h4, h5⟩ := step_open hn h0
  refine ⟨g, h3, ?_⟩
  unfold ends
  rw [h5, h4]
  rw [h4] at h0
  rcases Int.le_total x (nbI w h x d) with hl | hl
  ·left
   rw [Int.min_eq_left hl, Int.max_eq_right hl]; rfl
  ·right
   rw [Int.min_eq_right hl, Int.max_eq_left hl]; rfl
 lt := fun k hk => by
  have := ends_facts (lt_of_testBit hn hk)
  omega
 fwd := fun k hk => by
  have hkg := lt_of_testBit hn hk
  have hc := gapsN_cast w h
  obtain ⟨e1, e2, e3⟩ := ends_facts hkg
  obtain ⟨_, _, _, h4⟩ := end_facts (w := w) (h := h) (g := k) (by omega) (by omega)
  rw [e1] at h4
  simp only at h4
  have ho : openI n (k : Int) = true := by unfold openI; simp [hk]
  rcases h4 with ⟨a, b⟩ | ⟨a, b⟩
  ·exact ⟨1, by omega, by unfold st stepI; rw [show ((1 : Nat) : Int) = 1 from rfl, b, if_pos ho, a]⟩
  ·exact ⟨2, by omega, by unfold st stepI; rw [show ((2 : Nat) : Int) = 2 from rfl, b, if_pos ho, a]⟩
 bwd := fun k hk => by
  have hkg := lt_of_testBit hn hk
  have hc := gapsN_cast w h
  obtain ⟨e1, e2, e3⟩ := ends_facts hkg
  obtain ⟨_, _, _, h4⟩ := end_facts (w := w) (h := h) (g := k) (by omega) (by omega)
  rw [e1] at h4
  simp only at h4
  have ho : openI n (k : Int) = true := by unfold openI; simp [hk]
  rcases h4 with ⟨a, b⟩ | ⟨a, b⟩
  ·rcases step_facts w h (ends w h k).1 1 with ⟨q, _⟩ | ⟨q1, q2, q3, q4, q5, q6, q7, q8⟩
   ·omega
   ·rw [a] at q7 q8
    exact ⟨3, by omega, by unfold st stepI; rw [show ((3 : Nat) : Int) = (1 + 2) % 4 from rfl, q8, b, if_pos ho, q7]⟩
  ·rcases step_facts w h (ends w h k).1 2 with ⟨q, _⟩ | ⟨q1, q2, q3, q4, q5, q6, q7, q8⟩
   ·omega
   ·rw [a] at q7 q8
    exact ⟨0, by omega, by unfold st stepI; rw [show ((0 : Nat) : Int) = (2 + 2) % 4 from rfl, q8, b, if_pos ho, q7]⟩
def distN (w h : Int) (n s : Nat) : Nat → Int := bfsD (st w h n) (cellsN w h) s
theorem distN_dist {w h : Int} {n s : Nat} (hn : n < 2 ^ gapsN w h) (hs : s < cellsN w h) : Dist (st w h n) (cellsN w h) s (distN w h n s) := bfsD_dist (net_grid hn).rng hs
theorem distN_cn {w h : Int} {n s : Nat} (hn : n < 2 ^ gapsN w h) (hs : s < cellsN w h) (c : Nat) : 0 ≤ distN w h n s c ↔ Cn (ends w h) n s c := (distN_dist hn hs).cn (net_grid hn) c
def sumTo : Nat → (Nat → Int) → Int
 | 0, _ => 0
 | n + 1, f => sumTo n f + f n
theorem sumTo_congr {n : Nat} {f g : Nat → Int} (h : ∀ i, i < n → f i = g i) : sumTo n f = sumTo n g := by
 induction n with
 | zero => rfl
 | succ n ih => simp only [sumTo]; rw [ih (fun i hi => h i (by omega)), h n (by omega)]
theorem sumTo_zero {n : Nat} {f : Nat → Int} (h : ∀ i, i < n → f i = 0) : sumTo n f = 0 := by
 induction n with
 | zero => rfl
 | succ n ih => simp only [sumTo]; rw [ih (fun i hi => h i (by omega)), h n (by omega)]; rfl
theorem sumTo_one {n : Nat} {f g : Nat → Int} {k : Nat} (hk : k < n) (h : ∀ i, i < n → i ≠ k → g i = f i) : sumTo n g = sumTo n f + (g k - f k) := by
 induction n with
 | zero => omega
 | succ n ih =>
  simp only [sumTo]
  by_cases e : k = n
  ·subst e
   rw [sumTo_congr (fun i hi => h i (by omega) (by omega))]
   omega
  ·rw [ih (by omega) (fun i hi hne => h i (by omega) hne), h n (by omega) (fun e' => e e'.symm)]
   omega
def del (s k : Nat) : Nat := andNot s (2 ^ k)
theorem testBit_del (s k i : Nat) : (del s k).testBit i = (s.testBit i && decide (i ≠ k)) := by
 unfold del
 rw [testBit_andNot, Nat.testBit_two_pow]
 by_cases h : i = k
 ·simp [h]
 ·simp [h, show ¬ k = i from fun e => h e.symm]
theorem pop_del {n s k : Nat} (hk : k < n) (h : s.testBit k = true) : pop n s = pop n (del s k) + 1 := by
 induction n with
 | zero => omega
 | succ n ih =>
  simp only [pop]
  by_cases e : k = n
  ·subst e
   rw [testBit_del, h, pop_congr (s := del s k) (t := s) (fun i hi => by rw [testBit_del]; simp; omega)]
   simp
  ·rw [ih (by omega), testBit_del]
   simp [show ¬ n = k from fun e' => e e'.symm]
   omega
def sgn (c : Nat) : Int := if c % 2 = 0 then 1 else -1
theorem sgn_succ (c : Nat) : sgn (c + 1) = -sgn c := by
 unfold sgn
 by_cases h : c % 2 = 0
 ·rw [if_pos h, if_neg (by omega)]
 ·rw [if_neg h, if_pos (by omega)]; rfl
theorem sumTo_add (n : Nat) (f g : Nat → Int) : sumTo n (fun i => f i + g i) = sumTo n f + sumTo n g := by
 induction n with
 | zero => rfl
 | succ n ih => simp only [sumTo]; rw [ih]; omega
theorem sumTo_mul (n : Nat) (c : Int) (f : Nat → Int) : sumTo n (fun i => c * f i) = c * sumTo n f := by
 induction n with
 | zero => simp [sumTo]
 | succ n ih => simp only [sumTo]; rw [ih, Int.mul_add]
theorem sumTo_neg (n : Nat) (f : Nat → Int) : sumTo n (fun i => -f i) = -sumTo n f := by
 induction n with
 | zero => rfl
 | succ n ih => simp only [sumTo]; rw [ih]; omega
theorem sumTo_comm (m n : Nat) (f : Nat → Nat → Int) : sumTo m (fun i => sumTo n (fun j => f i j)) = sumTo n (fun j => sumTo m (fun i => f i j)) := by
 induction m with
 | zero => simp only [sumTo]; exact (sumTo_zero fun _ _ => rfl).symm
 | succ m ih => simp only [sumTo]; rw [ih, ← sumTo_add]
theorem sumTo_two {n i : Nat} {f g : Nat → Int} (h1 : i + 1 < n) (hs : g i + g (i + 1) = -(f i + f (i + 1))) (h : ∀ k, k < n → k ≠ i → k ≠ i + 1 → g k = -f k) : sumTo n g = -sumTo n f := by
 have e1 : sumTo n (fun k => g k + f k) = 0 := by
  have : ∀ m, m ≤ n → sumTo m (fun k => g k + f k) = if m = i + 1 then g i + f i else 0 := by
   intro m
   induction m with
   | zero => intro _; simp [sumTo]
   | succ m ih =>
    intro hm
    simp only [sumTo]
    rw [ih (by omega)]
    by_cases a : m = i
    ·subst a; simp
    ·by_cases b : m = i + 1
     ·subst b; simp; omega
     ·have := h m (by omega) a b
      simp [a, b]; omega
  rw [this n (Nat.le_refl n), if_neg (by omega)]
 rw [sumTo_add] at e1
 omega
theorem sgn_par {a b : Nat} (h : a % 2 = b % 2) : sgn a = sgn b := by unfold sgn; rw [h]
def er (i : Nat) (A : Nat → Nat → Int) : Nat → Nat → Int := fun j => if j < i then A j else A (j + 1)
def ec (c : Nat) (A : Nat → Nat → Int) : Nat → Nat → Int := fun j d => if d < c then A j d else A j (d + 1)
def rp (A : Nat → Nat → Int) (i : Nat) (v : Nat → Int) : Nat → Nat → Int := fun j => if j = i then v else A j
def swp (A : Nat → Nat → Int) (i j : Nat) : Nat → Nat → Int := fun k => if k = i then A j else if k = j then A i else A k
def dt : Nat → (Nat → Nat → Int) → Int
 | 0, _ => 1
 | r + 1, A => sumTo (r + 1) fun i => sgn (r - i) * A i r * dt r (er i A)
theorem dt_congr : ∀ {r : Nat} {A B : Nat → Nat → Int}, (∀ i c, i < r → c < r → A i c = B i c) → dt r A = dt r B
 | 0, _, _, _ => rfl
 | r + 1, A, B, h => by
  simp only [dt]
  refine sumTo_congr fun i hi => ?_
  rw [h i r hi (by omega), dt_congr (A := er i A) (B := er i B)]
  intro j c hj hc
  unfold er
  split
  ·exact h j c (by omega) (by omega)
  ·exact h (j + 1) c (by omega) (by omega)
theorem er_rp_same (A : Nat → Nat → Int) (i : Nat) (v : Nat → Int) : er i (rp A i v) = er i A := by
 funext j
 unfold er rp
 split
 ·rw [if_neg (by omega)]
 ·rw [if_neg (by omega)]
theorem er_rp (A : Nat → Nat → Int) {k i : Nat} (h : k ≠ i) (v : Nat → Int) : er k (rp A i v) = rp (er k A) (if i < k then i else i - 1) v := by
 funext j
 simp only [er, rp]
 by_cases hk : i < k
 ·rw [if_pos hk]
  repeat' split
  all_goals first | rfl | omega
 ·rw [if_neg hk]
  repeat' split
  all_goals first | rfl | omega
theorem rp_same (A : Nat → Nat → Int) (i : Nat) (v : Nat → Int) : rp A i v i = v := if_pos rfl
theorem rp_ne (A : Nat → Nat → Int) {i j : Nat} (h : j ≠ i) (v : Nat → Int) : rp A i v j = A j := if_neg h
theorem dt_lin : ∀ {r : Nat} (A : Nat → Nat → Int) {i : Nat} (hi : i < r) (c d : Int) (u v : Nat → Int), dt r (rp A i (fun x => c * u x + d * v x)) = c * dt r (rp A i u) + d * dt r (rp A i v)
 | 0, _, _, hi, _, _, _, _ => by omega
 | r + 1, A, i, hi, c, d, u, v => by
  simp only [dt]
  rw [← sumTo_mul, ← sumTo_mul, ← sumTo_add]
  refine sumTo_congr fun k hk => ?_
  by_cases e : k = i
  ·subst e
   simp only [rp_same, er_rp_same]
   grind
  ·simp only [rp_ne _ e, er_rp _ e]
   rw [dt_lin (er k A) (by split <;> omega)]
   grind
theorem dt_adj : ∀ {r : Nat} (A : Nat → Nat → Int) {i : Nat} (hi : i + 1 < r), dt r (swp A i (i + 1)) = -dt r A
 | 0, _, _, hi => by omega
 | r + 1, A, i, hi => by
  simp only [dt]
  have h1 : er i (swp A i (i + 1)) = er (i + 1) A := by
   funext j; unfold er swp
   repeat' split
   all_goals first | rfl | omega | (congr 1; omega)
  have h2 : er (i + 1) (swp A i (i + 1)) = er i A := by
   funext j; unfold er swp
   repeat' split
   all_goals first | rfl | omega | (congr 1; omega)
  refine sumTo_two (i := i) hi ?_ ?_
  ·rw [h1, h2, show swp A i (i + 1) i = A (i + 1) from if_pos rfl, show swp A i (i + 1) (i + 1) = A i by unfold swp; rw [if_neg (by omega), if_pos rfl], show r - i = (r - (i + 1)) + 1 by omega, sgn_succ]
   grind
  ·intro k hk n1 n2
   have h3 : er k (swp A i (i + 1)) = swp (er k A) (if i < k then i else i - 1) ((if i < k then i else i - 1) + 1) := by
    funext j; simp only [er, swp]
    by_cases hk : i < k
    ·rw [if_pos hk]
     repeat' split
     all_goals first | rfl | omega | (congr 1; omega)
    ·rw [if_neg hk]
     repeat' split
     all_goals first | rfl | omega | (congr 1; omega)
   rw [h3, dt_adj (er k A) (by split <;> omega), show swp A i (i + 1) k = A k by unfold swp; rw [if_neg n1, if_neg n2]]
   grind
theorem dt_same : ∀ (d : Nat) {r : Nat} (A : Nat → Nat → Int) {i : Nat}, i + 1 + d < r → (∀ c, A i c = A (i + 1 + d) c) → dt r A = 0
 | 0, r, A, i, hj, h => by
  have h1 := dt_adj A (i := i) hj
  have h2 : swp A i (i + 1) = A := by
   funext k c; unfold swp
   split
   ·rename_i e; subst e; exact (h c).symm
   ·split
    ·rename_i e; subst e; exact h c
    ·rfl
  rw [h2] at h1
  omega
 | d + 1, r, A, i, hj, h => by
  have h1 := dt_adj A (i := i + 1 + d) (by omega)
  have h2 := dt_same d (r := r) (swp A (i + 1 + d) (i + 1 + d + 1)) (i := i) (by omega) (fun c => by
   unfold swp
   rw [if_neg (by omega), if_neg (by omega), if_pos rfl]
   exact h c)
  omega
theorem dt_eq {r : Nat} (A : Nat → Nat → Int) {i j : Nat} (hij : i ≠ j) (hi : i < r) (hj : j < r) (h : ∀ c, A i c = A j c) : dt r A = 0 := by
 rcases Nat.lt_or_gt_of_ne hij with hl | hl
 ·exact dt_same (j - i - 1) A (i := i) (by omega) (fun c => by rw [show i + 1 + (j - i - 1) = j by omega]; exact h c)
 ·exact dt_same (i - j - 1) A (i := j) (by omega) (fun c => by rw [show j + 1 + (i - j - 1) = i by omega]; exact (h c).symm)
theorem rp_self (A : Nat → Nat → Int) (i : Nat) : rp A i (A i) = A := by
 funext j; unfold rp; split
 ·rename_i e; rw [e]
 ·rfl
theorem er_ec (A : Nat → Nat → Int) (i c : Nat) : er i (ec c A) = ec c (er i A) := by
 funext j d
 by_cases h : j < i <;> by_cases h2 : d < c <;> simp [er, ec, h, h2]
theorem dt_lastvec : ∀ (r : Nat) (A : Nat → Nat → Int), dt (r + 1) A = sumTo (r + 1) fun c => sgn (r - c) * A r c * dt r (ec c A)
 | 0, A => rfl
 | r + 1, A => by
  have L : dt (r + 2) A = sumTo (r + 1) (fun i => sgn (r + 1 - i) * A i (r + 1) * dt (r + 1) (er i A)) + sgn (r + 1 - (r + 1)) * A (r + 1) (r + 1) * dt (r + 1) (er (r + 1) A) := rfl
  rw [L]
  show _ = sumTo (r + 1) (fun c => sgn (r + 1 - c) * A (r + 1) c * dt (r + 1) (ec c A)) + sgn (r + 1 - (r + 1)) * A (r + 1) (r + 1) * dt (r + 1) (ec (r + 1) A)
  have e1 : dt (r + 1) (er (r + 1) A) = dt (r + 1) (ec (r + 1) A) := dt_congr fun i c hi hc => by unfold er ec; rw [if_pos hi, if_pos hc]
  rw [e1]
  congr 1
  have e2 : sumTo (r + 1) (fun i => sgn (r + 1 - i) * A i (r + 1) * dt (r + 1) (er i A)) = sumTo (r + 1) (fun i => sumTo (r + 1) fun c => sgn (r + 1 - i) * sgn (r - c) * (A i (r + 1) * A (r + 1) c) * dt r (ec c (er i A))) := by
   refine sumTo_congr fun i hi => ?_
   rw [dt_lastvec r (er i A), ← sumTo_mul]
   refine sumTo_congr fun c hc => ?_
   rw [show er i A r = A (r + 1) from if_neg (by omega)]
   grind
  have e3 : sumTo (r + 1) (fun c => sgn (r + 1 - c) * A (r + 1) c * dt (r + 1) (ec c A)) = sumTo (r + 1) (fun c => sumTo (r + 1) fun i => sgn (r + 1 - i) * sgn (r - c) * (A i (r + 1) * A (r + 1) c) * dt r (ec c (er i A))) := by
   refine sumTo_congr fun c hc => ?_
   show _ * dt (r + 1) (ec c A) = _
   simp only [dt]
   rw [← sumTo_mul]
   refine sumTo_congr fun i hi => ?_
   rw [show ec c A i r = A i (r + 1) from if_neg (by omega), er_ec, show r + 1 - c = (r - c) + 1 by omega, show r + 1 - i = (r - i) + 1 by omega, sgn_succ, sgn_succ]
   grind
  rw [e2, e3, sumTo_comm]
def tr (A : Nat → Nat → Int) : Nat → Nat → Int := fun i c => A c i
theorem dt_tr : ∀ (r : Nat) (A : Nat → Nat → Int), dt r (tr A) = dt r A
 | 0, A => rfl
 | r + 1, A => by
  rw [dt_lastvec r A]
  simp only [dt]
  refine sumTo_congr fun i hi => ?_
  have : er i (tr A) = tr (ec i A) := by
   funext j c; simp only [er, tr, ec]
   split <;> rfl
  rw [this, dt_tr r (ec i A)]
  rfl
theorem dt_vec {r : Nat} : ∀ (d p : Nat) (A : Nat → Nat → Int), p + d = r → dt (r + 1) A = sumTo (r + 1) fun c => sgn (p + c) * A p c * dt r (er p (ec c A))
 | 0, p, A, h => by
  have : p = r := by omega
  subst this
  rw [dt_lastvec]
  refine sumTo_congr fun c hc => ?_
  rw [sgn_par (show (p - c) % 2 = (p + c) % 2 by omega)]
  congr 1
  exact dt_congr fun i c' hi hc' => by unfold er; rw [if_pos hi]
 | d + 1, p, A, h => by
  have h1 := dt_adj A (i := p) (r := r + 1) (by omega)
  have h2 := dt_vec (r := r) d (p + 1) (swp A p (p + 1)) (by omega)
  rw [h2] at h1
  have h3 : sumTo (r + 1) (fun c => sgn (p + 1 + c) * swp A p (p + 1) (p + 1) c * dt r (er (p + 1) (ec c (swp A p (p + 1))))) = -sumTo (r + 1) fun c => sgn (p + c) * A p c * dt r (er p (ec c A)) := by
   rw [← sumTo_neg]
   refine sumTo_congr fun c hc => ?_
   have h4 : er (p + 1) (ec c (swp A p (p + 1))) = er p (ec c A) := by
    funext j d
    have h4 : er (p + 1) (swp A p (p + 1)) = er p A := by
     funext j; simp only [er, swp]
     repeat' split
     all_goals first | rfl | omega | (congr 1; omega)
    rw [er_ec, h4, er_ec]
   rw [h4, show swp A p (p + 1) (p + 1) = A p by unfold swp; rw [if_neg (by omega), if_pos rfl], show p + 1 + c = p + c + 1 by omega, sgn_succ]
   grind
  omega
theorem sumTo_single {n q : Nat} {f : Nat → Int} (hq : q < n) (h : ∀ i, i < n → i ≠ q → f i = 0) : sumTo n f = f q := by
 have := sumTo_one (f := fun _ => 0) (g := f) hq (fun i hi hne => h i hi hne)
 rw [sumTo_zero (f := fun _ => 0) (fun _ _ => rfl)] at this
 omega
theorem dt_unit {r : Nat} (A : Nat → Nat → Int) {p q : Nat} (hp : p ≤ r) (hq : q ≤ r) (h : ∀ c, c ≤ r → c ≠ q → A p c = 0) : dt (r + 1) A = sgn (p + q) * A p q * dt r (er p (ec q A)) := by
 rw [dt_vec (r - p) p A (by omega)]
 refine sumTo_single (f := fun c => sgn (p + c) * A p c * dt r (er p (ec c A))) (by omega) fun c hc hne => ?_
 rw [h c (by omega) hne]
 simp
theorem dt_zero {r : Nat} (A : Nat → Nat → Int) {i : Nat} (hi : i < r) (h : ∀ c, c < r → A i c = 0) : dt r A = 0 := by
 have := dt_lin A hi 0 0 (A i) (A i)
 rw [show dt r (rp A i fun x => 0 * A i x + 0 * A i x) = dt r A from dt_congr fun j c hj hc => by
  unfold rp; split
  ·rename_i e; subst e; rw [h c hc]; simp
  ·rfl] at this
 simpa using this
end Go.Proofs.YtamkcplflbjdkaaDoor.P
namespace Go.Proofs.YtamkcplflbjdkaaDoor.P
open Go.RowKit Go.Proofs.YtamkcplflbjdkaaDoorW.PrintWords
set_option linter.unusedVariables false
set_option linter.unusedSimpArgs false

def dl (x y : Nat) : Int := if x = y then 1 else 0
def vg (l : Nat → Nat) (r : Nat) (e : Nat × Nat) (x : Nat) : Int := if x = r then 0 else dl x (l e.1) - dl x (l e.2)
section
variable {e : Nat → Nat × Nat} {E : Nat} {l : Nat → Nat} {r : Nat} {U : Nat → Bool} {g P Q : Nat}
variable (hl : ∀ x, l (l x) = l x) (hr : l r = r) (hg : g < E) (hU : U g = true) (hP : P = l (e g).1 ∧ Q = l (e g).2 ∨ P = l (e g).2 ∧ Q = l (e g).1) (hPQ : P ≠ Q)
include hl hr hg hU hP hPQ
end
end Go.Proofs.YtamkcplflbjdkaaDoor.P
namespace Go.Proofs.YtamkcplflbjdkaaDoor.P
open Go.RowKit Go.Proofs.YtamkcplflbjdkaaDoorW.PrintWords
set_option linter.unusedVariables false
set_option linter.unusedSimpArgs false

theorem cnt_add {p q r : Nat → Bool} {v : Nat} (h : ∀ i, i < v → (p i).toNat = (q i).toNat + (r i).toNat) : cnt p v = cnt q v + cnt r v := by
  induction v with
  | zero => rfl
  | succ n ih => simp only [cnt]; rw [ih (fun i hi => h i (by omega)), h n (by omega)]; omega
/-- Neither chosen nor banned. -/
def und (c b : Nat) : Nat → Bool := fun g => !c.testBit g && !b.testBit g
/-- One part, and no loop. -/
def perf (e : Nat → Nat × Nat) (V E t : Nat) : Bool := decide (parts e V E t = 1 ∧ pop E t + 1 = V)
def sup (E c b t : Nat) : Bool := decide (∀ i, i < E → (c.testBit i = true → t.testBit i = true) ∧ (b.testBit i = true → t.testBit i = false))
/-- How many perfect ones have all that is chosen and nothing that is banned. -/
def trees (e : Nat → Nat × Nat) (V E c b : Nat) : Nat := cnt (fun t => sup E c b t && perf e V E t) (2 ^ E)
theorem sup_iff {E c b t : Nat} : sup E c b t = true ↔ ∀ i, i < E → (c.testBit i = true → t.testBit i = true) ∧ (b.testBit i = true → t.testBit i = false) := by unfold sup; rw [decide_eq_true_eq]
theorem sup_split {E c b g t : Nat} (hg : g < E) (hu : und c b g = true) : (sup E c b t).toNat = (sup E (setB c g true) b t).toNat + (sup E c (setB b g true) t).toNat := by
  simp only [und, Bool.and_eq_true, Bool.not_eq_true'] at hu
  have h1 : sup E (setB c g true) b t = (sup E c b t && t.testBit g) := by
    rw [Bool.eq_iff_iff, Bool.and_eq_true, sup_iff, sup_iff]
    simp only [testBit_setB]
    constructor
    · intro h
      refine ⟨fun i hi => ⟨fun hc => (h i hi).1 (by split <;> simp [hc]), (h i hi).2⟩, (h g hg).1 (by simp)⟩
    · rintro ⟨h, h2⟩ i hi
      refine ⟨fun hc => ?_, (h i hi).2⟩
      split at hc
      · rename_i e; rw [e]; exact h2
      · exact (h i hi).1 hc
  have h2 : sup E c (setB b g true) t = (sup E c b t && !t.testBit g) := by
    rw [Bool.eq_iff_iff, Bool.and_eq_true, sup_iff, sup_iff]
    simp only [testBit_setB, Bool.not_eq_true']
    constructor
    · intro h
      refine ⟨fun i hi => ⟨(h i hi).1, fun hc => (h i hi).2 (by split <;> simp [hc])⟩, (h g hg).2 (by simp)⟩
    · rintro ⟨h, h2⟩ i hi
      refine ⟨(h i hi).1, fun hc => ?_⟩
      split at hc
      · rename_i e; rw [e]; exact h2
      · exact (h i hi).2 hc
  rw [h1, h2]
  cases sup E c b t <;> cases t.testBit g <;> rfl
theorem trees_split {e : Nat → Nat × Nat} {V E c b g : Nat} (hg : g < E) (hu : und c b g = true) : trees e V E c b = trees e V E (setB c g true) b + trees e V E c (setB b g true) := by
  unfold trees
  refine cnt_add fun t ht => ?_
  have := sup_split (t := t) hg hu
  cases h1 : perf e V E t
  · simp
  · simpa using this
theorem perf_iff {e : Nat → Nat × Nat} {V E t : Nat} : perf e V E t = true ↔ parts e V E t = 1 ∧ pop E t + 1 = V := by unfold perf; rw [decide_eq_true_eq]
end Go.Proofs.YtamkcplflbjdkaaDoor.P
namespace Go.Proofs.YtamkcplflbjdkaaDoor.P
open Go.RowKit Go.Proofs.YtamkcplflbjdkaaDoorW.PrintWords
set_option linter.unusedVariables false
set_option linter.unusedSimpArgs false

section
variable {s : Nat → Nat → Int} {e : Nat → Nat × Nat} {v n z : Nat} {D : Nat → Int}
theorem Net.edge_of (N : Net s e v n) {x d y : Nat} (hx : x < v) (hd : d < 4) (h : s x d = (y : Int)) : ∃ k, n.testBit k = true ∧ (e k = (x, y) ∨ e k = (y, x)) := by
 obtain ⟨k, hk, h2⟩ := N.edge x d hx hd (by omega)
 rw [h, Int.toNat_natCast] at h2
 exact ⟨k, hk, h2⟩
theorem Net.bwd_of (N : Net s e v n) {x d y : Nat} (hx : x < v) (hd : d < 4) (h : s x d = (y : Int)) : ∃ d', d' < 4 ∧ s y d' = (x : Int) := by
 obtain ⟨k, hk, h2 | h2⟩ := N.edge_of hx hd h
 ·have := N.bwd k hk
  rw [h2] at this
  exact this
 ·have := N.fwd k hk
  rw [h2] at this
  exact this
theorem Dist.near (N : Net s e v n) (I : Dist s v z D) {x d y : Nat} (hx : x < v) (hd : d < 4) (h : s x d = (y : Int)) : (0 ≤ D x ↔ 0 ≤ D y) ∧ D y ≤ D x + 1 ∧ D x ≤ D y + 1 := by
 obtain ⟨d', hd', h'⟩ := N.bwd_of hx hd h
 have a := fun h0 => I.lip x d hd h0 (by omega)
 have b := fun h0 => I.lip y d' hd' h0 (by omega)
 rw [h, Int.toNat_natCast] at a
 rw [h', Int.toNat_natCast] at b
 have := I.neg x
 have := I.neg y
 by_cases h1 : 0 ≤ D x
 ·have := a h1
  have := b this.1
  omega
 ·by_cases h2 : 0 ≤ D y
  ·have := b h2; omega
  ·omega
theorem Dist.around (N : Net s e v n) (I : Dist s v z D) {g c : Nat} (hc : (e g).1 = c ∨ (e g).2 = c) : ∀ (m : Nat) (y : Nat), D y = m → D y < D c → Cn e (setB n g false) y z
 | m, y, hm, hy => by
  rcases Nat.eq_zero_or_pos m with h0 | h0
  ·rw [I.zero y (by omega)]; exact .refl _
  ·obtain ⟨y', d, hd, h1, h2, h3⟩ := I.pred y (by omega)
   obtain ⟨k, hk, hk2⟩ := N.edge_of (I.inr _ h2) hd h1
   have hkg : k ≠ g := by
    rintro rfl
    rcases hk2 with q | q <;> rw [q] at hc <;> simp only at hc <;> rcases hc with rfl | rfl <;> omega
   have hk' : (setB n g false).testBit k = true := by rw [setB_ne _ hkg]; exact hk
   have ih := Dist.around N I hc (m - 1) y' (by omega) (by omega)
   rcases hk2 with q | q
   ·have := Cn.edge' (e := e) hk'
    rw [q] at this
    exact this.trans ih
   ·have := Cn.edge (e := e) hk'
    rw [q] at this
    exact this.trans ih
 termination_by m => m
 decreasing_by omega
end
end Go.Proofs.YtamkcplflbjdkaaDoor.P
namespace Go.Proofs.YtamkcplflbjdkaaDoor.P
open Go.RowKit Go.Proofs.YtamkcplflbjdkaaDoorW.PrintWords
set_option linter.unusedVariables false
set_option linter.unusedSimpArgs false

theorem filter_head {p : Nat → Bool} {m v : Nat} (hm : m < v) (hp : p m = true) (h : ∀ i, i < m → p i = false) : ∃ t, (List.range v).filter p = m :: t := by
 obtain ⟨d, rfl⟩ : ∃ d, v = m + (d + 1) := ⟨v - m - 1, by omega⟩
 rw [List.range_add, List.filter_append]
 have h1 : (List.range m).filter p = [] := by
  rw [List.filter_eq_nil_iff]
  intro a ha
  rw [h a (List.mem_range.1 ha)]
  simp
 rw [h1, List.nil_append, List.range_succ_eq_map, List.map_cons, Nat.add_zero, List.filter_cons, if_pos hp]
 exact ⟨_, rfl⟩
def reachN (w h : Int) (n s : Nat) : List Nat := (List.range (cellsN w h)).filter fun c => decide (0 ≤ distN w h n s c)
def labN (w h : Int) (n c : Nat) : Nat := lab (ends w h) n (gapsN w h) c
theorem reachN_head {w h : Int} {n s : Nat} (hn : n < 2 ^ gapsN w h) (hs : s < cellsN w h) : ∃ t, reachN w h n s = labN w h n s :: t := by
 have hle := lab_le (ends w h) n (gapsN w h) s
 refine filter_head (show labN w h n s < cellsN w h by unfold labN; omega) ?_ ?_
 ·rw [decide_eq_true_eq, distN_cn hn hs]
  exact lab_cn hn s
 ·intro i hi
  rw [decide_eq_false_iff_not, distN_cn hn hs]
  intro hc
  have := lab_least hn hc
  unfold labN at hi
  omega
def partsN (w h : Int) (n : Nat) : Nat := parts (ends w h) (cellsN w h) (gapsN w h) n
def perfN (w h : Int) (n : Nat) : Bool := perf (ends w h) (cellsN w h) (gapsN w h) n
theorem cells_pos {w h : Int} (hg : gridOk w h = true) : 1 ≤ cellsN w h := by
 unfold cellsN cellsOf
 rw [if_pos hg]
 obtain ⟨h1 | h1 | h1 | h1, h2 | h2 | h2 | h2⟩ := grid_cases hg <;> subst h1 <;> subst h2 <;> decide
end Go.Proofs.YtamkcplflbjdkaaDoor.P
namespace Go.Proofs.YtamkcplflbjdkaaDoor.P
open Go.RowKit Go.Proofs.YtamkcplflbjdkaaDoorW.PrintWords
set_option linter.unusedVariables false
set_option linter.unusedSimpArgs false

section
variable {w h : Int} {n z : Nat}
def nearDir (w h : Int) (n z c : Nat) : Nat :=
 if 0 ≤ st w h n c 0 ∧ distN w h n z (st w h n c 0).toNat < distN w h n z c then 0
 else if 0 ≤ st w h n c 1 ∧ distN w h n z (st w h n c 1).toNat < distN w h n z c then 1
 else if 0 ≤ st w h n c 2 ∧ distN w h n z (st w h n c 2).toNat < distN w h n z c then 2 else 3
def nearCell (w h : Int) (n z c : Nat) : Nat := (st w h n c (nearDir w h n z c)).toNat
def nearGap (w h : Int) (n c z : Nat) : Nat := (gapI w h c (nearDir w h n z c)).toNat
def wayD (w h : Int) (n z : Nat) : Nat → Nat → List Nat
 | 0, _ => []
 | m + 1, c => nearDir w h n z c :: wayD w h n z m (nearCell w h n z c)
def wayG (w h : Int) (n z : Nat) : Nat → Nat → List Nat
 | 0, _ => []
 | m + 1, c => nearGap w h n c z :: wayG w h n z m (nearCell w h n z c)
theorem nearDir_lt (w h : Int) (n z c : Nat) : nearDir w h n z c < 4 := by
 unfold nearDir
 split
 ·omega
 ·split
  ·omega
  ·split <;> omega
theorem near_facts (hn : n < 2 ^ gapsN w h) (hz : z < cellsN w h) {c : Nat} (hc : c < cellsN w h) (h0 : 0 < distN w h n z c) :
  st w h n c (nearDir w h n z c) = (nearCell w h n z c : Int) ∧ nearCell w h n z c < cellsN w h ∧ distN w h n z (nearCell w h n z c) + 1 = distN w h n z c ∧
  nearGap w h n c z < gapsN w h ∧ gapI w h c (nearDir w h n z c) = (nearGap w h n c z : Int) ∧ n.testBit (nearGap w h n c z) = true ∧
  (ends w h (nearGap w h n c z) = (c, nearCell w h n z c) ∨ ends w h (nearGap w h n c z) = (nearCell w h n z c, c)) ∧
  (∀ d, d < nearDir w h n z c → ¬ (0 ≤ st w h n c d ∧ distN w h n z (st w h n c d).toNat < distN w h n z c)) := by
 have I := distN_dist hn hz
 have N := net_grid hn
 obtain ⟨c', d', hd', hp1, hp2, hp3⟩ := I.pred c h0
 obtain ⟨dd, hdd, hback⟩ := N.bwd_of (I.inr _ hp2) hd' hp1
 have hlt : distN w h n z c' < distN w h n z c := by omega
 have hex : 0 ≤ st w h n c (nearDir w h n z c) ∧ distN w h n z (st w h n c (nearDir w h n z c)).toNat < distN w h n z c := by
  have hq : 0 ≤ st w h n c dd ∧ distN w h n z (st w h n c dd).toNat < distN w h n z c := by rw [hback]; exact ⟨by omega, by simpa using hlt⟩
  unfold nearDir
  split
  ·assumption
  ·split
   ·assumption
   ·split
    ·assumption
    ·have : dd = 0 ∨ dd = 1 ∨ dd = 2 ∨ dd = 3 := by omega
     rcases this with rfl | rfl | rfl | rfl
     ·contradiction
     ·contradiction
     ·contradiction
     ·exact hq
 have h4 := nearDir_lt w h n z c
 have hcell : st w h n c (nearDir w h n z c) = (nearCell w h n z c : Int) := by unfold nearCell; omega
 have hcl : nearCell w h n z c < cellsN w h := by
  have := N.rng c (nearDir w h n z c) hc h4
  rw [hcell] at this
  omega
 have hnear := I.near N hc h4 hcell
 have hl2 : distN w h n z (nearCell w h n z c) < distN w h n z c := by have := hex.2; unfold nearCell; exact this
 obtain ⟨g, g1, g2, g3, g4, g5⟩ := step_open (w := w) (h := h) (c := c) (d := nearDir w h n z c) hn hex.1
 have hgap : nearGap w h n c z = g := by unfold nearGap; omega
 have hnb : nbI w h c (nearDir w h n z c) = (nearCell w h n z c : Int) := by rw [← hcell, ← g4]; rfl
 refine ⟨hcell, hcl, by omega, by omega, by rw [hgap]; exact g2, by rw [hgap]; exact g3, ?_, ?_⟩
 ·rw [hgap]
  unfold ends
  rw [g5, hnb]
  rcases Int.le_total (c : Int) (nearCell w h n z c : Int) with hl | hl
  ·left; rw [Int.min_eq_left hl, Int.max_eq_right hl]; simp
  ·right; rw [Int.min_eq_right hl, Int.max_eq_left hl]; simp
 ·intro d hd
  unfold nearDir at hd
  split at hd
  ·omega
  ·split at hd
   ·obtain rfl : d = 0 := by omega
    assumption
   ·split at hd
    ·have : d = 0 ∨ d = 1 := by omega
     rcases this with rfl | rfl <;> assumption
    ·have : d = 0 ∨ d = 1 ∨ d = 2 := by omega
     rcases this with rfl | rfl | rfl <;> assumption
theorem wayD_len (m c : Nat) : (wayD w h n z m c).length = m := by
 induction m generalizing c with
 | zero => rfl
 | succ m ih => simp [wayD, ih]
theorem wayG_len (m c : Nat) : (wayG w h n z m c).length = m := by
 induction m generalizing c with
 | zero => rfl
 | succ m ih => simp [wayG, ih]
theorem wayG_lt (hn : n < 2 ^ gapsN w h) (hz : z < cellsN w h) : ∀ (m c : Nat), c < cellsN w h → distN w h n z c = m → ∀ k ∈ wayG w h n z m c, k < gapsN w h ∧ n.testBit k = true
 | 0, c, hc, hm, k, hk => by cases hk
 | m + 1, c, hc, hm, k, hk => by
  obtain ⟨_, f2, f3, f4, _, f6, _⟩ := near_facts hn hz hc (by omega)
  rcases List.mem_cons.1 hk with rfl | hk
  ·exact ⟨f4, f6⟩
  ·exact wayG_lt hn hz m _ f2 (by omega) k hk
theorem wayG_bridge (hn : n < 2 ^ gapsN w h) (hz : z < cellsN w h) (hp : pop (gapsN w h) n + partsN w h n = cellsN w h) : ∀ (m c : Nat), c < cellsN w h → distN w h n z c = m →
  (∀ k, k ∈ wayG w h n z m c ↔ n.testBit k = true ∧ ¬ Cn (ends w h) (setB n k false) c z) ∧ (wayG w h n z m c).Nodup
 | 0, c, hc, hm => by
  have I := distN_dist hn hz
  obtain rfl := I.zero c (by omega)
  exact ⟨fun k => ⟨fun h => (by cases h), fun h => absurd (Cn.refl _) h.2⟩, List.nodup_nil⟩
 | m + 1, c, hc, hm => by
  have I := distN_dist hn hz
  have N := net_grid hn
  obtain ⟨f1, f2, f3, f4, f5, f6, f7, _⟩ := near_facts hn hz hc (by omega)
  obtain ⟨ih, ihn⟩ := wayG_bridge hn hz hp m (nearCell w h n z c) f2 (by omega)
  have hend : (ends w h (nearGap w h n c z)).1 = c ∨ (ends w h (nearGap w h n c z)).2 = c := by rcases f7 with q | q <;> rw [q] <;> simp
  have haround := I.around N hend m (nearCell w h n z c) (by omega) (by omega)
  have hbr := bridge_of_forest (gr_grid w h) hn hp f6
  have hone : ∀ k, k ≠ nearGap w h n c z → Cn (ends w h) (setB n k false) c (nearCell w h n z c) := by
   intro k hk
   have hb : (setB n k false).testBit (nearGap w h n c z) = true := by rw [setB_ne _ (Ne.symm hk)]; exact f6
   rcases f7 with q | q
   ·have := Cn.edge (e := ends w h) hb; rwa [q] at this
   ·have := Cn.edge' (e := ends w h) hb; rwa [q] at this
  have hnot : nearGap w h n c z ∉ wayG w h n z m (nearCell w h n z c) := fun hm => ((ih _).1 hm).2 haround
  refine ⟨fun k => ?_, List.nodup_cons.2 ⟨hnot, ihn⟩⟩
  unfold wayG
  rw [List.mem_cons]
  by_cases e : k = nearGap w h n c z
  ·subst e
   refine ⟨fun _ => ⟨f6, fun hcz => ?_⟩, fun _ => .inl rfl⟩
   have hcc := hcz.trans haround.symm
   rcases f7 with q | q <;> rw [q] at hbr
   ·exact hbr hcc
   ·exact hbr hcc.symm
  ·rw [ih k]
   constructor
   ·rintro (e1 | ⟨h1, h2⟩)
    ·exact absurd e1 e
    ·exact ⟨h1, fun hcz => h2 ((hone k e).symm.trans hcz)⟩
   ·rintro ⟨h1, h2⟩
    exact .inr ⟨h1, fun hcz => h2 ((hone k e).trans hcz)⟩
end
end Go.Proofs.YtamkcplflbjdkaaDoor.P
namespace Go.Proofs.YtamkcplflbjdkaaDoor.P
open Go.RowKit Go.Proofs.YtamkcplflbjdkaaDoorW.PrintWords
set_option linter.unusedVariables false
set_option linter.unusedSimpArgs false

def bd (A : Nat → Nat → Int) (k i j : Nat) : Nat → Nat → Int := fun r c => A (if r < k then r else i) (if c < k then c else j)
def mnB (A : Nat → Nat → Int) (k i j : Nat) : Int := dt (k + 1) (bd A k i j)
theorem mn_zero (A : Nat → Nat → Int) (i j : Nat) : mnB A 0 i j = A i j := by
 simp [mnB, dt, sumTo, bd, sgn]
theorem mn_diag (A : Nat → Nat → Int) (k : Nat) : mnB A k k k = dt (k + 1) A := by
 refine dt_congr fun r c hr hc => ?_
 unfold bd
 rw [show (if r < k then r else k) = r by split <;> omega, show (if c < k then c else k) = c by split <;> omega]
theorem mn_row (A : Nat → Nat → Int) (k i : Nat) : ∃ f : Nat → Int, ∀ j, mnB A k i j = dt k A * A i j + sumTo k (fun l => f l * A l j) := by
 refine ⟨fun l => sgn (k - l) * dt k (er l (bd A k i 0)), fun j => ?_⟩
 unfold mnB
 simp only [dt, sumTo]
 rw [Int.add_comm]
 congr 1
 ·rw [Nat.sub_self, show bd A k i j k k = A i j by simp [bd], show dt k (er k (bd A k i j)) = dt k A from dt_congr fun r c hr hc => by simp [er, bd, hr, hc]]
  simp [sgn, Int.mul_comm]
 ·refine sumTo_congr fun l hl => ?_
  rw [show bd A k i j l k = A l j by simp [bd, hl], show dt k (er l (bd A k i j)) = dt k (er l (bd A k i 0)) from dt_congr fun r c hr hc => by
   by_cases h : r < l <;> simp [er, bd, hc, h]]
  grind
theorem mn_col {A : Nat → Nat → Int} {k i j : Nat} (h : j < k) : mnB A k i j = 0 := by
 unfold mnB
 rw [← dt_tr]
 refine dt_eq _ (i := j) (j := k) (by omega) (by omega) (by omega) fun c => ?_
 simp [tr, bd]
theorem dt_comb {r : Nat} (A : Nat → Nat → Int) {i : Nat} (hi : i < r) (p : Int) (f : Nat → Int) : ∀ m, m ≤ i → dt r (rp A i (fun x => p * A i x + sumTo m (fun l => f l * A l x))) = p * dt r A
 | 0, _ => by
  have h := dt_lin A hi p 0 (A i) (A i)
  rw [rp_self] at h
  rw [show (fun x => p * A i x + sumTo 0 (fun l => f l * A l x)) = fun x => p * A i x + 0 * A i x by funext x; simp [sumTo], h]
  omega
 | m + 1, hm => by
  have h := dt_lin A hi 1 (f m) (fun x => p * A i x + sumTo m (fun l => f l * A l x)) (A m)
  rw [dt_comb A hi p f m (by omega), dt_eq (rp A i (A m)) (i := i) (j := m) (by omega) hi (by omega) (fun c => by rw [rp_same, rp_ne _ (by omega)])] at h
  rw [show (fun x => p * A i x + sumTo (m + 1) (fun l => f l * A l x)) = fun x => 1 * (p * A i x + sumTo m (fun l => f l * A l x)) + f m * A m x by
   funext x; simp only [sumTo]; omega, h]
  omega
theorem syl (A : Nat → Nat → Int) (k i j : Nat) (hp : dt k A ≠ 0) : dt k A * mnB A (k + 1) i j = mnB A k k k * mnB A k i j - mnB A k i k * mnB A k k j := by
 obtain ⟨f, hf⟩ := mn_row A k k
 obtain ⟨g, hg⟩ := mn_row A k i
 have hM : ∀ l, l ≤ k → ∀ x, bd A (k + 1) i j l x = A l (if x < k + 1 then x else j) := fun l hl x => by unfold bd; rw [if_pos (show l < k + 1 by omega)]
 have hL : ∀ x, bd A (k + 1) i j (k + 1) x = A i (if x < k + 1 then x else j) := fun x => by unfold bd; rw [if_neg (show ¬ k + 1 < k + 1 by omega)]
 generalize hMM : bd A (k + 1) i j = M at *
 have e1 := dt_comb (r := k + 2) M (i := k) (by omega) (dt k A) f k (Nat.le_refl k)
 have e1' : (fun x => dt k A * M k x + sumTo k (fun l => f l * M l x)) = fun x => mnB A k k (if x < k + 1 then x else j) := by
  funext x
  rw [hf, hM k (Nat.le_refl k)]
  congr 1
  exact sumTo_congr fun l hl => by rw [hM l (by omega)]
 rw [e1'] at e1
 generalize hN : rp M k (fun x => mnB A k k (if x < k + 1 then x else j)) = N at *
 have e2 := dt_comb (r := k + 2) N (i := k + 1) (by omega) (dt k A) g k (by omega)
 have hNl : ∀ l, l ≠ k → N l = M l := fun l hl => by rw [← hN, rp_ne _ hl]
 have hNk : ∀ x, N k x = mnB A k k (if x < k + 1 then x else j) := fun x => by rw [← hN, rp_same]
 have e2' : (fun x => dt k A * N (k + 1) x + sumTo k (fun l => g l * N l x)) = fun x => mnB A k i (if x < k + 1 then x else j) := by
  funext x
  rw [hg, hNl (k + 1) (by omega), hL]
  congr 1
  exact sumTo_congr fun l hl => by rw [hNl l (by omega), hM l (by omega)]
 rw [e2'] at e2
 generalize hR : rp N (k + 1) (fun x => mnB A k i (if x < k + 1 then x else j)) = R at *
 have hRl : ∀ l, l < k → ∀ x, R l x = A l (if x < k + 1 then x else j) := fun l hl x => by rw [← hR, rp_ne _ (by omega), hNl l (by omega), hM l (by omega)]
 have hRk : ∀ x, R k x = mnB A k k (if x < k + 1 then x else j) := fun x => by rw [← hR, rp_ne _ (by omega), hNk]
 have hRi : ∀ x, R (k + 1) x = mnB A k i (if x < k + 1 then x else j) := fun x => by rw [← hR, rp_same]
 have e3 : dt (k + 2) R = dt k A * (mnB A k k k * mnB A k i j - mnB A k i k * mnB A k k j) := by
  rw [dt_lastvec]
  have z : sumTo (k + 2) (fun c => sgn (k + 1 - c) * R (k + 1) c * dt (k + 1) (ec c R)) = sumTo k (fun c => sgn (k + 1 - c) * R (k + 1) c * dt (k + 1) (ec c R)) + sgn (k + 1 - k) * R (k + 1) k * dt (k + 1) (ec k R) + sgn (k + 1 - (k + 1)) * R (k + 1) (k + 1) * dt (k + 1) (ec (k + 1) R) := rfl
  rw [z, sumTo_zero (fun c hc => by rw [hRi, if_pos (by omega), mn_col hc]; simp)]
  have u1 : dt (k + 1) (ec k R) = mnB A k k j * dt k A := by
   rw [dt_unit (ec k R) (p := k) (q := k) (Nat.le_refl k) (Nat.le_refl k) (fun c hc hne => by
    rw [show ec k R k c = R k c from if_pos (by omega), hRk, if_pos (by omega), mn_col (by omega)])]
   rw [show ec k R k k = R k (k + 1) from if_neg (by omega), hRk, if_neg (by omega), sgn_par (show (k + k) % 2 = 0 % 2 by omega)]
   rw [show dt k (er k (ec k (ec k R))) = dt k A from dt_congr fun r c hr hc => by
    rw [show er k (ec k (ec k R)) r c = R r c by simp [er, ec, hr, hc], hRl r hr, if_pos (by omega)]]
   simp [sgn]
  have u2 : dt (k + 1) (ec (k + 1) R) = mnB A k k k * dt k A := by
   rw [dt_unit (ec (k + 1) R) (p := k) (q := k) (Nat.le_refl k) (Nat.le_refl k) (fun c hc hne => by
    rw [show ec (k + 1) R k c = R k c from if_pos (by omega), hRk, if_pos (by omega), mn_col (by omega)])]
   rw [show ec (k + 1) R k k = R k k from if_pos (by omega), hRk, if_pos (by omega), sgn_par (show (k + k) % 2 = 0 % 2 by omega)]
   rw [show dt k (er k (ec k (ec (k + 1) R))) = dt k A from dt_congr fun r c hr hc => by
    rw [show er k (ec k (ec (k + 1) R)) r c = R r c by simp [er, ec, hr, hc, show c < k + 1 by omega], hRl r hr, if_pos (by omega)]]
   simp [sgn]
  rw [u1, u2, hRi, hRi, if_pos (by omega), if_neg (by omega), show k + 1 - k = 1 by omega, Nat.sub_self, show sgn 1 = -1 from rfl, show sgn 0 = 1 from rfl]
  grind
 rw [e3, e1] at e2
 have e4 : dt k A * (mnB A k k k * mnB A k i j - mnB A k i k * mnB A k k j) = dt k A * (dt k A * mnB A (k + 1) i j) := by
  rw [e2]; unfold mnB; rw [hMM]
 exact (Int.eq_of_mul_eq_mul_left hp e4).symm
def sumFrom (k n : Nat) (f : Nat → Int) : Int := sumTo n fun j => if k ≤ j then f j else 0
structure Heavy (n : Nat) (A : Nat → Nat → Int) : Prop where
 off : ∀ i j, i < n → j < n → i ≠ j → A i j ≤ 0
 row : ∀ i, i < n → 0 ≤ sumTo n (A i)
structure HeavyK (n : Nat) (A : Nat → Nat → Int) (k : Nat) : Prop where
 off : ∀ i j, k ≤ i → k ≤ j → i < n → j < n → i ≠ j → mnB A k i j ≤ 0
 row : ∀ i, k ≤ i → i < n → 0 ≤ sumFrom k n (mnB A k i)
 pos : 0 < dt k A
theorem sumTo_ge {n i : Nat} {f : Nat → Int} (hi : i < n) (h : ∀ j, j < n → j ≠ i → f j ≤ 0) : sumTo n f ≤ f i := by
 induction n with
 | zero => omega
 | succ n ih =>
  simp only [sumTo]
  by_cases e : i = n
  ·subst e
   have : ∀ m, m ≤ i → sumTo m f ≤ 0 := by
    intro m
    induction m with
    | zero => intro _; exact Int.le_refl _
    | succ m ihm => intro hm; simp only [sumTo]; have := ihm (by omega); have := h m (by omega) (by omega); omega
   have := this i (Nat.le_refl i)
   omega
  ·have := ih (by omega) (fun j hj hne => h j (by omega) hne)
   have := h n (by omega) (fun e' => e e'.symm)
   omega
theorem sumTo_ge2 {n i j : Nat} {f : Nat → Int} (hi : i < n) (hj : j < n) (hij : i ≠ j) (h : ∀ j, j < n → j ≠ i → f j ≤ 0) : sumTo n f ≤ f i + f j := by
 have h1 := sumTo_one (f := fun k => if k = j then 0 else f k) (g := f) hj (fun k hk hne => by simp [hne])
 have h2 := sumTo_ge (f := fun k => if k = j then 0 else f k) hi (fun k hk hne => by
  show (if k = j then 0 else f k) ≤ 0
  by_cases e : k = j
  ·rw [if_pos e]; omega
  ·rw [if_neg e]; exact h k hk hne)
 rw [if_pos rfl] at h1
 rw [if_neg hij] at h2
 omega
theorem HeavyK.diag {n k : Nat} {A : Nat → Nat → Int} (H : HeavyK n A k) {i : Nat} (h1 : k ≤ i) (h2 : i < n) : 0 ≤ mnB A k i i := by
 have := H.row i h1 h2
 unfold sumFrom at this
 have h3 := sumTo_ge (f := fun j => if k ≤ j then mnB A k i j else 0) h2 (fun j hj hne => by
  show (if k ≤ j then mnB A k i j else 0) ≤ 0
  split
  ·rename_i hkj; exact H.off i j h1 hkj h2 hj hne.symm
  ·omega)
 simp only [h1, if_true] at h3
 omega
theorem HeavyK.abs {n k : Nat} {A : Nat → Nat → Int} (H : HeavyK n A k) {i j : Nat} (h1 : k ≤ i) (h2 : i < n) (h3 : k ≤ j) (h4 : j < n) (hij : i ≠ j) : -mnB A k i i ≤ mnB A k i j := by
 have := H.row i h1 h2
 unfold sumFrom at this
 have h5 := sumTo_ge2 (f := fun j => if k ≤ j then mnB A k i j else 0) h2 h4 hij (fun j hj hne => by
  show (if k ≤ j then mnB A k i j else 0) ≤ 0
  split
  ·rename_i hkj; exact H.off i j h1 hkj h2 hj hne.symm
  ·omega)
 simp only [h1, h3, if_true] at h5
 omega
theorem HeavyK.start {n : Nat} {A : Nat → Nat → Int} (H : Heavy n A) : HeavyK n A 0 where
 off := fun i j _ _ hi hj hij => by rw [mn_zero]; exact H.off i j hi hj hij
 row := fun i _ hi => by
  unfold sumFrom
  simp only [mn_zero, Nat.zero_le, if_true]
  exact H.row i hi
 pos := by simp [dt]
theorem HeavyK.next {n k : Nat} {A : Nat → Nat → Int} (H : HeavyK n A k) (hk : k < n) (hp : mnB A k k k ≠ 0) : HeavyK n A (k + 1) := by
 have hd := H.diag (Nat.le_refl k) hk
 have hpos := H.pos
 have S := fun i j => syl A k i j (by omega)
 refine { off := fun i j hi hj hin hjn hij => ?_, row := fun i hi hin => ?_, pos := by rw [← mn_diag]; omega }
 ·have h1 := H.off i j (by omega) (by omega) hin hjn hij
  have h2 := H.off i k (by omega) (by omega) hin hk (by omega)
  have h3 := H.off k j (by omega) (by omega) hk hjn (by omega)
  have e := S i j
  have a1 : mnB A k k k * mnB A k i j ≤ 0 := Int.mul_nonpos_of_nonneg_of_nonpos hd h1
  have a2 : 0 ≤ mnB A k i k * mnB A k k j := Int.mul_nonneg_of_nonpos_of_nonpos h2 h3
  rcases Int.lt_or_le 0 (mnB A (k + 1) i j) with hc | hc
  ·have := Int.mul_pos hpos hc
   omega
  ·exact hc
 ·have e : dt k A * sumFrom (k + 1) n (mnB A (k + 1) i) = mnB A k k k * sumFrom k n (mnB A k i) - mnB A k i k * sumFrom k n (mnB A k k) := by
   unfold sumFrom
   rw [← sumTo_mul, ← sumTo_mul, ← sumTo_mul, Int.sub_eq_add_neg, ← sumTo_neg, ← sumTo_add]
   refine sumTo_congr fun j hj => ?_
   by_cases h1 : k + 1 ≤ j
   ·rw [if_pos h1, if_pos (by omega), if_pos (by omega), S i j]; omega
   ·rw [if_neg h1]
    by_cases h2 : k = j
    ·subst h2
     rw [if_pos (Nat.le_refl _), if_pos (Nat.le_refl _), Int.mul_comm (mnB A k i k)]; omega
    ·rw [if_neg (by omega), if_neg (by omega)]; omega
  have h1 := H.row i (by omega) hin
  have h2 := H.row k (Nat.le_refl k) hk
  have h3 := H.off i k (by omega) (by omega) hin hk (by omega)
  have a1 := Int.mul_nonneg hd h1
  have a2 : mnB A k i k * sumFrom k n (mnB A k k) ≤ 0 := Int.mul_nonpos_of_nonpos_of_nonneg h3 h2
  rcases Int.lt_or_le (sumFrom (k + 1) n (mnB A (k + 1) i)) 0 with hc | hc
  ·have := Int.mul_neg_of_pos_of_neg hpos hc
   omega
  ·exact hc
theorem HeavyK.zero {n k : Nat} {A : Nat → Nat → Int} (H : HeavyK n A k) (hk : k < n) (hp : mnB A k k k = 0) : dt n A = 0 := by
 have hpos := H.pos
 have hz : ∀ j, j < n → mnB A k k j = 0 := by
  intro j hj
  by_cases h1 : j < k
  ·exact mn_col h1
  ·by_cases h2 : k = j
   ·rw [← h2]; exact hp
   ·have := H.off k j (Nat.le_refl k) (by omega) hk hj h2
    have := H.abs (Nat.le_refl k) hk (show k ≤ j by omega) hj h2
    omega
 obtain ⟨f, hf⟩ := mn_row A k k
 have h1 := dt_comb A hk (dt k A) f k (Nat.le_refl k)
 rw [dt_zero _ hk (fun c hc => by rw [rp_same, ← hf, hz c hc])] at h1
 rcases Int.mul_eq_zero.1 h1.symm with h | h
 ·omega
 ·exact h
theorem HeavyK.step_le {n k : Nat} {A : Nat → Nat → Int} (H : HeavyK n A k) (hk : k < n) {i : Nat} (hi : k < i) (hin : i < n) : dt k A * mnB A (k + 1) i i ≤ dt (k + 1) A * mnB A k i i := by
 rw [syl A k i i (by have := H.pos; omega), ← mn_diag]
 have := Int.mul_nonneg_of_nonpos_of_nonpos (H.off i k (by omega) (by omega) hin hk (by omega)) (H.off k i (by omega) (by omega) hk hin (by omega))
 omega
/-- The product of the first k numbers of the diagonal. -/
def dprod (A : Nat → Nat → Int) : Nat → Int
  | 0 => 1
  | k + 1 => dprod A k * A k k
theorem Heavy.diag {n : Nat} {A : Nat → Nat → Int} (H : Heavy n A) {i : Nat} (hi : i < n) : 0 ≤ A i i := by
  have := H.row i hi
  have := sumTo_ge (f := A i) hi (fun j hj hne => H.off i j hi hj (Ne.symm hne))
  omega
/-- What is kept from step to step. -/
structure Stage (n : Nat) (A : Nat → Nat → Int) (k : Nat) : Prop extends HeavyK n A k where
  ple : dt k A ≤ dprod A k
  dle : ∀ i, k ≤ i → i < n → mnB A k i i ≤ dt k A * A i i
theorem Stage.start {n : Nat} {A : Nat → Nat → Int} (H : Heavy n A) : Stage n A 0 :=
  { HeavyK.start H with ple := by simp [dt, dprod], dle := fun i _ _ => by rw [mn_zero]; simp [dt] }
theorem Stage.next {n k : Nat} {A : Nat → Nat → Int} (H : Heavy n A) (K : Stage n A k) (hk : k < n) (hp : mnB A k k k ≠ 0) : Stage n A (k + 1) := by
  have N := K.toHeavyK.next hk hp
  have hpos := K.pos
  refine { N with ple := ?_, dle := fun i hi hin => ?_ }
  · have h1 := K.dle k (Nat.le_refl k) hk
    rw [mn_diag] at h1
    have h2 := Int.mul_le_mul_of_nonneg_right K.ple (H.diag hk)
    exact Int.le_trans h1 h2
  · have h1 := K.toHeavyK.step_le hk (show k < i by omega) hin
    have h2 := K.dle i (by omega) hin
    have h3 := Int.mul_le_mul_of_nonneg_left h2 (Int.le_of_lt N.pos)
    have h4 : dt k A * mnB A (k + 1) i i ≤ dt k A * (dt (k + 1) A * A i i) := by
      refine Int.le_trans h1 (Int.le_trans h3 (Int.le_of_eq ?_))
      rw [← Int.mul_assoc, ← Int.mul_assoc, Int.mul_comm (dt (k + 1) A)]
    exact Int.le_of_mul_le_mul_left h4 hpos
end Go.Proofs.YtamkcplflbjdkaaDoor.P
namespace Go.Proofs.YtamkcplflbjdkaaDoor.P
open Go.RowKit Go.Proofs.YtamkcplflbjdkaaDoorW.PrintWords
set_option linter.unusedVariables false
set_option linter.unusedSimpArgs false

section
variable {e : Nat → Nat × Nat} {V E : Nat}
structure Dec (E d c b : Nat) : Prop where
 cl : c < 2 ^ E
 bl : b < 2 ^ E
 dis : ∀ i, c.testBit i = true → b.testBit i = false
 done : ∀ i, i < E - d → c.testBit i = false → b.testBit i = true
 todo : ∀ i, E - d ≤ i → c.testBit i = false ∧ b.testBit i = false
theorem Dec.start : Dec E E 0 0 := ⟨Nat.two_pow_pos E, Nat.two_pow_pos E, fun i h => by simp at h, fun i h => by omega, fun i _ => by simp⟩
theorem Dec.on {d c b : Nat} (h : Dec E (d + 1) c b) (hd : d + 1 ≤ E) : Dec E d (setB c (E - (d + 1)) true) b where
 cl := setB_lt true h.cl (by omega)
 bl := h.bl
 dis := fun i hi => by
  rw [testBit_setB] at hi
  split at hi
  ·rename_i e1; rw [e1]; exact (h.todo _ (Nat.le_refl _)).2
  ·exact h.dis i hi
 done := fun i hi hc => by
  rw [testBit_setB] at hc
  split at hc
  ·cases hc
  ·exact h.done i (by omega) hc
 todo := fun i hi => by
  rw [testBit_setB, if_neg (by omega)]
  exact h.todo i (by omega)
theorem Dec.off {d c b : Nat} (h : Dec E (d + 1) c b) (hd : d + 1 ≤ E) : Dec E d c (setB b (E - (d + 1)) true) where
 cl := h.cl
 bl := setB_lt true h.bl (by omega)
 dis := fun i hi => by
  rw [testBit_setB]
  split
  ·rename_i e1; rw [e1, (h.todo _ (Nat.le_refl _)).1] at hi; cases hi
  ·exact h.dis i hi
 done := fun i hi hc => by
  rw [testBit_setB]
  split
  ·rfl
  ·exact h.done i (by omega) hc
 todo := fun i hi => by
  rw [testBit_setB, if_neg (by omega)]
  exact h.todo i (by omega)
theorem Dec.und {d c b : Nat} (h : Dec E (d + 1) c b) : und c b (E - (d + 1)) = true := by
 unfold P.und
 rw [(h.todo _ (Nat.le_refl _)).1, (h.todo _ (Nat.le_refl _)).2]
 rfl
theorem Dec.split {d c b : Nat} (h : Dec E (d + 1) c b) (hd : d + 1 ≤ E) : trees e V E c b = trees e V E (setB c (E - (d + 1)) true) b + trees e V E c (setB b (E - (d + 1)) true) := trees_split (by omega) h.und
end
end Go.Proofs.YtamkcplflbjdkaaDoor.P
namespace Go.Proofs.YtamkcplflbjdkaaDoor.P
open Go.RowKit Go.Proofs.YtamkcplflbjdkaaDoorW.PrintWords
set_option linter.unusedVariables false
set_option linter.unusedSimpArgs false

section
variable {e : Nat → Nat × Nat} {V E : Nat}
theorem pop_none (m : Nat) : pop m 0 = 0 := by
 induction m with
 | zero => rfl
 | succ m ih => simp only [pop, Nat.zero_testBit, ih]; rfl
end
end Go.Proofs.YtamkcplflbjdkaaDoor.P
namespace Go.Proofs.YtamkcplflbjdkaaDoor.P
open Go.RowKit Go.Proofs.YtamkcplflbjdkaaDoorW.PrintWords
set_option linter.unusedVariables false
set_option linter.unusedSimpArgs false

section
variable {w h : Int}
theorem perfN_iff {n : Nat} : perfN w h n = true ↔ partsN w h n = 1 ∧ pop (gapsN w h) n + 1 = cellsN w h := perf_iff
theorem perf_forest {n : Nat} (hp : perfN w h n = true) : pop (gapsN w h) n + partsN w h n = cellsN w h := by rw [perfN_iff] at hp; omega
theorem perf_conn {n : Nat} (hg : gridOk w h = true) (hn : n < 2 ^ gapsN w h) (hp : perfN w h n = true) {x y : Nat} (hx : x < cellsN w h) (hy : y < cellsN w h) : Cn (ends w h) n x y := by
 have := cells_pos hg
 have hc := (parts_one hn (by omega)).1 (perfN_iff.1 hp).1
 exact (hc x hx).symm.trans (hc y hy)
theorem swap_perf (hg : gridOk w h = true) {n g k : Nat} (hn : n < 2 ^ gapsN w h) (hp : perfN w h n = true) (hgl : g < gapsN w h) (hgc : n.testBit g = false) (hk : n.testBit k = true) (hc : ¬ Cn (ends w h) (setB n k false) (ends w h g).1 (ends w h g).2) :
  perfN w h (setB (setB n g true) k false) = true ∧ setB (setB n g true) k false < 2 ^ gapsN w h := by
 have hkl := lt_of_testBit hn hk
 have hne : k ≠ g := by rintro rfl; rw [hk] at hgc; cases hgc
 have e : setB (setB n g true) k false = setB (setB n k false) g true := by
  apply Nat.eq_of_testBit_eq
  intro i
  simp only [testBit_setB]
  by_cases h1 : i = k
  ·rw [if_pos h1, if_neg (by omega), if_pos h1]
  ·rw [if_neg h1, if_neg h1]
 have hl : setB n k false < 2 ^ gapsN w h := setB_lt _ hn hkl
 refine ⟨?_, by rw [e]; exact setB_lt _ hl hgl⟩
 rw [e, perfN_iff]
 rw [perfN_iff] at hp
 obtain ⟨d1, d2, d3⟩ := parts_del (v := cellsN w h) (gr_grid w h) hn hk
 have hf := bridge_of_forest (gr_grid w h) hn (show pop (gapsN w h) n + parts (ends w h) (cellsN w h) (gapsN w h) n = cellsN w h by unfold partsN at hp; omega) hk
 have h1 := d3 hf
 have hgg := gr_grid w h g hgl
 have h2 := (parts_add (v := cellsN w h) hl hgl hgg.1 hgg.2).2 hc
 have h3 := pop_setB (m := gapsN w h) (n := setB n k false) hgl (by rw [setB_ne _ (Ne.symm hne)]; exact hgc)
 unfold partsN at hp ⊢
 omega
theorem wayG_cn {n z s : Nat} (hn : n < 2 ^ gapsN w h) (hz : z < cellsN w h) : ∀ (m c : Nat), c < cellsN w h → distN w h n z c = m → (∀ k ∈ wayG w h n z m c, s.testBit k = true) → Cn (ends w h) s c z
 | 0, c, hc, hm, _ => by
  obtain rfl := (distN_dist hn hz).zero c (by omega)
  exact .refl _
 | m + 1, c, hc, hm, hs => by
  obtain ⟨_, f2, f3, f4, _, f6, f7, _⟩ := near_facts hn hz hc (by omega)
  have h1 := hs _ (List.mem_cons_self)
  have ih := wayG_cn hn hz m _ f2 (by omega) fun k hk => hs k (List.mem_cons_of_mem _ hk)
  rcases f7 with q | q
  ·have := Cn.edge (e := ends w h) h1; rw [q] at this; exact this.trans ih
  ·have := Cn.edge' (e := ends w h) h1; rw [q] at this; exact this.trans ih
def apart (w h : Int) (a b : Nat) : Nat := pop (gapsN w h) (andNot a b)
theorem pop_split (m a b : Nat) : pop m a = pop m (andNot a b) + pop m (a &&& b) := by
 induction m with
 | zero => rfl
 | succ m ih =>
  simp only [pop]
  rw [ih, testBit_andNot, Nat.testBit_and]
  cases a.testBit m <;> cases b.testBit m <;> simp <;> omega
theorem apart_symm {a b : Nat} (ha : perfN w h a = true) (hb : perfN w h b = true) : apart w h a b = apart w h b a := by
 rw [perfN_iff] at ha hb
 have h1 := pop_split (gapsN w h) a b
 have h2 := pop_split (gapsN w h) b a
 rw [Nat.and_comm] at h2
 unfold apart
 omega
theorem apart_zero {a b : Nat} (ha : a < 2 ^ gapsN w h) (hb : b < 2 ^ gapsN w h) (pa : perfN w h a = true) (pb : perfN w h b = true) : apart w h a b = 0 ↔ a = b := by
 constructor
 ·intro h0
  have h1 := apart_symm pa pb
  have key : ∀ x y : Nat, apart w h x y = 0 → ∀ i, i < gapsN w h → x.testBit i = true → y.testBit i = true := by
   intro x y hxy i hi hx
   unfold apart at hxy
   cases hy : y.testBit i
   ·have := pop_del hi (s := andNot x y) (by rw [testBit_andNot, hx, hy]; rfl)
    omega
   ·rfl
  apply Nat.eq_of_testBit_eq
  intro i
  rw [Bool.eq_iff_iff]
  exact ⟨fun hi => key a b h0 i (lt_of_testBit ha hi) hi, fun hi => key b a (by omega) i (lt_of_testBit hb hi) hi⟩
 ·rintro rfl
  unfold apart
  rw [show andNot a a = 0 by apply Nat.eq_of_testBit_eq; intro i; rw [testBit_andNot]; simp]
  exact pop_none _
theorem apart_swap {a b g k : Nat} (hgl : g < gapsN w h) (hkl : k < gapsN w h) (ga : a.testBit g = false) (gb : b.testBit g = true) (ka : a.testBit k = true) (kb : b.testBit k = false) :
  apart w h (setB (setB a g true) k false) b + 1 = apart w h a b := by
 unfold apart
 have h1 := pop_del hkl (s := andNot a b) (by rw [testBit_andNot, ka, kb]; rfl)
 rw [h1]
 congr 1
 refine pop_congr fun i hi => ?_
 rw [testBit_del, testBit_andNot, testBit_andNot, testBit_setB, testBit_setB]
 by_cases e1 : i = k
 ·subst e1; simp
 ·by_cases e2 : i = g
  ·subst e2; simp [e1, ga, gb]
  ·simp [e1, e2]
theorem loop_out (hg : gridOk w h = true) {a b g : Nat} (ha : a < 2 ^ gapsN w h) (pa : perfN w h a = true) (hb : b < 2 ^ gapsN w h) (pb : perfN w h b = true) (hgl : g < gapsN w h) (ga : a.testBit g = false) (gb : b.testBit g = true) {m : Nat} (hm : distN w h a (ends w h g).2 (ends w h g).1 = m) :
  ∃ k ∈ wayG w h a (ends w h g).2 m (ends w h g).1, b.testBit k = false := by
 apply Classical.byContradiction
 intro hno
 have hgg := gr_grid w h g hgl
 have hc := wayG_cn (s := setB b g false) ha hgg.2 m _ hgg.1 hm fun k hk => by
  have hkb := (wayG_lt ha hgg.2 m _ hgg.1 hm k hk).2
  have hne : k ≠ g := by rintro rfl; rw [hkb] at ga; cases ga
  rw [setB_ne _ hne]
  cases h1 : b.testBit k
  ·exact absurd ⟨k, hk, h1⟩ hno
  ·rfl
 exact bridge_of_forest (gr_grid w h) hb (perf_forest pb) gb hc
end
end Go.Proofs.YtamkcplflbjdkaaDoor.P
namespace Go.Proofs.YtamkcplflbjdkaaDoor.P
open Go.RowKit Go.Proofs.YtamkcplflbjdkaaDoorW.PrintWords
set_option linter.unusedVariables false
set_option linter.unusedSimpArgs false

section
variable {α : Type}
def it (p : α → α) : Nat → α → α
 | 0, u => u
 | k + 1, u => it p k (p u)
theorem it_add (p : α → α) (a b : Nat) (u : α) : it p (a + b) u = it p b (it p a u) := by
 induction a generalizing u with
 | zero => simp [it]
 | succ a ih => rw [show a + 1 + b = (a + b) + 1 by omega]; exact ih (p u)
def Orb (p : α → α) (u v : α) : Prop := ∃ k, it p k u = v
theorem Orb.refl (p : α → α) (u : α) : Orb p u u := ⟨0, rfl⟩
theorem Orb.one (p : α → α) (u : α) : Orb p u (p u) := ⟨1, rfl⟩
theorem Orb.trans {p : α → α} {u v w : α} (h : Orb p u v) (g : Orb p v w) : Orb p u w := by
 obtain ⟨a, rfl⟩ := h
 obtain ⟨b, rfl⟩ := g
 exact ⟨a + b, it_add ..⟩
theorem Orb.symm {p : α → α} (S : ∀ u, Orb p (p u) u) {u v : α} (h : Orb p u v) : Orb p v u := by
 obtain ⟨k, rfl⟩ := h
 induction k generalizing u with
 | zero => exact .refl _ _
 | succ k ih => exact (ih (u := p u)).trans (S u)
end
end Go.Proofs.YtamkcplflbjdkaaDoor.P
namespace Go.Proofs.YtamkcplflbjdkaaDoor.P
open Go.RowKit Go.Proofs.YtamkcplflbjdkaaDoorW.PrintWords
set_option linter.unusedVariables false
set_option linter.unusedSimpArgs false

theorem insU_len_new {x : Int} : ∀ {l : List Int}, x ∉ l → (insU x l).length = l.length + 1
 | [], _ => rfl
 | y :: t, h => by
  rw [List.mem_cons, not_or] at h
  unfold insU
  split
  ·rfl
  ·rw [if_neg h.1, List.length_cons, insU_len_new h.2, List.length_cons]
theorem insU_len_old {x : Int} : ∀ {l : List Int}, l.Pairwise (· < ·) → x ∈ l → (insU x l).length = l.length
 | y :: t, hs, h => by
  have h1 := List.pairwise_cons.1 hs
  unfold insU
  rcases List.mem_cons.1 h with e | e
  ·rw [if_neg (by omega), if_pos e]
  ·have := h1.1 x e
   rw [if_neg (by omega), if_neg (by omega), List.length_cons, insU_len_old h1.2 e, List.length_cons]
theorem ordF_nodup : ∀ l : List Int, (ordF l).length = l.length ↔ l.Nodup
 | [] => by simp [ordF]
 | x :: t => by
  have h0 := ordF_len_le t
  have ih := ordF_nodup t
  rw [List.nodup_cons, ← ih]
  have e0 : ordF (x :: t) = insU x (ordF t) := rfl
  rw [e0]
  by_cases h : x ∈ t
  ·rw [insU_len_old (ordF_sorted t) (ordF_mem.2 h), List.length_cons]
   constructor
   ·intro e; omega
   ·intro e; exact absurd h e.1
  ·rw [insU_len_new (fun hc => h (ordF_mem.1 hc)), List.length_cons]
   constructor
   ·intro e; exact ⟨h, by omega⟩
   ·intro e; omega
end Go.Proofs.YtamkcplflbjdkaaDoor.P
namespace Go.Proofs.YtamkcplflbjdkaaDoorW.PrintWords
open Go.ChangeShapes Go.WideShapes
/-- A row's slice of whole numbers is no longer than its weight allows. -/
theorem sized_ints {H : Type} {enc : TypeId × Value → H} {P : Program} {W : World} {base : Nat} {spare : Nat → Bool} {held : Bool} {t e : TypeId} {k : IntKind} {a : Option Addr} {len cap : Nat} {d : DataW H} {ps : List MemPlace} {ts : List TypeId} {ds : List (DataW H)} {j : Nat}
    (hsz : (DataW.weightsEach P ts ds).all (· ≤ reachBytes) = true) (ht : ts[j]? = some t) (hd : ds[j]? = some d) (hu : P.underlying t = some (.slice e)) (he : P.underlying e = some (.int k)) (hc : P.cellsOf e = 1) {B : Nat} (hB : P.bytesOf e = B)
    (h : DataW.Trod enc P W base spare held t (.slice a len cap) d ps) : len * B ≤ 140737488351232 := by
  obtain ⟨fuel, hf⟩ := h
  rcases open_ints hu he hc hf with ⟨hcs, _⟩ | ⟨x, l, c, zs, hcs, _, hl, _, hz, hx, _, _⟩
  · simp [Value.cells] at hcs
    obtain ⟨rfl, rfl, rfl⟩ := hcs
    simp
  · simp [Value.cells] at hcs
    obtain ⟨rfl, rfl, rfl⟩ := hcs
    obtain ⟨hx, _⟩ := Prod.mk.inj hx
    subst hx
    have z := sized_slice hsz ht hd hu
    rw [hB] at z
    have hl2 : len ≤ zs.length := by
      rw [hz]
      split
      · exact hl
      · exact Nat.le_refl _
    have h1 : (lits (H := H) k (zs.take len)).length + (lits (H := H) k (zs.drop len)).length = zs.length := by
      simp [lits]
      omega
    rw [h1] at z
    exact Nat.le_trans (Nat.mul_le_mul_right _ hl2) z
end Go.Proofs.YtamkcplflbjdkaaDoorW.PrintWords
