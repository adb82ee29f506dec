/- The statement FnExactDivideMaze of the seat, out of its plain form (FnExactDivideMaze_pure) and the walk of its Go function. Part 3 of 4: each Go function's walk, then the plain lemmas, then the row. No condition: it holds for every input. -/
import Derived.Test.YtbeajmcjfhbcjaaBFnExactDivideMaze2
import Derived.ChangeSlices
import Derived.SizedLaws
namespace Go.Proofs.Ytbeajmcjfhbcjaa.P
open Go.RowKit Go.Proofs.YtbeajmcjfhbcjaaW.PrintWords Go.Proofs.YtbeajmcjfhbcjaaW.PrintLast Go.Proofs.YtbeajmcjfhbcjaaW.PrintMore
attribute [local go_sem] max2_int min2_int max_two min_two max_three min_three max_four min_four   -- for this text's walks alone
set_option linter.unusedVariables false
set_option linter.unusedSimpArgs false

def impl_FullMaze.f (a0_0 : Int) (a0_1 : Int) : Option (Int × Int × Int) := (impl_GridOk.f a0_0 a0_1).bind fun t103 => (if t103 = true then ((impl_CountGaps.f a0_0 a0_1).bind fun t104 => (if 0 ≤ t104 then (some (a0_0, a0_1, wrap64 ((shl .i64 1 t104) - 1))) else (none))) else (some (0, 0, 0)))
set_option maxHeartbeats 8000000 in
set_option maxRecDepth 100000 in
theorem impl_FullMaze.calls (a0_0 : Int) (a0_1 : Int) (r1 : Int) (r2 : Int) (r3 : Int) (w : World) (h : impl_FullMaze.f a0_0 a0_1 = some (r1, r2, r3)) :
  Calls Try.prog 47 #[.agg #[.int .i64 a0_0, .int .i64 a0_1]] w fun e w' => e = .returned (.agg #[.int .i64 r1, .int .i64 r2, .int .i64 r3]) ∧ Below w.heap.size w w' := by
 have hu25 := Try.underlying25
 have hu27 := Try.underlying27
 have HB := A_ (Below.refl w.heap.size w)
 have H : ((impl_GridOk.f a0_0 a0_1).bind fun t103 => (if t103 = true then ((impl_CountGaps.f a0_0 a0_1).bind fun t104 => (if 0 ≤ t104 then (some (a0_0, a0_1, wrap64 ((shl .i64 1 t104) - 1))) else (none))) else (some (0, 0, 0)))) = some (r1, r2, r3) := h
 clear h
 obtain ⟨t103, A20, H⟩ := oB_ H
 (try dsimp only at H); have A2 := A_ A20; clear A20
 by_cases c3 : t103 = true
 ·subst c3
  rw [if_pos rfl] at H
  obtain ⟨t104, A40, H⟩ := oB_ H
  (try dsimp only at H); have A4 := A_ A40; clear A40
  replace H := iN_ H; obtain ⟨c5, H⟩ := H
  have c5b0 := eq_true c5
  have c5b1 : decide (0 ≤ t104) = true := decide_eq_true c5
  clear c5
  obtain ⟨ji6, hji6⟩ : ∃ j_ : Int, (shl .i64 1 t104) = j_ := ⟨_, rfl⟩
  replace H : (some (a0_0, a0_1, wrap64 ((ji6) - 1))) = some (r1, r2, r3) := by first | (rw [hji6] at H; exact H) | (simp only [hji6] at H ⊢; exact H)
  (try rw [hji6] at A2)
  (try rw [hji6] at A4)
  have hji6_ : (IntKind.i64.wrap (1 * 2 ^ min t104.toNat 64)) = ji6 := hji6
  have hji6z : t104 ≤ 64 → (IntKind.i64.wrap (1 * 2 ^ t104.toNat)) = ji6 := shl_small hji6
  have hji6u : (IntKind.i64.wrap (2 ^ min t104.toNat 64)) = ji6 := by have h_ := hji6_; rw [Int.one_mul] at h_; exact h_
  have hji6v : t104 ≤ 64 → (IntKind.i64.wrap (2 ^ t104.toNat)) = ji6 := fun hle_ => by have h_ := hji6z hle_; rw [Int.one_mul] at h_; exact h_
  have hji6y : (wrap64 (1 * 2 ^ min t104.toNat 64)) = ji6 := (i64_w _).symm.trans hji6_
  have hji6x : t104 ≤ 64 → (wrap64 (1 * 2 ^ t104.toNat)) = ji6 := fun h_ => (i64_w _).symm.trans (hji6z h_)
  simp only [Option.some.injEq, Prod.mk.injEq] at H
  obtain ⟨rfl, rfl, rfl⟩ := H
  go_enter Try.func47, Try.ntmps47
  try go_wp2_with (first | ((with_reducible refine gate_dst (N := 1) rfl ?_); refine box_event ?hg (N := 1) ?hd (cs := #[.int .i64 a0_0, .int .i64 a0_1]) (t := 25) ?hr ?_; (case hd => rfl); (case hg => rfl); (case hr => first | (go_simp; done) | (go_simp; rfl)); intro gb101 hg w7 hbox hb; have n0_ := A_ (below_step (by repeat first | exact HB.1 | apply bA_ | apply bB_ | apply bC_) hb); have n1_ := A_ (hbox); have n2_ := A_ ((by rw [hg]; exact (below_size (by repeat first | exact HB.1 | apply bA_ | apply bB_ | apply bC_)) : w.heap.size ≤ gb101)); have n3_ := n2_; clear HB; have HB := n0_; have BK101 := n1_; have GW101 := n2_; have GE101 := n3_; clear n0_ n1_ n2_ n3_ hb hbox hg) | ((with_reducible refine gate_dst (N := 2) rfl ?_); refine box_event ?hg (N := 2) ?hd (cs := #[.int .i64 0, .int .i64 0, .int .i64 0]) (t := 27) ?hr ?_; (case hd => rfl); (case hg => rfl); (case hr => first | (go_simp; done) | (go_simp; rfl)); intro gb102 hg w8 hbox hb; have n0_ := A_ (blk_below (g := gb101) (o := .cells #[.int .i64 a0_0, .int .i64 a0_1] 25 (0, 0)) (by (with_reducible repeat first | refine cA_ ?_ _ | refine cB_ ?_ | refine cC_ ?_ _); exact BK101.1) hb); have n1_ := A_ (below_step (by repeat first | exact HB.1 | apply bA_ | apply bB_ | apply bC_ | refine below_set ?_ GE101.out) hb); have n2_ := A_ (hbox); have n3_ := A_ ((by rw [hg]; exact (below_size (by repeat first | exact HB.1 | apply bA_ | apply bB_ | apply bC_ | refine below_set ?_ GE101.out)) : w.heap.size ≤ gb102)); have n4_ := n3_; have n5_ := A_ ((by rw [hg]; exact Nat.ne_of_lt (blk_lt (g := gb101) (o := .cells #[.int .i64 a0_0, .int .i64 a0_1] 25 (0, 0)) (by (with_reducible repeat first | refine cA_ ?_ _ | refine cB_ ?_ | refine cC_ ?_ _); exact BK101.1)) : gb101 ≠ gb102)); have n6_ := A_ ((by rw [hg]; exact Nat.ne_of_gt (blk_lt (g := gb101) (o := .cells #[.int .i64 a0_0, .int .i64 a0_1] 25 (0, 0)) (by (with_reducible repeat first | refine cA_ ?_ _ | refine cB_ ?_ | refine cC_ ?_ _); exact BK101.1)) : gb102 ≠ gb101)); clear BK101 HB; have BK101 := n0_; have HB := n1_; have BK102 := n2_; have GW102 := n3_; have GE102 := n4_; have NB101_102 := n5_; have NB102_101 := n6_; clear n0_ n1_ n2_ n3_ n4_ n5_ n6_ hb hbox hg; have hnb9 := NB101_102.out; have hnc9 := NB102_101.out; obtain ⟨hcz10_0, hcz10_1⟩ := kk2_ BK101.1; have hfz10_0 := bf_ BK101.out 0; have hfz10_1 := bf_ BK101.out 1) | ((with_reducible refine gate_callee (f := 82) rfl ?_); refine gl_ 4 Try.func82 #[.agg #[.int .i64 a0_0, .int .i64 a0_1]] ?_; (with_reducible refine (impl_GridOk.calls a0_0 a0_1 true _ A2.out).mono ?_); rintro e w11 ⟨rfl, hb⟩; refine ⟨_, rfl, ?_⟩; have n0_ := A_ (blk_below (g := gb101) (o := .cells #[.int .i64 a0_0, .int .i64 a0_1] 25 (0, 0)) (by (with_reducible repeat first | refine cA_ ?_ _ | refine cB_ ?_ | refine cC_ ?_ _); exact BK101.1) hb); have n1_ := A_ (blk_below (g := gb102) (o := .cells #[.int .i64 0, .int .i64 0, .int .i64 0] 27 (0, 0)) (by (with_reducible repeat first | refine cA_ ?_ _ | refine cB_ ?_ | refine cC_ ?_ _); exact BK102.1) hb); have n2_ := A_ (below_step (by repeat first | exact HB.1 | apply bA_ | apply bB_ | apply bC_ | refine below_set ?_ GE101.out | refine below_set ?_ GE102.out) hb); clear BK101 BK102 HB; have BK101 := n0_; have BK102 := n1_; have HB := n2_; clear n0_ n1_ n2_; (try clear hb); (try clear hk)))
  have n0_ := A_ (blk_drew BK101.out); have n1_ := A_ (blk_drew BK102.out); have n2_ := A_ (below_drew1 HB.out); clear BK101 BK102 HB; have BK101 := n0_; have BK102 := n1_; have HB := n2_; clear n0_ n1_ n2_
  refine start_ (n := 7) (S := fun w' => w'.cell? ⟨gb101, 0, none⟩ = some (.int .i64 a0_0) ∧ w'.cell? ⟨gb101, 1, none⟩ = some (.int .i64 a0_1)) (ds := []) #[false, false, false, false, false, false, false] (by kernel_rfl) rfl rfl ⟨(blk_cell BK101.out 0).trans rfl, (blk_cell BK101.out 1).trans rfl⟩ (fun hHeld => ?_)
  generalize w11.drew = w12 at BK101 BK102 HB hHeld ⊢
  refine take_ (i := 0) (N := some 7) (v := ?_) (a' := ?_) #[true, false, false, false, false, false, false] rfl rfl (by kernel_rfl) (fun _ _ _ h => h) (Or.inl ⟨by rfl, ?_⟩) hHeld ?_ ?_; rotate_left; (rintro w' ⟨s0, s1⟩; go_simp; with_reducible rfl); rotate_left; (simp only [P6_]; rfl)
  refine take_ (i := 1) (N := some 8) (v := ?_) (a' := ?_) #[true, true, false, false, false, false, false] rfl rfl (by kernel_rfl) (fun _ _ _ h => h) (Or.inl ⟨by rfl, ?_⟩) hHeld ?_ ?_; rotate_left; (rintro w' ⟨s0, s1⟩; go_simp; with_reducible rfl); rotate_left; (simp only [P6_]; rfl)
  refine one_ (i := 2) (N := some 9) #[true, true, true, false, false, false, false] rfl rfl (by kernel_rfl) (by decide) (fun K hK => ?_)
  refine gs_ Try.func74 #[.agg #[.int .i64 a0_0, .int .i64 a0_1]] ?_
  with_reducible refine (impl_CountGaps.calls a0_0 a0_1 t104 _ A4.out).mono ?_
  rintro e w13 ⟨rfl, hb⟩
  refine ⟨_, rfl, ?_⟩
  have n0_ := A_ (blk_below (g := gb101) (o := .cells #[.int .i64 a0_0, .int .i64 a0_1] 25 (0, 0)) (by (with_reducible repeat first | refine cA_ ?_ _ | refine cB_ ?_ | refine cC_ ?_ _); exact BK101.1) hb)
  have n1_ := A_ (blk_below (g := gb102) (o := .cells #[.int .i64 0, .int .i64 0, .int .i64 0] 27 (0, 0)) (by (with_reducible repeat first | refine cA_ ?_ _ | refine cB_ ?_ | refine cC_ ?_ _); exact BK102.1) hb)
  have n2_ := A_ (below_step (by repeat first | exact HB.1 | apply bA_ | apply bB_ | apply bC_ | refine below_set ?_ GE101.out | refine below_set ?_ GE102.out) hb)
  clear BK101 BK102 HB; have BK101 := n0_; have BK102 := n1_; have HB := n2_; clear n0_ n1_ n2_; (try clear hb); (try clear hk)
  refine hK.out _ _ ⟨(blk_cell BK101.out 0).trans rfl, (blk_cell BK101.out 1).trans rfl⟩ (fun hHeld => ?_)
  clear hK K
  refine norm_ (a' := ?_) ?_ ?_; rotate_left; (show Act.put _ (some 9) _ = _; simp only [P6_]; rfl)
  refine pure_ (i := 3) (N := some 10) (v := ?_) (a' := ?_) #[true, true, true, true, false, false, false] rfl rfl (by kernel_rfl) (fun _ _ _ h => h) (Or.inl ⟨by rfl, ?_⟩) ?_ ?_; rotate_left; (intro w'; go_simp; with_reducible rfl); rotate_left; (simp only [P6_]; rfl)
  refine pure_ (i := 4) (N := some 11) (v := ?_) (a' := ?_) #[true, true, true, true, true, false, false] rfl rfl (by kernel_rfl) (fun _ _ _ h => h) (Or.inl ⟨by rfl, ?_⟩) ?_ ?_; rotate_left; (intro w'; go_simp; with_reducible rfl); rotate_left; (simp only [P6_]; rfl)
  refine pure_ (i := 5) (N := some 12) (v := ?_) (a' := ?_) #[true, true, true, true, true, true, false] rfl rfl (by kernel_rfl) (fun _ _ _ h => h) (Or.inl ⟨by rfl, ?_⟩) ?_ ?_; rotate_left; (intro w'; go_simp; with_reducible rfl); rotate_left; (simp only [P6_]; rfl)
  refine one_ (i := 6) (N := none) #[true, true, true, true, true, true, true] rfl rfl (by kernel_rfl) (by decide) (fun K hK => ?_)
  have hs14 : w13.cell? ⟨gb102, 0, none⟩ = some (.int .i64 0) := (blk_cell BK102.out 0).trans rfl
  have hfs14 := bf_ BK102.out 0
  have hns14_0 := NB101_102.out
  have hms14_0 := NB102_101.out
  have hs15 : w13.cell? ⟨gb102, 1, none⟩ = some (.int .i64 0) := (blk_cell BK102.out 1).trans rfl
  have hfs15 := bf_ BK102.out 1
  have hns15_0 := NB101_102.out
  have hms15_0 := NB102_101.out
  have hs16 : w13.cell? ⟨gb102, 2, none⟩ = some (.int .i64 0) := (blk_cell BK102.out 2).trans rfl
  have hfs16 := bf_ BK102.out 2
  have hns16_0 := NB101_102.out
  have hms16_0 := NB102_101.out
  refine skip_ (w1 := ?_) (by rfl) rfl ?_ ?_
  rotate_left
  ·go_simp
   rfl
  refine hK.out _ _ ⟨((cell_far (p := ⟨gb102, _, none⟩) NB101_102.out _).trans (((cell_far (p := ⟨gb102, _, none⟩) NB101_102.out _).trans (((cell_far (p := ⟨gb102, _, none⟩) NB101_102.out _).trans (hHeld.1)))))), ((cell_far (p := ⟨gb102, _, none⟩) NB101_102.out _).trans (((cell_far (p := ⟨gb102, _, none⟩) NB101_102.out _).trans (((cell_far (p := ⟨gb102, _, none⟩) NB101_102.out _).trans (hHeld.2))))))⟩ (fun hHeld => ?_)
  clear hK K
  refine done_ (by kernel_rfl) ?_
  try go_wp2
  refine bodyPost_ret (results_cell_row rfl _ _ gb102 27 #[.int .i64 a0_0, .int .i64 a0_1, .int .i64 (wrap64 ((ji6) - 1))] (0, 0) _ rfl (by (with_reducible repeat (first | refine blk_drewN ?_ _ | refine blk_drew ?_ | refine blk_alloc ?_ _)); refine blk_put (cs := #[.int .i64 a0_0, .int .i64 a0_1, .int .i64 0]) ?_ 2 _ rfl; (with_reducible repeat (first | refine blk_drewN ?_ _ | refine blk_drew ?_ | refine blk_alloc ?_ _)); refine blk_put (cs := #[.int .i64 a0_0, .int .i64 0, .int .i64 0]) ?_ 1 _ rfl; (with_reducible repeat (first | refine blk_drewN ?_ _ | refine blk_drew ?_ | refine blk_alloc ?_ _)); refine blk_put (cs := #[.int .i64 0, .int .i64 0, .int .i64 0]) ?_ 0 _ rfl; (with_reducible repeat (first | refine blk_drewN ?_ _ | refine blk_drew ?_ | refine blk_alloc ?_ _)); exact BK102.out) Try.underlying27 rfl (by kernel_rfl)) rfl ?_
  exact ⟨by first | rfl | (simp [errW_none, errW_some] <;> rfl) | (simp only [← hji6]; first | rfl | (simp [errW_none, errW_some] <;> rfl)) | (simp [*, errW_none, errW_some] <;> rfl), by repeat (first | (with_reducible first | exact HB.out | apply below_alloc | apply pw_below_drewN | apply below_drew1 | refine below_set ?_ GE101.out | refine below_set ?_ GE102.out) | exact HB.out)⟩
 ·replace c3 := Bool.eq_false_iff.mpr c3
  subst c3
  have H1 : (some (0, 0, 0)) = some (r1, r2, r3) := by rw [if_neg (show ¬ (false = true) by decide)] at H; exact H
  clear H
  have H := H1
  clear H1
  simp only [Option.some.injEq, Prod.mk.injEq] at H
  obtain ⟨rfl, rfl, rfl⟩ := H
  go_enter Try.func47, Try.ntmps47
  go_wp2_with (first | ((with_reducible refine gate_dst (N := 1) rfl ?_); refine box_event ?hg (N := 1) ?hd (cs := #[.int .i64 a0_0, .int .i64 a0_1]) (t := 25) ?hr ?_; (case hd => rfl); (case hg => rfl); (case hr => first | (go_simp; done) | (go_simp; rfl)); intro gb101 hg w17 hbox hb; have n0_ := A_ (below_step (by repeat first | exact HB.1 | apply bA_ | apply bB_ | apply bC_) hb); have n1_ := A_ (hbox); have n2_ := A_ ((by rw [hg]; exact (below_size (by repeat first | exact HB.1 | apply bA_ | apply bB_ | apply bC_)) : w.heap.size ≤ gb101)); have n3_ := n2_; clear HB; have HB := n0_; have BK101 := n1_; have GW101 := n2_; have GE101 := n3_; clear n0_ n1_ n2_ n3_ hb hbox hg) | ((with_reducible refine gate_dst (N := 2) rfl ?_); refine box_event ?hg (N := 2) ?hd (cs := #[.int .i64 0, .int .i64 0, .int .i64 0]) (t := 27) ?hr ?_; (case hd => rfl); (case hg => rfl); (case hr => first | (go_simp; done) | (go_simp; rfl)); intro gb102 hg w18 hbox hb; have n0_ := A_ (blk_below (g := gb101) (o := .cells #[.int .i64 a0_0, .int .i64 a0_1] 25 (0, 0)) (by (with_reducible repeat first | refine cA_ ?_ _ | refine cB_ ?_ | refine cC_ ?_ _); exact BK101.1) hb); have n1_ := A_ (below_step (by repeat first | exact HB.1 | apply bA_ | apply bB_ | apply bC_ | refine below_set ?_ GE101.out) hb); have n2_ := A_ (hbox); have n3_ := A_ ((by rw [hg]; exact (below_size (by repeat first | exact HB.1 | apply bA_ | apply bB_ | apply bC_ | refine below_set ?_ GE101.out)) : w.heap.size ≤ gb102)); have n4_ := n3_; have n5_ := A_ ((by rw [hg]; exact Nat.ne_of_lt (blk_lt (g := gb101) (o := .cells #[.int .i64 a0_0, .int .i64 a0_1] 25 (0, 0)) (by (with_reducible repeat first | refine cA_ ?_ _ | refine cB_ ?_ | refine cC_ ?_ _); exact BK101.1)) : gb101 ≠ gb102)); have n6_ := A_ ((by rw [hg]; exact Nat.ne_of_gt (blk_lt (g := gb101) (o := .cells #[.int .i64 a0_0, .int .i64 a0_1] 25 (0, 0)) (by (with_reducible repeat first | refine cA_ ?_ _ | refine cB_ ?_ | refine cC_ ?_ _); exact BK101.1)) : gb102 ≠ gb101)); clear BK101 HB; have BK101 := n0_; have HB := n1_; have BK102 := n2_; have GW102 := n3_; have GE102 := n4_; have NB101_102 := n5_; have NB102_101 := n6_; clear n0_ n1_ n2_ n3_ n4_ n5_ n6_ hb hbox hg; have hnb19 := NB101_102.out; have hnc19 := NB102_101.out; obtain ⟨hcz20_0, hcz20_1⟩ := kk2_ BK101.1; have hfz20_0 := bf_ BK101.out 0; have hfz20_1 := bf_ BK101.out 1) | ((with_reducible refine gate_callee (f := 82) rfl ?_); refine gl_ 4 Try.func82 #[.agg #[.int .i64 a0_0, .int .i64 a0_1]] ?_; (with_reducible refine (impl_GridOk.calls a0_0 a0_1 false _ A2.out).mono ?_); rintro e w21 ⟨rfl, hb⟩; refine ⟨_, rfl, ?_⟩; have n0_ := A_ (blk_below (g := gb101) (o := .cells #[.int .i64 a0_0, .int .i64 a0_1] 25 (0, 0)) (by (with_reducible repeat first | refine cA_ ?_ _ | refine cB_ ?_ | refine cC_ ?_ _); exact BK101.1) hb); have n1_ := A_ (blk_below (g := gb102) (o := .cells #[.int .i64 0, .int .i64 0, .int .i64 0] 27 (0, 0)) (by (with_reducible repeat first | refine cA_ ?_ _ | refine cB_ ?_ | refine cC_ ?_ _); exact BK102.1) hb); have n2_ := A_ (below_step (by repeat first | exact HB.1 | apply bA_ | apply bB_ | apply bC_ | refine below_set ?_ GE101.out | refine below_set ?_ GE102.out) hb); clear BK101 BK102 HB; have BK101 := n0_; have BK102 := n1_; have HB := n2_; clear n0_ n1_ n2_; (try clear hb); (try clear hk); obtain ⟨hcz22_0, hcz22_1, hcz22_2⟩ := kk3_ BK102.1; have hfz22_0 := bf_ BK102.out 0; have hfz22_1 := bf_ BK102.out 1; have hfz22_2 := bf_ BK102.out 2))
  refine bodyPost_ret (results_cell_row rfl _ _ gb102 27 #[.int .i64 0, .int .i64 0, .int .i64 0] (0, 0) _ rfl (by (with_reducible repeat (first | refine blk_drewN ?_ _ | refine blk_drew ?_ | refine blk_alloc ?_ _)); refine blk_put (cs := #[.int .i64 0, .int .i64 0, .int .i64 0]) ?_ 2 _ rfl; (with_reducible repeat (first | refine blk_drewN ?_ _ | refine blk_drew ?_ | refine blk_alloc ?_ _)); refine blk_put (cs := #[.int .i64 0, .int .i64 0, .int .i64 0]) ?_ 1 _ rfl; (with_reducible repeat (first | refine blk_drewN ?_ _ | refine blk_drew ?_ | refine blk_alloc ?_ _)); refine blk_put (cs := #[.int .i64 0, .int .i64 0, .int .i64 0]) ?_ 0 _ rfl; (with_reducible repeat (first | refine blk_drewN ?_ _ | refine blk_drew ?_ | refine blk_alloc ?_ _)); exact BK102.out) Try.underlying27 rfl (by kernel_rfl)) rfl ?_
  exact ⟨by first | rfl | (simp [errW_none, errW_some] <;> rfl) | (simp [*, errW_none, errW_some] <;> rfl), by repeat (first | (with_reducible first | exact HB.out | apply below_alloc | apply pw_below_drewN | apply below_drew1 | refine below_set ?_ GE101.out | refine below_set ?_ GE102.out) | exact HB.out)⟩

end Go.Proofs.Ytbeajmcjfhbcjaa.P
namespace Go.Proofs.Ytbeajmcjfhbcjaa.P
open Go.RowKit Go.Proofs.YtbeajmcjfhbcjaaW.PrintWords Go.Proofs.YtbeajmcjfhbcjaaW.PrintLast Go.Proofs.YtbeajmcjfhbcjaaW.PrintMore
attribute [local go_sem] max2_int min2_int max_two min_two max_three min_three max_four min_four   -- for this text's walks alone
set_option linter.unusedVariables false
set_option linter.unusedSimpArgs false

def chooser_next (l : List Int) (m : Int) : Option (Int × List Int) := match l with
 | [] => some (0, [])
 | v :: t => if m = 0 then none else some (Int.tmod (mx v 0) m, t)
structure DVS (w0 : World) (gc gm gw : Nat) (a0 a1 a2 : Int) (A : Option Addr) (cap : Nat) (l : List Int) (n : Int) (W : World) : Prop where
 bel : Below w0.heap.size w0 W
 bc : W.heap[gc]? = some (.cells #[.slice A l.length cap] 89 (0, 0))
 bm : W.heap[gm]? = some (.cells #[.int .i64 a0, .int .i64 a1, .int .i64 a2] 27 (0, 0))
 bn : W.heap[gw]? = some (.cells #[.int .i64 n] 3 (0, 0))
 row : Kd.C (Kd.int .i64) w0 A l.length l
 hcap : l.length ≤ cap
structure DVG (w0 : World) (gc gm gw : Nat) : Prop where
 hc : w0.heap.size ≤ gc
 hm : w0.heap.size ≤ gm
 hw : w0.heap.size ≤ gw
 n1 : gc ≠ gm
 n2 : gc ≠ gw
 n3 : gm ≠ gw
def DFr (gc gm gw : Nat) (W W' : World) : Prop := W.heap.size ≤ W'.heap.size ∧ ∀ k, k < W.heap.size → k ≠ gc → k ≠ gm → k ≠ gw → W'.heap[k]? = W.heap[k]?
theorem DFr.refl (gc gm gw : Nat) (W : World) : DFr gc gm gw W W := ⟨Nat.le_refl _, fun _ _ _ _ _ => rfl⟩
theorem DFr.trans {gc gm gw : Nat} {W1 W2 W3 : World} (h : DFr gc gm gw W1 W2) (h2 : DFr gc gm gw W2 W3) : DFr gc gm gw W1 W3 :=
 ⟨Nat.le_trans h.1 h2.1, fun k a b c d => (h2.2 k (Nat.lt_of_lt_of_le a h.1) b c d).trans (h.2 k a b c d)⟩
theorem DFr.below {gc gm gw : Nat} {W1 W2 : World} (h : Below W1.heap.size W1 W2) : DFr gc gm gw W1 W2 := ⟨h.size, fun k a _ _ _ => h.block k a⟩
section
variable {w0 W W' : World} {gc gm gw cap : Nat} {a0 a1 a2 : Int} {A : Option Addr} {l : List Int} {n : Int}
theorem DVS.below (h : DVS w0 gc gm gw a0 a1 a2 A cap l n W) (hb : Below W.heap.size W W') : DVS w0 gc gm gw a0 a1 a2 A cap l n W' :=
 ⟨h.bel.trans (hb.mono h.bel.size), blk_below h.bc hb, blk_below h.bm hb, blk_below h.bn hb, h.row, h.hcap⟩
theorem DVS.putn (h : DVS w0 gc gm gw a0 a1 a2 A cap l n W) (G : DVG w0 gc gm gw) (n' : Int) : DVS w0 gc gm gw a0 a1 a2 A cap l n' (W.setCell ⟨gw, 0, none⟩ (.int .i64 n')) ∧ DFr gc gm gw W (W.setCell ⟨gw, 0, none⟩ (.int .i64 n')) :=
 ⟨⟨h.bel.setCell G.hw _, blk_far h.bc G.n2 _, blk_far h.bm G.n3 _, blk_set h.bn 0 _, h.row, h.hcap⟩, by simp, fun k _ _ _ d => Below.heap_setCell W ⟨gw, 0, none⟩ _ k d⟩
theorem DVS.putc (h : DVS w0 gc gm gw a0 a1 a2 A cap l n W) (G : DVG w0 gc gm gw) (hp : 1 ≤ l.length) : DVS w0 gc gm gw a0 a1 a2 (if cap = 1 then A else A.map (·.add 1)) (cap - 1) (l.drop 1) n (W.setCell ⟨gc, 0, none⟩ (.slice (if cap = 1 then A else A.map (·.add 1)) (l.drop 1).length (cap - 1))) ∧ DFr gc gm gw W (W.setCell ⟨gc, 0, none⟩ (.slice (if cap = 1 then A else A.map (·.add 1)) (l.drop 1).length (cap - 1))) :=
 ⟨⟨h.bel.setCell G.hc _, blk_set h.bc 0 _, blk_far h.bm (Ne.symm G.n1) _, blk_far h.bn (Ne.symm G.n2) _, Kd.C_drop (m := 1) h.row hp h.hcap, by rw [List.length_drop]; have := h.hcap; omega⟩, by simp, fun k _ b _ _ => Below.heap_setCell W ⟨gc, 0, none⟩ _ k b⟩
end
set_option maxHeartbeats 4000000 in
set_option maxRecDepth 100000 in
theorem chooser_next.calls {w0 W : World} {gc gm gw cap : Nat} {a0 a1 a2 : Int} {A : Option Addr} {l : List Int} {n : Int} (G : DVG w0 gc gm gw) (h : DVS w0 gc gm gw a0 a1 a2 A cap l n W) (m r : Int) (l' : List Int) (hf : chooser_next l m = some (r, l')) :
  Calls Try.prog 91 #[.pointer (some ⟨gc, 0, none⟩), .int .i64 m] W fun e w' => e = .returned (.int .i64 r) ∧ (∃ A' cap', DVS w0 gc gm gw a0 a1 a2 A' cap' l' n w') ∧ DFr gc gm gw W w' := by
 have huC := Try.underlying89
 have hcc : W.cell? ⟨gc, 0, none⟩ = some (.slice A l.length cap) := (blk_cell h.bc 0).trans rfl
 have hcf := bf_ h.bc 0
 have HW := A_ h
 have HG := A_ G
 clear h G
 cases l with
 | nil =>
  obtain ⟨rfl, rfl⟩ : 0 = r ∧ [] = l' := by simpa [chooser_next] using hf
  clear hf
  go_enter Try.func91, Try.ntmps91
  go_wp2
  go_ret
  exact ⟨rfl, ⟨_, _, HW.out⟩, DFr.refl ..⟩
 | cons v t =>
  have hf2 : m ≠ 0 ∧ Int.tmod (mx v 0) m = r ∧ t = l' := by
   replace hf : (if m = 0 then none else some (Int.tmod (mx v 0) m, t)) = some (r, l') := hf
   by_cases e : m = 0
   ·rw [if_pos e] at hf; cases hf
   ·rw [if_neg e] at hf
    have := Option.some.inj hf
    exact ⟨e, congrArg Prod.fst this, congrArg Prod.snd this⟩
  obtain ⟨hm0, rfl, rfl⟩ := hf2
  clear hf
  obtain ⟨ad, e, hx⟩ := Kd.at_int HW.out.row 0 (Int.le_refl 0) (by simp only [List.length_cons]; omega)
  cases e
  have hb0 := World.block_lt_of_cell? w0 _ hx
  have hx2 := (HW.out.bel.cell hb0).trans hx
  simp only [Int.toNat_zero] at hx2
  rw [show rd (v :: t) 0 = v from rfl, show ad.add 0 = ad from by cases ad; simp [Addr.add]] at hx2
  have h1c : decide ((1 : Int) ≤ (cap : Int)) = true := decide_eq_true (by have := HW.out.hcap; simp only [List.length_cons] at this; omega)
  clear hx hb0
  have hlen : (v :: t).length = t.length + 1 := rfl
  have hmx := HW.out.row.2.1
  rcases Int.le_total v 0 with hv | hv
  all_goals by_cases hk : cap = 1
  all_goals
   have hP := HW.out.putc HG.out (by simp)
   first
    | rw [if_pos hk] at hP
    | rw [if_neg hk] at hP
   have HP := A_ hP
   clear hP
   have hcap := HW.out.hcap
   try subst hk
   go_enter Try.func91, Try.ntmps91
   go_wp2
   all_goals
    go_ret
    refine ⟨?_, ?_, ?_⟩
    ·first
      | rw [show mx v 0 = v by unfold mx; omega, Int.tmod_eq_emod_of_nonneg (by omega)]; done
      | (rw [show mx v 0 = v by unfold mx; omega, Int.tmod_eq_emod_of_nonneg (by omega)]; rfl) | (rw [show mx v 0 = 0 by unfold mx; omega, Int.zero_tmod]; rfl)
      | rw [show mx v 0 = 0 by unfold mx; omega, Int.zero_tmod]; done
    ·exact ⟨_, _, HP.out.1⟩
    ·exact HP.out.2
def dvd.T10 : Bool × List (List Nat × List Nat) := (true, [([], []), ([], []), ([1], [1]), ([2], [2]), ([], []), ([4], [4]), ([5], [5]), ([6], [6]), ([], []), ([8], [8]), ([], []), ([9, 10], [9, 10]), ([], []), ([12], [12]), ([13], [13]), ([14], [14]), ([15], [15]), ([11, 16], [11, 16]), ([], []), ([18], [18]), ([17, 19], [17, 19]), ([], []), ([20, 21], [20, 21]), ([7, 22], [7, 22]), ([3, 23, 23], [3, 23]), ([0, 0, 1, 2, 3, 4, 5, 6, 7, 8, 9, 10, 11, 12, 13, 14, 15, 16, 17, 18, 19, 20, 21, 22, 23, 24], [0]), ([25, 24, 24, 0, 1, 2, 3, 4, 5, 6, 7, 8, 9, 10, 11, 12, 13, 14, 15, 16, 17, 18, 19, 20, 21, 22, 23, 24], [24, 25])])
def dvd.B10 : List Nat := [0, 0, 2, 6, 0, 16, 48, 112, 0, 256, 0, 1792, 0, 4096, 12288, 28672, 61440, 130816, 0, 262144, 1048320, 0, 4194048, 8388592, 16777214, 33554431, 67108863]
theorem dvd.tab10 : rtab .any (opsOf Try.f140 10) = dvd.T10 := by kernel_rfl
theorem dvd.bits10 : waitsOk dvd.T10.2 dvd.B10 = true := by kernel_rfl
def dvd.T19 : Bool × List (List Nat × List Nat) := (true, [([], []), ([], []), ([1], [1]), ([2], [2]), ([], []), ([4], [4]), ([5], [5]), ([6], [6]), ([], []), ([8], [8]), ([], []), ([9, 10], [9, 10]), ([], []), ([12], [12]), ([13], [13]), ([14], [14]), ([15], [15]), ([11, 16], [11, 16]), ([], []), ([18], [18]), ([17, 19], [17, 19]), ([], []), ([20, 21], [20, 21]), ([7, 22], [7, 22]), ([3, 23, 23], [3, 23]), ([0, 0, 1, 2, 3, 4, 5, 6, 7, 8, 9, 10, 11, 12, 13, 14, 15, 16, 17, 18, 19, 20, 21, 22, 23, 24], [0]), ([25, 24, 24, 0, 1, 2, 3, 4, 5, 6, 7, 8, 9, 10, 11, 12, 13, 14, 15, 16, 17, 18, 19, 20, 21, 22, 23, 24], [24, 25])])
def dvd.B19 : List Nat := [0, 0, 2, 6, 0, 16, 48, 112, 0, 256, 0, 1792, 0, 4096, 12288, 28672, 61440, 130816, 0, 262144, 1048320, 0, 4194048, 8388592, 16777214, 33554431, 67108863]
theorem dvd.tab19 : rtab .any (opsOf Try.f140 19) = dvd.T19 := by kernel_rfl
theorem dvd.bits19 : waitsOk dvd.T19.2 dvd.B19 = true := by kernel_rfl
def dv_loop (k : Nat) (cell : Int → Int → Int) (dir pass : Int) : Nat → Nat → Int → Int → Int → Option (Int × Int × Int)
 | 0, _, a0, a1, a2 => some (a0, a1, a2)
 | d + 1, i, a0, a1, a2 => if (i : Int) = pass then dv_loop k cell dir pass d (i + 1) a0 a1 a2 else (impl_GapAt.f k a0 a1 (cell a0 (i : Int)) dir).bind fun g => (impl_with.f a0 a1 a2 g false).bind fun m => dv_loop k cell dir pass d (i + 1) m.1 m.2.1 m.2.2
def dv_f : Nat → Int → Int → Int → Int → Int → Int → Int → List Int → Int → Option ((Int × Int × Int) × List Int × Int)
 | 0, _, _, _, _, _, _, _, _, _ => none
 | k + 1, a0, a1, a2, x, y, wd, hi, l, n => if wd = 1 then some ((a0, a1, a2), l, n) else if hi = 1 then some ((a0, a1, a2), l, n) else if hi ≥ wd then (if 0 ≤ wd ∧ wd ≤ 1000 then ((chooser_next l (wrap64 (hi - 1))).bind fun p => (chooser_next p.2 wd).bind fun q => (dv_loop k (fun a i => wrap64 (wrap64 (wrap64 (wrap64 (y + p.1) * a) + x) + i)) 2 q.1 wd.toNat 0 a0 a1 a2).bind fun m => (dv_f k m.1 m.2.1 m.2.2 x y wd (wrap64 (p.1 + 1)) q.2 (wrap64 (n + 1))).bind fun r => dv_f k r.1.1 r.1.2.1 r.1.2.2 x (wrap64 (wrap64 (y + p.1) + 1)) wd (wrap64 (wrap64 (hi - p.1) - 1)) r.2.1 r.2.2) else none) else (if 0 ≤ hi ∧ hi ≤ 1000 then ((chooser_next l (wrap64 (wd - 1))).bind fun p => (chooser_next p.2 hi).bind fun q => (dv_loop k (fun a i => wrap64 (wrap64 (wrap64 (wrap64 (y + i) * a) + x) + p.1)) 1 q.1 hi.toNat 0 a0 a1 a2).bind fun m => (dv_f k m.1 m.2.1 m.2.2 x y (wrap64 (p.1 + 1)) hi q.2 (wrap64 (n + 1))).bind fun r => dv_f k r.1.1 r.1.2.1 r.1.2.2 (wrap64 (wrap64 (x + p.1) + 1)) y (wrap64 (wrap64 (wd - p.1) - 1)) hi r.2.1 r.2.2) else none)
theorem dv_loop_at {k : Nat} {cell : Int → Int → Int} {dir pass : Int} {d i : Nat} {a0 a1 a2 : Int} {r : Int × Int × Int} (H : dv_loop k cell dir pass (d + 1) i a0 a1 a2 = some r) : ((i : Int) = pass ∧ dv_loop k cell dir pass d (i + 1) a0 a1 a2 = some r) ∨ ((i : Int) ≠ pass ∧ ∃ g m1 m2 m3, impl_GapAt.f k a0 a1 (cell a0 (i : Int)) dir = some g ∧ impl_with.f a0 a1 a2 g false = some (m1, m2, m3) ∧ dv_loop k cell dir pass d (i + 1) m1 m2 m3 = some r) := by
 unfold dv_loop at H
 by_cases e : (i : Int) = pass
 ·rw [if_pos e] at H; exact .inl ⟨e, H⟩
 ·rw [if_neg e] at H
  obtain ⟨g, hg, H⟩ := Option.bind_eq_some_iff.1 H
  obtain ⟨⟨m1, m2, m3⟩, hm, H⟩ := Option.bind_eq_some_iff.1 H
  exact .inr ⟨e, g, m1, m2, m3, hg, hm, H⟩
section
variable {w0 W W' : World} {gc gm gw cap : Nat} {a0 a1 a2 : Int} {A : Option Addr} {l : List Int} {n : Int}
theorem DVS.putm (h : DVS w0 gc gm gw a0 a1 a2 A cap l n W) (G : DVG w0 gc gm gw) {b0 b1 b2 : Int} (hw : W'.heap[gm]? = some (.cells #[.int .i64 b0, .int .i64 b1, .int .i64 b2] 27 (0, 0))) (hs : W'.heap.size = W.heap.size) (hk : ∀ k, k ≠ gm → W'.heap[k]? = W.heap[k]?) (hb : Below w0.heap.size w0 W') : DVS w0 gc gm gw b0 b1 b2 A cap l n W' ∧ DFr gc gm gw W W' :=
 ⟨⟨hb, (hk _ G.n1).trans h.bc, hw, (hk _ (Ne.symm G.n3)).trans h.bn, h.row, h.hcap⟩, by omega, fun k _ _ c _ => hk k c⟩
theorem DVS.put3 (h : DVS w0 gc gm gw a0 a1 a2 A cap l n W) (G : DVG w0 gc gm gw) (t1 t2 t3 : Int) : DVS w0 gc gm gw t1 t2 t3 A cap l n (((W.setCell ⟨gm, 0, none⟩ (.int .i64 t1)).setCell ⟨gm, 1, none⟩ (.int .i64 t2)).setCell ⟨gm, 2, none⟩ (.int .i64 t3)) ∧ DFr gc gm gw W (((W.setCell ⟨gm, 0, none⟩ (.int .i64 t1)).setCell ⟨gm, 1, none⟩ (.int .i64 t2)).setCell ⟨gm, 2, none⟩ (.int .i64 t3)) :=
 h.putm G (blk_set (blk_set (blk_set h.bm 0 _) 1 _) 2 _) (by simp) (fun k hk => ((Below.heap_setCell _ ⟨gm, 2, none⟩ _ k hk).trans (Below.heap_setCell _ ⟨gm, 1, none⟩ _ k hk)).trans (Below.heap_setCell _ ⟨gm, 0, none⟩ _ k hk)) (((h.bel.setCell G.hm _).setCell G.hm _).setCell G.hm _)
theorem DFr.blk {gc gm gw : Nat} {W W' : World} {g : Nat} {o : Obj} (h : DFr gc gm gw W W') (hb : W.heap[g]? = some o) (h1 : g ≠ gc) (h2 : g ≠ gm) (h3 : g ≠ gw) : W'.heap[g]? = some o := (h.2 g (blk_lt hb) h1 h2 h3).trans hb
end
set_option maxHeartbeats 8000000 in
set_option maxRecDepth 100000 in
theorem dv_calls {w0 : World} {gc gm gw : Nat} (G : DVG w0 gc gm gw) : ∀ (k : Nat) (W : World) (a0 a1 a2 : Int) (A : Option Addr) (cap : Nat) (l : List Int) (n x y wd hi : Int) (r : (Int × Int × Int) × List Int × Int), DVS w0 gc gm gw a0 a1 a2 A cap l n W → dv_f k a0 a1 a2 x y wd hi l n = some r →
  Calls Try.prog 140 #[.pointer (some ⟨gc, 0, none⟩), .pointer (some ⟨gm, 0, none⟩), .agg #[.int .i64 x, .int .i64 y, .int .i64 wd, .int .i64 hi], .pointer (some ⟨gw, 0, none⟩)] W fun e w' => e = .returned (.tuple #[]) ∧ (∃ A' cap', DVS w0 gc gm gw r.1.1 r.1.2.1 r.1.2.2 A' cap' r.2.1 r.2.2 w') ∧ DFr gc gm gw W w' := by
 intro k
 induction k with
 | zero => intro W a0 a1 a2 A cap l n x y wd hi r h hf; simp [dv_f] at hf
 | succ k IH =>
  intro W a0 a1 a2 A cap l n x y wd hi r h hf
  have huR := Try.underlying123
  have huM := Try.underlying27
  have huG := Try.underlying25
  have hgc := blk_lt h.bc
  have hgm := blk_lt h.bm
  have hgw := blk_lt h.bn
  have HG := A_ G
  have HW := A_ h
  have HI := A_ IH
  clear G h IH
  unfold dv_f at hf
  by_cases e1 : wd = 1
  ·rw [if_pos e1] at hf
   obtain rfl := Option.some.inj hf
   subst e1
   have c1 : ((1 : Int) == 1) = true := rfl
   go_enter Try.func140, Try.ntmps140
   go_wp2
   ((try simp only [Exit.inBlock, Exit.then]); refine bodyPost_ret (results_none rfl _ _ _) rfl ?_)
   have hb := below_alloc (Below.refl W.heap.size W) (.cells #[.int .i64 x, .int .i64 y, .int .i64 1, .int .i64 hi] 123)
   exact ⟨rfl, ⟨_, _, HW.out.below hb⟩, DFr.below hb⟩
  ·rw [if_neg e1] at hf
   have c1 : (wd == 1) = false := beq_eq_false_iff_ne.mpr e1
   by_cases e2 : hi = 1
   ·rw [if_pos e2] at hf
    obtain rfl := Option.some.inj hf
    subst e2
    have c2 : ((1 : Int) == 1) = true := rfl
    go_enter Try.func140, Try.ntmps140
    go_wp2
    ((try simp only [Exit.inBlock, Exit.then]); refine bodyPost_ret (results_none rfl _ _ _) rfl ?_)
    have hb := below_alloc (Below.refl W.heap.size W) (.cells #[.int .i64 x, .int .i64 y, .int .i64 wd, .int .i64 1] 123)
    exact ⟨rfl, ⟨_, _, HW.out.below hb⟩, DFr.below hb⟩
   ·rw [if_neg e2] at hf
    have c2 : (hi == 1) = false := beq_eq_false_iff_ne.mpr e2
    by_cases e3 : hi ≥ wd
    ·rw [if_pos e3] at hf
     have c3 : decide (hi ≥ wd) = true := decide_eq_true e3
     by_cases e4 : 0 ≤ wd ∧ wd ≤ 1000
     ·rw [if_pos e4] at hf
      obtain ⟨⟨p, l1⟩, hp, hf⟩ := Option.bind_eq_some_iff.1 hf
      obtain ⟨⟨q, l2⟩, hq, hf⟩ := Option.bind_eq_some_iff.1 hf
      obtain ⟨⟨m0, m1, m2⟩, hm, hf⟩ := Option.bind_eq_some_iff.1 hf
      obtain ⟨⟨⟨r0, r1, r2⟩, l3, n3⟩, hr, hf⟩ := Option.bind_eq_some_iff.1 hf
      dsimp only at hq hm hr hf
      have HP := A_ hp
      have HQ := A_ hq
      have HM := A_ hm
      have HR := A_ hr
      have HF := A_ hf
      obtain ⟨WD, rfl⟩ := Int.eq_ofNat_of_zero_le e4.1
      clear hp hq hm hr hf
      go_enter Try.func140, Try.ntmps140
      go_wp2_with (first | ((with_reducible refine gate_dst (N := 6) rfl ?_); refine box_event ?hg (N := 6) ?hd (cs := #[.int .i64 x, .int .i64 y, .int .i64 (WD : Int), .int .i64 hi]) (t := 123) ?hr ?_; (case hd => rfl); (case hg => rfl); (case hr => first | (go_simp; done) | (go_simp; rfl)); intro gb hgb w1 hbox hb; have HB1 := A_ hbox; have HD1 := A_ (HW.out.below hb); have HF1 := A_ (DFr.below (gc := gc) (gm := gm) (gw := gw) hb); have GB := A_ (show gb ≠ gc ∧ gb ≠ gm ∧ gb ≠ gw by rw [hgb]; omega); have hbx : w1.cell? ⟨gb, 0, none⟩ = some (.int .i64 x) := (blk_cell HB1.out 0).trans rfl; have hby : w1.cell? ⟨gb, 1, none⟩ = some (.int .i64 y) := (blk_cell HB1.out 1).trans rfl; have hbw : w1.cell? ⟨gb, 2, none⟩ = some (.int .i64 (WD : Int)) := (blk_cell HB1.out 2).trans rfl; have hbh : w1.cell? ⟨gb, 3, none⟩ = some (.int .i64 hi) := (blk_cell HB1.out 3).trans rfl; have hcn : w1.cell? ⟨gw, 0, none⟩ = some (.int .i64 n) := (blk_cell HD1.out.bn 0).trans rfl; have hfn := bf_ HD1.out.bn 0; clear hb hbox hgb) | ((with_reducible refine gate_store (t := 3) (p := 26) rfl ?_); refine store_event (t := 3) (p := 26) (v := ?vo_s) (w1 := (w1.setCell ⟨gw, 0, none⟩ (.int .i64 (wrap64 (n + 1))))) ?hg ?ho ?hn ?hr ?_; (case ho => rfl); (case hg => rfl); (case hn => rfl); (case hr => first | (go_simp; done) | (go_simp; rfl)); intro w2 hw; have HQQ := HD1.out.putn HG.out (wrap64 (n + 1)); rw [← hw] at HQQ; have HD2 := A_ HQQ.1; have HF2 := A_ (HF1.out.trans HQQ.2); have HB2 := A_ (HQQ.2.blk HB1.out GB.out.1 GB.out.2.1 GB.out.2.2); clear hw HQQ hbx hby hbw hbh hcn hfn HB1; have hbx : w2.cell? ⟨gb, 0, none⟩ = some (.int .i64 x) := (blk_cell HB2.out 0).trans rfl; have hby : w2.cell? ⟨gb, 1, none⟩ = some (.int .i64 y) := (blk_cell HB2.out 1).trans rfl; have hbw : w2.cell? ⟨gb, 2, none⟩ = some (.int .i64 (WD : Int)) := (blk_cell HB2.out 2).trans rfl; have hbh : w2.cell? ⟨gb, 3, none⟩ = some (.int .i64 hi) := (blk_cell HB2.out 3).trans rfl) | ((with_reducible refine gate_callee (f := 91) rfl ?_); refine gl_ 36 Try.func91 #[.pointer (some ⟨gc, 0, none⟩), .int .i64 (wrap64 (hi - 1))] ?_; refine (chooser_next.calls HG.out HD2.out (wrap64 (hi - 1)) p l1 HP.out).mono ?_; rintro e w3 ⟨rfl, ⟨A3, cap3, hd⟩, hfr⟩; refine ⟨_, rfl, ?_⟩; have HD3 := A_ hd; have HF3 := A_ (HF2.out.trans hfr); have HB3 := A_ (hfr.blk HB2.out GB.out.1 GB.out.2.1 GB.out.2.2); clear hd hfr hbx hby hbw hbh; have hbx : w3.cell? ⟨gb, 0, none⟩ = some (.int .i64 x) := (blk_cell HB3.out 0).trans rfl; have hby : w3.cell? ⟨gb, 1, none⟩ = some (.int .i64 y) := (blk_cell HB3.out 1).trans rfl; have hbw : w3.cell? ⟨gb, 2, none⟩ = some (.int .i64 (WD : Int)) := (blk_cell HB3.out 2).trans rfl; have hbh : w3.cell? ⟨gb, 3, none⟩ = some (.int .i64 hi) := (blk_cell HB3.out 3).trans rfl) | ((with_reducible refine gate_callee (f := 91) rfl ?_); refine gl_ 40 Try.func91 #[.pointer (some ⟨gc, 0, none⟩), .int .i64 (WD : Int)] ?_; refine (chooser_next.calls HG.out HD3.out (WD : Int) q l2 HQ.out).mono ?_; rintro e w4 ⟨rfl, ⟨A4, cap4, hd⟩, hfr⟩; refine ⟨_, rfl, ?_⟩; have HD4 := A_ hd; have HF4 := A_ (HF3.out.trans hfr); have HB4 := A_ (hfr.blk HB3.out GB.out.1 GB.out.2.1 GB.out.2.2); clear hd hfr hbx hby hbw hbh; have hbx : w4.cell? ⟨gb, 0, none⟩ = some (.int .i64 x) := (blk_cell HB4.out 0).trans rfl; have hby : w4.cell? ⟨gb, 1, none⟩ = some (.int .i64 y) := (blk_cell HB4.out 1).trans rfl; have hbw : w4.cell? ⟨gb, 2, none⟩ = some (.int .i64 (WD : Int)) := (blk_cell HB4.out 2).trans rfl; have hbh : w4.cell? ⟨gb, 3, none⟩ = some (.int .i64 hi) := (blk_cell HB4.out 3).trans rfl))
      clear hbx hby hbw hbh
      go_loopg [10] WD (fun gg v10 wr => ∃ (i : Nat) (b0 b1 b2 : Int), i ≤ WD ∧ WD - i ≤ gg ∧ v10 = .int .i64 i ∧ Aside0 (dv_loop k (fun a i => wrap64 (wrap64 (wrap64 (wrap64 (y + p) * a) + x) + i)) 2 q (WD - i) i b0 b1 b2 = some (m0, m1, m2)) ∧ Aside0 (DVS w0 gc gm gw b0 b1 b2 A4 cap4 l2 (wrap64 (n + 1)) wr) ∧ Aside0 (DFr gc gm gw W wr) ∧ Aside0 (wr.heap[gb]? = some (.cells #[.int .i64 x, .int .i64 y, .int .i64 (WD : Int), .int .i64 hi] 123 (0, 0))))
      case atStart => exact ⟨0, a0, a1, a2, Nat.zero_le _, by omega, rfl, ⟨by have := HM.out; rwa [Int.toNat_natCast] at this⟩, HD4, HF4, HB4⟩
      case round =>
       clear HD4 HF4 HB4 HM
       obtain ⟨i, b0, b1, b2, hi1, hg, rfl, HM, HD5, HF5, HB5⟩ := hrel
       have hbx : wr.cell? ⟨gb, 0, none⟩ = some (.int .i64 x) := (blk_cell HB5.out 0).trans rfl
       have hby : wr.cell? ⟨gb, 1, none⟩ = some (.int .i64 y) := (blk_cell HB5.out 1).trans rfl
       have hbw : wr.cell? ⟨gb, 2, none⟩ = some (.int .i64 (WD : Int)) := (blk_cell HB5.out 2).trans rfl
       have hbh : wr.cell? ⟨gb, 3, none⟩ = some (.int .i64 hi) := (blk_cell HB5.out 3).trans rfl
       by_cases hlt : i < WD
       ·have hltz : (i : Int) < (WD : Int) := by omega
        have hltd : decide ((i : Int) < (WD : Int)) = true := decide_eq_true hltz
        obtain ⟨d, hd⟩ : ∃ d, WD - i = d + 1 := ⟨WD - i - 1, by omega⟩
        rcases dv_loop_at (by rw [← hd]; exact HM.out : dv_loop k _ 2 q (d + 1) i b0 b1 b2 = some (m0, m1, m2)) with ⟨hpq, hnext⟩ | ⟨hpq, g, t1, t2, t3, hg1, hg2, hnext⟩
        ·have hbn : ((i : Int) != q) = false := bne_eq_false_iff_eq.mpr hpq
         have HN := A_ hnext
         clear hnext hpq HM
         go_wp2
         go_roundg (WD - (i + 1))
         case measure => omega
         case rel => exact ⟨i + 1, b0, b1, b2, by omega, by omega, by go_num, ⟨by rw [show WD - (i + 1) = d by omega]; exact HN.out⟩, HD5, HF5, HB5⟩
        ·have hbn : ((i : Int) != q) = true := bne_iff_ne.mpr hpq
         have HN := A_ hnext
         have HG1 := A_ hg1
         have HG2 := A_ hg2
         clear hnext hpq HM hg1 hg2
         go_wp2
         have HD6 := A_ (HD5.out.below (below_drew1 (Below.refl _ _)))
         have HF6 := A_ (HF5.out.trans (DFr.below (below_drew1 (Below.refl _ _))))
         have HB6 := A_ (blk_drew HB5.out)
         clear HD5 HF5 HB5 hbx hby hbw hbh
         refine start_ (n := 27) (S := fun w' => w'.cell? ⟨gm, 0, none⟩ = some (.int .i64 b0) ∧ w'.cell? ⟨gm, 1, none⟩ = some (.int .i64 b1) ∧ w'.cell? ⟨gm, 2, none⟩ = some (.int .i64 b2) ∧ w'.cell? ⟨gb, 0, none⟩ = some (.int .i64 x) ∧ w'.cell? ⟨gb, 1, none⟩ = some (.int .i64 y)) (ds := [26]) #[false, false, false, false, false, false, false, false, false, false, false, false, false, false, false, false, false, false, false, false, false, false, false, false, false, false, false] (by kernel_rfl) rfl rfl ⟨(blk_cell HD6.out.bm 0).trans rfl, (blk_cell HD6.out.bm 1).trans rfl, (blk_cell HD6.out.bm 2).trans rfl, (blk_cell HB6.out 0).trans rfl, (blk_cell HB6.out 1).trans rfl⟩ (fun hHeld => ?_)
         refine with_tabW dvd.tab10 dvd.bits10 (fun HT_ HW_ => ?_)
         generalize wr.drew = w6 at HD6 HB6 HF6 hHeld ⊢
         refine pv_ 0 50 HT_ ?_; refine pv_ 1 51 HT_ ?_; refine pv_ 2 52 HT_ ?_; refine tv_ 3 53 rfl HT_ HW_ hHeld (by rintro w' ⟨s0, s1, s2, s3, s4⟩; go_simp; with_reducible rfl) ?_
         refine pv_ 4 54 HT_ ?_; refine pv_ 5 55 HT_ ?_; refine pv_ 6 56 HT_ ?_; refine tv_ 7 57 rfl HT_ HW_ hHeld (by rintro w' ⟨s0, s1, s2, s3, s4⟩; go_simp; with_reducible rfl) ?_
         refine pv_ 8 58 HT_ ?_; refine tv_ 9 59 rfl HT_ HW_ hHeld (by rintro w' ⟨s0, s1, s2, s3, s4⟩; go_simp; with_reducible rfl) ?_
         refine pv_ 10 60 HT_ ?_; refine pv_ 11 61 HT_ ?_; refine pv_ 12 62 HT_ ?_; refine pv_ 13 63 HT_ ?_; refine pv_ 14 64 HT_ ?_; refine pv_ 15 65 HT_ ?_; refine tv_ 16 66 rfl HT_ HW_ hHeld (by rintro w' ⟨s0, s1, s2, s3, s4⟩; go_simp; with_reducible rfl) ?_
         refine pv_ 17 67 HT_ ?_; refine pv_ 18 68 HT_ ?_; refine tv_ 19 69 rfl HT_ HW_ hHeld (by rintro w' ⟨s0, s1, s2, s3, s4⟩; go_simp; with_reducible rfl) ?_
         refine pv_ 20 70 HT_ ?_; refine pv_ 21 71 HT_ ?_; refine pv_ 22 72 HT_ ?_
         refine on_ 23 (some 73) rfl rfl HT_ (by kernel_rfl) (by decide) (fun K hK => ?_)
         refine gs_ Try.func123 #[.agg #[.int .i64 b0, .int .i64 b1], .int .i64 (wrap64 (wrap64 (wrap64 (wrap64 (y + p) * b0) + x) + (i : Int))), .int .i64 2] ?_
         refine (impl_GapAt.calls k b0 b1 (wrap64 (wrap64 (wrap64 (wrap64 (y + p) * b0) + x) + (i : Int))) 2 g _ HG1.out).mono ?_
         rintro e w7 ⟨rfl, hb⟩
         refine ⟨_, rfl, ?_⟩
         have HD7 := A_ (HD6.out.below hb)
         have HF7 := A_ (HF6.out.trans (DFr.below hb))
         have HB7 := A_ (blk_below HB6.out hb)
         clear hb hHeld HD6 HF6 HB6
         refine hK.out _ _ ⟨(blk_cell HD7.out.bm 0).trans rfl, (blk_cell HD7.out.bm 1).trans rfl, (blk_cell HD7.out.bm 2).trans rfl, (blk_cell HB7.out 0).trans rfl, (blk_cell HB7.out 1).trans rfl⟩ (fun hHeld => ?_)
         clear hK K
         refine norm_ (a' := ?_) ?_ ?_; rotate_left; (show Act.put _ (some 73) _ = _; simp only [P6_]; rfl)
         refine on_ 24 (some 74) rfl rfl HT_ (by kernel_rfl) (by decide) (fun K hK => ?_)
         refine gs_ Try.func92 #[.agg #[.int .i64 b0, .int .i64 b1, .int .i64 b2], .int .i64 g, .bool false] ?_
         refine (impl_with.calls b0 b1 b2 g false t1 t2 t3 _ HG2.out).mono ?_
         rintro e w8 ⟨rfl, hb⟩
         refine ⟨_, rfl, ?_⟩
         have HD8 := A_ (HD7.out.below hb)
         have HF8 := A_ (HF7.out.trans (DFr.below hb))
         have HB8 := A_ (blk_below HB7.out hb)
         clear hb hHeld HD7 HF7 HB7
         refine hK.out _ _ ⟨(blk_cell HD8.out.bm 0).trans rfl, (blk_cell HD8.out.bm 1).trans rfl, (blk_cell HD8.out.bm 2).trans rfl, (blk_cell HB8.out 0).trans rfl, (blk_cell HB8.out 1).trans rfl⟩ (fun hHeld => ?_)
         clear hK K
         refine norm_ (a' := ?_) ?_ ?_; rotate_left; (show Act.put _ (some 74) _ = _; simp only [P6_]; rfl)
         refine pv_ 25 75 HT_ ?_
         have hz0 := bf_ HD8.out.bm 0
         have hz1 := bf_ HD8.out.bm 1
         have hz2 := bf_ HD8.out.bm 2
         refine last_ (i := 26) (N := none) #[true, true, true, true, true, true, true, true, true, true, true, true, true, true, true, true, true, true, true, true, true, true, true, true, true, true, true] rfl rfl (one_of HT_.out (by kernel_rfl)) (by decide) (fun K hK => ?_)
         refine skip_ (w1 := ?_) (by rfl) rfl ?_ ?_
         rotate_left
         ·go_simp
          rfl
         refine hK.out _ _ ?_
         clear hK K
         refine done_ (done_of HT_.out (by kernel_rfl)) ?_
         try go_wp2
         have HPM := HD8.out.put3 HG.out t1 t2 t3
         have HD9 := A_ HPM.1
         have HF9 := A_ (HF8.out.trans HPM.2)
         have HB9 := A_ (HPM.2.blk HB8.out GB.out.1 GB.out.2.1 GB.out.2.2)
         clear HPM
         go_roundg (WD - (i + 1))
         case measure => omega
         case rel => exact ⟨i + 1, t1, t2, t3, by omega, by omega, by go_num, ⟨by rw [show WD - (i + 1) = d by omega]; exact HN.out⟩, HD9, HF9, HB9⟩
       ·have hltz : ¬ (i : Int) < (WD : Int) := by omega
        have hltd : decide ((i : Int) < (WD : Int)) = false := decide_eq_false hltz
        have hmm := HM.out
        rw [show WD - i = 0 by omega] at hmm
        unfold dv_loop at hmm
        have hmm := Option.some.inj hmm
        obtain ⟨rfl, rfl, rfl⟩ : b0 = m0 ∧ b1 = m1 ∧ b2 = m2 := by simpa using hmm
        clear hmm HM
        go_wp2_with (first | ((with_reducible refine gate_dst (N := 88) rfl ?_); refine gl_ 88 Try.func140 #[.pointer (some ⟨gc, 0, none⟩), .pointer (some ⟨gm, 0, none⟩), .agg #[.int .i64 x, .int .i64 y, .int .i64 (WD : Int), .int .i64 (wrap64 (p + 1))], .pointer (some ⟨gw, 0, none⟩)] ?_; refine (HI.out _ _ _ _ _ _ _ _ _ _ _ _ _ HD5.out HR.out).mono ?_; rintro e w10 ⟨rfl, ⟨A10, cap10, hd⟩, hfr⟩; refine ⟨_, rfl, ?_⟩; have HD10 := A_ hd; have HF10 := A_ (HF5.out.trans hfr); have HB10 := A_ (hfr.blk HB5.out GB.out.1 GB.out.2.1 GB.out.2.2); clear hd hfr; (try clear hbx hby hbw hbh); have hbx : w10.cell? ⟨gb, 0, none⟩ = some (.int .i64 x) := (blk_cell HB10.out 0).trans rfl; have hby : w10.cell? ⟨gb, 1, none⟩ = some (.int .i64 y) := (blk_cell HB10.out 1).trans rfl; have hbw : w10.cell? ⟨gb, 2, none⟩ = some (.int .i64 (WD : Int)) := (blk_cell HB10.out 2).trans rfl; have hbh : w10.cell? ⟨gb, 3, none⟩ = some (.int .i64 hi) := (blk_cell HB10.out 3).trans rfl) | ((with_reducible refine gate_dst (N := 107) rfl ?_); refine gl_ 107 Try.func140 #[.pointer (some ⟨gc, 0, none⟩), .pointer (some ⟨gm, 0, none⟩), .agg #[.int .i64 x, .int .i64 (wrap64 (wrap64 (y + p) + 1)), .int .i64 (WD : Int), .int .i64 (wrap64 (wrap64 (hi - p) - 1))], .pointer (some ⟨gw, 0, none⟩)] ?_; refine (HI.out _ _ _ _ _ _ _ _ _ _ _ _ _ HD10.out HF.out).mono ?_; rintro e w11 ⟨rfl, ⟨A11, cap11, hd⟩, hfr⟩; refine ⟨_, rfl, ?_⟩; have HD11 := A_ hd; have HF11 := A_ (HF10.out.trans hfr); have HB11 := A_ (hfr.blk HB10.out GB.out.1 GB.out.2.1 GB.out.2.2); clear hd hfr; (try clear hbx hby hbw hbh); have hbx : w11.cell? ⟨gb, 0, none⟩ = some (.int .i64 x) := (blk_cell HB11.out 0).trans rfl; have hby : w11.cell? ⟨gb, 1, none⟩ = some (.int .i64 y) := (blk_cell HB11.out 1).trans rfl; have hbw : w11.cell? ⟨gb, 2, none⟩ = some (.int .i64 (WD : Int)) := (blk_cell HB11.out 2).trans rfl; have hbh : w11.cell? ⟨gb, 3, none⟩ = some (.int .i64 hi) := (blk_cell HB11.out 3).trans rfl))
        ((try simp only [Exit.inBlock, Exit.then]); refine bodyPost_ret (results_none rfl _ _ _) rfl ?_)
        exact ⟨rfl, ⟨_, _, HD11.out⟩, HF11.out⟩
     ·rw [if_neg e4] at hf; cases hf
    ·rw [if_neg e3] at hf
     have c3 : decide (hi ≥ wd) = false := decide_eq_false e3
     by_cases e4 : 0 ≤ hi ∧ hi ≤ 1000
     ·rw [if_pos e4] at hf
      obtain ⟨⟨p, l1⟩, hp, hf⟩ := Option.bind_eq_some_iff.1 hf
      obtain ⟨⟨q, l2⟩, hq, hf⟩ := Option.bind_eq_some_iff.1 hf
      obtain ⟨⟨m0, m1, m2⟩, hm, hf⟩ := Option.bind_eq_some_iff.1 hf
      obtain ⟨⟨⟨r0, r1, r2⟩, l3, n3⟩, hr, hf⟩ := Option.bind_eq_some_iff.1 hf
      dsimp only at hq hm hr hf
      have HP := A_ hp
      have HQ := A_ hq
      have HM := A_ hm
      have HR := A_ hr
      have HF := A_ hf
      obtain ⟨WD, rfl⟩ := Int.eq_ofNat_of_zero_le e4.1
      clear hp hq hm hr hf
      go_enter Try.func140, Try.ntmps140
      go_wp2_with (first | ((with_reducible refine gate_dst (N := 6) rfl ?_); refine box_event ?hg (N := 6) ?hd (cs := #[.int .i64 x, .int .i64 y, .int .i64 wd, .int .i64 (WD : Int)]) (t := 123) ?hr ?_; (case hd => rfl); (case hg => rfl); (case hr => first | (go_simp; done) | (go_simp; rfl)); intro gb hgb w1 hbox hb; have HB1 := A_ hbox; have HD1 := A_ (HW.out.below hb); have HF1 := A_ (DFr.below (gc := gc) (gm := gm) (gw := gw) hb); have GB := A_ (show gb ≠ gc ∧ gb ≠ gm ∧ gb ≠ gw by rw [hgb]; omega); have hbx : w1.cell? ⟨gb, 0, none⟩ = some (.int .i64 x) := (blk_cell HB1.out 0).trans rfl; have hby : w1.cell? ⟨gb, 1, none⟩ = some (.int .i64 y) := (blk_cell HB1.out 1).trans rfl; have hbw : w1.cell? ⟨gb, 2, none⟩ = some (.int .i64 wd) := (blk_cell HB1.out 2).trans rfl; have hbh : w1.cell? ⟨gb, 3, none⟩ = some (.int .i64 (WD : Int)) := (blk_cell HB1.out 3).trans rfl; have hcn : w1.cell? ⟨gw, 0, none⟩ = some (.int .i64 n) := (blk_cell HD1.out.bn 0).trans rfl; have hfn := bf_ HD1.out.bn 0; clear hb hbox hgb) | ((with_reducible refine gate_store (t := 3) (p := 26) rfl ?_); refine store_event (t := 3) (p := 26) (v := ?vo_s) (w1 := (w1.setCell ⟨gw, 0, none⟩ (.int .i64 (wrap64 (n + 1))))) ?hg ?ho ?hn ?hr ?_; (case ho => rfl); (case hg => rfl); (case hn => rfl); (case hr => first | (go_simp; done) | (go_simp; rfl)); intro w2 hw; have HQQ := HD1.out.putn HG.out (wrap64 (n + 1)); rw [← hw] at HQQ; have HD2 := A_ HQQ.1; have HF2 := A_ (HF1.out.trans HQQ.2); have HB2 := A_ (HQQ.2.blk HB1.out GB.out.1 GB.out.2.1 GB.out.2.2); clear hw HQQ hbx hby hbw hbh hcn hfn HB1; have hbx : w2.cell? ⟨gb, 0, none⟩ = some (.int .i64 x) := (blk_cell HB2.out 0).trans rfl; have hby : w2.cell? ⟨gb, 1, none⟩ = some (.int .i64 y) := (blk_cell HB2.out 1).trans rfl; have hbw : w2.cell? ⟨gb, 2, none⟩ = some (.int .i64 wd) := (blk_cell HB2.out 2).trans rfl; have hbh : w2.cell? ⟨gb, 3, none⟩ = some (.int .i64 (WD : Int)) := (blk_cell HB2.out 3).trans rfl) | ((with_reducible refine gate_callee (f := 91) rfl ?_); refine gl_ 112 Try.func91 #[.pointer (some ⟨gc, 0, none⟩), .int .i64 (wrap64 (wd - 1))] ?_; refine (chooser_next.calls HG.out HD2.out (wrap64 (wd - 1)) p l1 HP.out).mono ?_; rintro e w3 ⟨rfl, ⟨A3, cap3, hd⟩, hfr⟩; refine ⟨_, rfl, ?_⟩; have HD3 := A_ hd; have HF3 := A_ (HF2.out.trans hfr); have HB3 := A_ (hfr.blk HB2.out GB.out.1 GB.out.2.1 GB.out.2.2); clear hd hfr hbx hby hbw hbh; have hbx : w3.cell? ⟨gb, 0, none⟩ = some (.int .i64 x) := (blk_cell HB3.out 0).trans rfl; have hby : w3.cell? ⟨gb, 1, none⟩ = some (.int .i64 y) := (blk_cell HB3.out 1).trans rfl; have hbw : w3.cell? ⟨gb, 2, none⟩ = some (.int .i64 wd) := (blk_cell HB3.out 2).trans rfl; have hbh : w3.cell? ⟨gb, 3, none⟩ = some (.int .i64 (WD : Int)) := (blk_cell HB3.out 3).trans rfl) | ((with_reducible refine gate_callee (f := 91) rfl ?_); refine gl_ 116 Try.func91 #[.pointer (some ⟨gc, 0, none⟩), .int .i64 (WD : Int)] ?_; refine (chooser_next.calls HG.out HD3.out (WD : Int) q l2 HQ.out).mono ?_; rintro e w4 ⟨rfl, ⟨A4, cap4, hd⟩, hfr⟩; refine ⟨_, rfl, ?_⟩; have HD4 := A_ hd; have HF4 := A_ (HF3.out.trans hfr); have HB4 := A_ (hfr.blk HB3.out GB.out.1 GB.out.2.1 GB.out.2.2); clear hd hfr hbx hby hbw hbh; have hbx : w4.cell? ⟨gb, 0, none⟩ = some (.int .i64 x) := (blk_cell HB4.out 0).trans rfl; have hby : w4.cell? ⟨gb, 1, none⟩ = some (.int .i64 y) := (blk_cell HB4.out 1).trans rfl; have hbw : w4.cell? ⟨gb, 2, none⟩ = some (.int .i64 wd) := (blk_cell HB4.out 2).trans rfl; have hbh : w4.cell? ⟨gb, 3, none⟩ = some (.int .i64 (WD : Int)) := (blk_cell HB4.out 3).trans rfl))
      clear hbx hby hbw hbh
      go_loopg [13] WD (fun gg v13 wr => ∃ (i : Nat) (b0 b1 b2 : Int), i ≤ WD ∧ WD - i ≤ gg ∧ v13 = .int .i64 i ∧ Aside0 (dv_loop k (fun a i => wrap64 (wrap64 (wrap64 (wrap64 (y + i) * a) + x) + p)) 1 q (WD - i) i b0 b1 b2 = some (m0, m1, m2)) ∧ Aside0 (DVS w0 gc gm gw b0 b1 b2 A4 cap4 l2 (wrap64 (n + 1)) wr) ∧ Aside0 (DFr gc gm gw W wr) ∧ Aside0 (wr.heap[gb]? = some (.cells #[.int .i64 x, .int .i64 y, .int .i64 wd, .int .i64 (WD : Int)] 123 (0, 0))))
      case atStart => exact ⟨0, a0, a1, a2, Nat.zero_le _, by omega, rfl, ⟨by have := HM.out; rwa [Int.toNat_natCast] at this⟩, HD4, HF4, HB4⟩
      case round =>
       clear HD4 HF4 HB4 HM
       obtain ⟨i, b0, b1, b2, hi1, hg, rfl, HM, HD5, HF5, HB5⟩ := hrel
       have hbx : wr.cell? ⟨gb, 0, none⟩ = some (.int .i64 x) := (blk_cell HB5.out 0).trans rfl
       have hby : wr.cell? ⟨gb, 1, none⟩ = some (.int .i64 y) := (blk_cell HB5.out 1).trans rfl
       have hbw : wr.cell? ⟨gb, 2, none⟩ = some (.int .i64 wd) := (blk_cell HB5.out 2).trans rfl
       have hbh : wr.cell? ⟨gb, 3, none⟩ = some (.int .i64 (WD : Int)) := (blk_cell HB5.out 3).trans rfl
       by_cases hlt : i < WD
       ·have hltz : (i : Int) < (WD : Int) := by omega
        have hltd : decide ((i : Int) < (WD : Int)) = true := decide_eq_true hltz
        obtain ⟨d, hd⟩ : ∃ d, WD - i = d + 1 := ⟨WD - i - 1, by omega⟩
        rcases dv_loop_at (by rw [← hd]; exact HM.out : dv_loop k _ 1 q (d + 1) i b0 b1 b2 = some (m0, m1, m2)) with ⟨hpq, hnext⟩ | ⟨hpq, g, t1, t2, t3, hg1, hg2, hnext⟩
        ·have hbn : ((i : Int) != q) = false := bne_eq_false_iff_eq.mpr hpq
         have HN := A_ hnext
         clear hnext hpq HM
         go_wp2
         go_roundg (WD - (i + 1))
         case measure => omega
         case rel => exact ⟨i + 1, b0, b1, b2, by omega, by omega, by go_num, ⟨by rw [show WD - (i + 1) = d by omega]; exact HN.out⟩, HD5, HF5, HB5⟩
        ·have hbn : ((i : Int) != q) = true := bne_iff_ne.mpr hpq
         have HN := A_ hnext
         have HG1 := A_ hg1
         have HG2 := A_ hg2
         clear hnext hpq HM hg1 hg2
         go_wp2
         have HD6 := A_ (HD5.out.below (below_drew1 (Below.refl _ _)))
         have HF6 := A_ (HF5.out.trans (DFr.below (below_drew1 (Below.refl _ _))))
         have HB6 := A_ (blk_drew HB5.out)
         clear HD5 HF5 HB5 hbx hby hbw hbh
         refine start_ (n := 27) (S := fun w' => w'.cell? ⟨gm, 0, none⟩ = some (.int .i64 b0) ∧ w'.cell? ⟨gm, 1, none⟩ = some (.int .i64 b1) ∧ w'.cell? ⟨gm, 2, none⟩ = some (.int .i64 b2) ∧ w'.cell? ⟨gb, 0, none⟩ = some (.int .i64 x) ∧ w'.cell? ⟨gb, 1, none⟩ = some (.int .i64 y)) (ds := [26]) #[false, false, false, false, false, false, false, false, false, false, false, false, false, false, false, false, false, false, false, false, false, false, false, false, false, false, false] (by kernel_rfl) rfl rfl ⟨(blk_cell HD6.out.bm 0).trans rfl, (blk_cell HD6.out.bm 1).trans rfl, (blk_cell HD6.out.bm 2).trans rfl, (blk_cell HB6.out 0).trans rfl, (blk_cell HB6.out 1).trans rfl⟩ (fun hHeld => ?_)
         refine with_tabW dvd.tab19 dvd.bits19 (fun HT_ HW_ => ?_)
         generalize wr.drew = w6 at HD6 HB6 HF6 hHeld ⊢
         refine pv_ 0 126 HT_ ?_; refine pv_ 1 127 HT_ ?_; refine pv_ 2 128 HT_ ?_; refine tv_ 3 129 rfl HT_ HW_ hHeld (by rintro w' ⟨s0, s1, s2, s3, s4⟩; go_simp; with_reducible rfl) ?_
         refine pv_ 4 130 HT_ ?_; refine pv_ 5 131 HT_ ?_; refine pv_ 6 132 HT_ ?_; refine tv_ 7 133 rfl HT_ HW_ hHeld (by rintro w' ⟨s0, s1, s2, s3, s4⟩; go_simp; with_reducible rfl) ?_
         refine pv_ 8 134 HT_ ?_; refine tv_ 9 135 rfl HT_ HW_ hHeld (by rintro w' ⟨s0, s1, s2, s3, s4⟩; go_simp; with_reducible rfl) ?_
         refine pv_ 10 136 HT_ ?_; refine pv_ 11 137 HT_ ?_; refine pv_ 12 138 HT_ ?_; refine pv_ 13 139 HT_ ?_; refine pv_ 14 140 HT_ ?_; refine pv_ 15 141 HT_ ?_; refine tv_ 16 142 rfl HT_ HW_ hHeld (by rintro w' ⟨s0, s1, s2, s3, s4⟩; go_simp; with_reducible rfl) ?_
         refine pv_ 17 143 HT_ ?_; refine pv_ 18 144 HT_ ?_; refine tv_ 19 145 rfl HT_ HW_ hHeld (by rintro w' ⟨s0, s1, s2, s3, s4⟩; go_simp; with_reducible rfl) ?_
         refine pv_ 20 146 HT_ ?_; refine pv_ 21 147 HT_ ?_; refine pv_ 22 148 HT_ ?_
         refine on_ 23 (some 149) rfl rfl HT_ (by kernel_rfl) (by decide) (fun K hK => ?_)
         refine gs_ Try.func123 #[.agg #[.int .i64 b0, .int .i64 b1], .int .i64 (wrap64 (wrap64 (wrap64 (wrap64 (y + (i : Int)) * b0) + x) + p)), .int .i64 1] ?_
         refine (impl_GapAt.calls k b0 b1 (wrap64 (wrap64 (wrap64 (wrap64 (y + (i : Int)) * b0) + x) + p)) 1 g _ HG1.out).mono ?_
         rintro e w7 ⟨rfl, hb⟩
         refine ⟨_, rfl, ?_⟩
         have HD7 := A_ (HD6.out.below hb)
         have HF7 := A_ (HF6.out.trans (DFr.below hb))
         have HB7 := A_ (blk_below HB6.out hb)
         clear hb hHeld HD6 HF6 HB6
         refine hK.out _ _ ⟨(blk_cell HD7.out.bm 0).trans rfl, (blk_cell HD7.out.bm 1).trans rfl, (blk_cell HD7.out.bm 2).trans rfl, (blk_cell HB7.out 0).trans rfl, (blk_cell HB7.out 1).trans rfl⟩ (fun hHeld => ?_)
         clear hK K
         refine norm_ (a' := ?_) ?_ ?_; rotate_left; (show Act.put _ (some 149) _ = _; simp only [P6_]; rfl)
         refine on_ 24 (some 150) rfl rfl HT_ (by kernel_rfl) (by decide) (fun K hK => ?_)
         refine gs_ Try.func92 #[.agg #[.int .i64 b0, .int .i64 b1, .int .i64 b2], .int .i64 g, .bool false] ?_
         refine (impl_with.calls b0 b1 b2 g false t1 t2 t3 _ HG2.out).mono ?_
         rintro e w8 ⟨rfl, hb⟩
         refine ⟨_, rfl, ?_⟩
         have HD8 := A_ (HD7.out.below hb)
         have HF8 := A_ (HF7.out.trans (DFr.below hb))
         have HB8 := A_ (blk_below HB7.out hb)
         clear hb hHeld HD7 HF7 HB7
         refine hK.out _ _ ⟨(blk_cell HD8.out.bm 0).trans rfl, (blk_cell HD8.out.bm 1).trans rfl, (blk_cell HD8.out.bm 2).trans rfl, (blk_cell HB8.out 0).trans rfl, (blk_cell HB8.out 1).trans rfl⟩ (fun hHeld => ?_)
         clear hK K
         refine norm_ (a' := ?_) ?_ ?_; rotate_left; (show Act.put _ (some 150) _ = _; simp only [P6_]; rfl)
         refine pv_ 25 151 HT_ ?_
         have hz0 := bf_ HD8.out.bm 0
         have hz1 := bf_ HD8.out.bm 1
         have hz2 := bf_ HD8.out.bm 2
         refine last_ (i := 26) (N := none) #[true, true, true, true, true, true, true, true, true, true, true, true, true, true, true, true, true, true, true, true, true, true, true, true, true, true, true] rfl rfl (one_of HT_.out (by kernel_rfl)) (by decide) (fun K hK => ?_)
         refine skip_ (w1 := ?_) (by rfl) rfl ?_ ?_
         rotate_left
         ·go_simp
          rfl
         refine hK.out _ _ ?_
         clear hK K
         refine done_ (done_of HT_.out (by kernel_rfl)) ?_
         try go_wp2
         have HPM := HD8.out.put3 HG.out t1 t2 t3
         have HD9 := A_ HPM.1
         have HF9 := A_ (HF8.out.trans HPM.2)
         have HB9 := A_ (HPM.2.blk HB8.out GB.out.1 GB.out.2.1 GB.out.2.2)
         clear HPM
         go_roundg (WD - (i + 1))
         case measure => omega
         case rel => exact ⟨i + 1, t1, t2, t3, by omega, by omega, by go_num, ⟨by rw [show WD - (i + 1) = d by omega]; exact HN.out⟩, HD9, HF9, HB9⟩
       ·have hltz : ¬ (i : Int) < (WD : Int) := by omega
        have hltd : decide ((i : Int) < (WD : Int)) = false := decide_eq_false hltz
        have hmm := HM.out
        rw [show WD - i = 0 by omega] at hmm
        unfold dv_loop at hmm
        have hmm := Option.some.inj hmm
        obtain ⟨rfl, rfl, rfl⟩ : b0 = m0 ∧ b1 = m1 ∧ b2 = m2 := by simpa using hmm
        clear hmm HM
        go_wp2_with (first | ((with_reducible refine gate_dst (N := 164) rfl ?_); refine gl_ 164 Try.func140 #[.pointer (some ⟨gc, 0, none⟩), .pointer (some ⟨gm, 0, none⟩), .agg #[.int .i64 x, .int .i64 y, .int .i64 (wrap64 (p + 1)), .int .i64 (WD : Int)], .pointer (some ⟨gw, 0, none⟩)] ?_; refine (HI.out _ _ _ _ _ _ _ _ _ _ _ _ _ HD5.out HR.out).mono ?_; rintro e w10 ⟨rfl, ⟨A10, cap10, hd⟩, hfr⟩; refine ⟨_, rfl, ?_⟩; have HD10 := A_ hd; have HF10 := A_ (HF5.out.trans hfr); have HB10 := A_ (hfr.blk HB5.out GB.out.1 GB.out.2.1 GB.out.2.2); clear hd hfr; (try clear hbx hby hbw hbh); have hbx : w10.cell? ⟨gb, 0, none⟩ = some (.int .i64 x) := (blk_cell HB10.out 0).trans rfl; have hby : w10.cell? ⟨gb, 1, none⟩ = some (.int .i64 y) := (blk_cell HB10.out 1).trans rfl; have hbw : w10.cell? ⟨gb, 2, none⟩ = some (.int .i64 wd) := (blk_cell HB10.out 2).trans rfl; have hbh : w10.cell? ⟨gb, 3, none⟩ = some (.int .i64 (WD : Int)) := (blk_cell HB10.out 3).trans rfl) | ((with_reducible refine gate_dst (N := 183) rfl ?_); refine gl_ 183 Try.func140 #[.pointer (some ⟨gc, 0, none⟩), .pointer (some ⟨gm, 0, none⟩), .agg #[.int .i64 (wrap64 (wrap64 (x + p) + 1)), .int .i64 y, .int .i64 (wrap64 (wrap64 (wd - p) - 1)), .int .i64 (WD : Int)], .pointer (some ⟨gw, 0, none⟩)] ?_; refine (HI.out _ _ _ _ _ _ _ _ _ _ _ _ _ HD10.out HF.out).mono ?_; rintro e w11 ⟨rfl, ⟨A11, cap11, hd⟩, hfr⟩; refine ⟨_, rfl, ?_⟩; have HD11 := A_ hd; have HF11 := A_ (HF10.out.trans hfr); have HB11 := A_ (hfr.blk HB10.out GB.out.1 GB.out.2.1 GB.out.2.2); clear hd hfr; (try clear hbx hby hbw hbh); have hbx : w11.cell? ⟨gb, 0, none⟩ = some (.int .i64 x) := (blk_cell HB11.out 0).trans rfl; have hby : w11.cell? ⟨gb, 1, none⟩ = some (.int .i64 y) := (blk_cell HB11.out 1).trans rfl; have hbw : w11.cell? ⟨gb, 2, none⟩ = some (.int .i64 wd) := (blk_cell HB11.out 2).trans rfl; have hbh : w11.cell? ⟨gb, 3, none⟩ = some (.int .i64 (WD : Int)) := (blk_cell HB11.out 3).trans rfl))
        go_end0
        exact ⟨rfl, ⟨_, _, HD11.out⟩, HF11.out⟩
     ·rw [if_neg e4] at hf; cases hf
def dvd99.T5 : Bool × List (List Nat × List Nat) := (true, [([], []), ([], []), ([0, 0], [0]), ([1, 2, 0, 1, 2], [1])])
def dvd99.B5 : List Nat := [0, 0, 1, 7]
theorem dvd99.tab5 : rtab .any (opsOf Try.f99 5) = dvd99.T5 := by kernel_rfl
theorem dvd99.bits5 : waitsOk dvd99.T5.2 dvd99.B5 = true := by kernel_rfl
def impl_divided.f (k : Nat) (a0_0 a0_1 : Int) (l1 : List Int) : Option (Int × Int × Int × Int) := (impl_GridOk.f a0_0 a0_1).bind fun t => (if t = true then ((impl_FullMaze.f a0_0 a0_1).bind fun m => (dv_f k m.1 m.2.1 m.2.2 0 0 a0_0 a0_1 l1 0).bind fun r => some (r.1.1, r.1.2.1, r.1.2.2, r.2.2)) else some (0, 0, 0, 0))
set_option maxHeartbeats 8000000 in
set_option maxRecDepth 100000 in
theorem impl_divided.calls (k : Nat) (a0_0 a0_1 : Int) (A1 : Option Addr) (c1 : Nat) (l1 : List Int) (r1 r2 r3 r4 : Int) (w : World) (hr1 : Kd.C (Kd.int .i64) w A1 l1.length l1) (hc1 : l1.length ≤ c1) (h : impl_divided.f k a0_0 a0_1 l1 = some (r1, r2, r3, r4)) :
  Calls Try.prog 99 #[.agg #[.int .i64 a0_0, .int .i64 a0_1], .slice A1 l1.length c1] w fun e w' => e = .returned (.tuple #[.agg #[.int .i64 r1, .int .i64 r2, .int .i64 r3], .int .i64 r4]) ∧ Below w.heap.size w w' := by
 have huM := Try.underlying27
 have huG := Try.underlying25
 have huC := Try.underlying89
 have huR := Try.underlying123
 obtain ⟨t, ht, H⟩ := Option.bind_eq_some_iff.1 h
 have HG := A_ ht
 have HR1 := A_ hr1
 clear h ht hr1
 cases t with
 | false =>
  obtain ⟨rfl, rfl, rfl, rfl⟩ : 0 = r1 ∧ 0 = r2 ∧ 0 = r3 ∧ 0 = r4 := by simpa using Option.some.inj H
  clear H
  go_enter Try.func99, Try.ntmps99
  go_wp2_with (first | ((with_reducible refine gate_dst (N := 2) rfl ?_); refine box_event ?hg2 (N := 2) ?hd2 (cs := #[.int .i64 a0_0, .int .i64 a0_1]) (t := 25) ?hr2 ?_; (case hd2 => rfl); (case hg2 => rfl); (case hr2 => first | (go_simp; done) | (go_simp; rfl)); intro gb hgb w1 hbox hb; have HBa := A_ hb; have KBa := A_ hbox; have GBs := A_ (show gb = w.heap.size from hgb); clear hb hbox hgb) | ((with_reducible refine gate_dst (N := 4) rfl ?_); refine box_event ?hg4 (N := 4) ?hd4 (cs := #[.int .i64 0, .int .i64 0, .int .i64 0]) (t := 27) ?hr4 ?_; (case hd4 => rfl); (case hg4 => rfl); (case hr4 => first | (go_simp; done) | (go_simp; rfl)); intro gr hgr w2 hbox hb; have HBb := A_ (HBa.out.trans (hb.mono HBa.out.size)); have KBb := A_ (blk_below KBa.out hb); have KRb := A_ hbox; have NR := A_ (show gb < gr from by rw [hgr]; exact blk_lt KBa.out); have GRb := A_ (show w.heap.size ≤ gr from by rw [hgr]; exact HBa.out.size); have hg0 : w2.cell? ⟨gb, 0, none⟩ = some (.int .i64 a0_0) := (blk_cell KBb.out 0).trans rfl; have hg1 : w2.cell? ⟨gb, 1, none⟩ = some (.int .i64 a0_1) := (blk_cell KBb.out 1).trans rfl; clear HBa KBa hb hbox hgr) | ((with_reducible refine gate_callee (f := 82) rfl ?_); refine gl_ 10 Try.func82 #[.agg #[.int .i64 a0_0, .int .i64 a0_1]] ?_; refine (impl_GridOk.calls a0_0 a0_1 false _ HG.out).mono ?_; rintro e w3 ⟨rfl, hb⟩; refine ⟨_, rfl, ?_⟩; have HBc := A_ (HBb.out.trans (hb.mono HBb.out.size)); have KBc := A_ (blk_below KBb.out hb); have KRc := A_ (blk_below KRb.out hb); clear hg0 hg1; have hg0 : w3.cell? ⟨gb, 0, none⟩ = some (.int .i64 a0_0) := (blk_cell KBc.out 0).trans rfl; have hg1 : w3.cell? ⟨gb, 1, none⟩ = some (.int .i64 a0_1) := (blk_cell KBc.out 1).trans rfl; have hfa := bf_ KRc.out 0; have hfb := bf_ KRc.out 1; have hfc := bf_ KRc.out 2; have hca := (blk_cell KRc.out 0).trans rfl; have hcb := (blk_cell KRc.out 1).trans rfl; have hcc := (blk_cell KRc.out 2).trans rfl; clear HBb KBb KRb hb))
  have KRz := blk_set (blk_set (blk_set KRc.out 0 (.int .i64 0)) 1 (.int .i64 0)) 2 (.int .i64 0)
  have HBz := ((HBc.out.setCell (p := ⟨gr, 0, none⟩) GRb.out (.int .i64 0)).setCell (p := ⟨gr, 1, none⟩) GRb.out (.int .i64 0)).setCell (p := ⟨gr, 2, none⟩) GRb.out (.int .i64 0)
  ((try simp only [Exit.inBlock, Exit.then]); refine bodyPost_ret (results_ct rfl _ _ gr 27 #[.int .i64 0, .int .i64 0, .int .i64 0] (0, 0) _ rfl KRz Try.underlying27 rfl (by kernel_rfl)) rfl ?_)
  exact ⟨rfl, HBz⟩
 | true =>
  rw [if_pos rfl] at H
  obtain ⟨⟨f1, f2, f3⟩, hf, H⟩ := Option.bind_eq_some_iff.1 H
  obtain ⟨⟨⟨m0, m1, m2⟩, l2, n2⟩, hd, H⟩ := Option.bind_eq_some_iff.1 H
  dsimp only at hd H
  obtain ⟨rfl, rfl, rfl, rfl⟩ : m0 = r1 ∧ m1 = r2 ∧ m2 = r3 ∧ n2 = r4 := by simpa using Option.some.inj H
  have HF := A_ hf
  have HD := A_ hd
  clear hf hd H
  go_enter Try.func99, Try.ntmps99
  go_wp2_with (first | ((with_reducible refine gate_dst (N := 2) rfl ?_); refine box_event ?hg2 (N := 2) ?hd2 (cs := #[.int .i64 a0_0, .int .i64 a0_1]) (t := 25) ?hr2 ?_; (case hd2 => rfl); (case hg2 => rfl); (case hr2 => first | (go_simp; done) | (go_simp; rfl)); intro gb hgb w1 hbox hb; have HBa := A_ hb; have KBa := A_ hbox; have GBs := A_ (show gb = w.heap.size from hgb); clear hb hbox hgb) | ((with_reducible refine gate_dst (N := 4) rfl ?_); refine box_event ?hg4 (N := 4) ?hd4 (cs := #[.int .i64 0, .int .i64 0, .int .i64 0]) (t := 27) ?hr4 ?_; (case hd4 => rfl); (case hg4 => rfl); (case hr4 => first | (go_simp; done) | (go_simp; rfl)); intro gr hgr w2 hbox hb; have HBb := A_ (HBa.out.trans (hb.mono HBa.out.size)); have KBb := A_ (blk_below KBa.out hb); have KRb := A_ hbox; have NR := A_ (show gb < gr from by rw [hgr]; exact blk_lt KBa.out); have GRb := A_ (show w.heap.size ≤ gr from by rw [hgr]; exact HBa.out.size); have hg0 : w2.cell? ⟨gb, 0, none⟩ = some (.int .i64 a0_0) := (blk_cell KBb.out 0).trans rfl; have hg1 : w2.cell? ⟨gb, 1, none⟩ = some (.int .i64 a0_1) := (blk_cell KBb.out 1).trans rfl; clear HBa KBa hb hbox hgr) | ((with_reducible refine gate_callee (f := 82) rfl ?_); refine gl_ 10 Try.func82 #[.agg #[.int .i64 a0_0, .int .i64 a0_1]] ?_; refine (impl_GridOk.calls a0_0 a0_1 true _ HG.out).mono ?_; rintro e w3 ⟨rfl, hb⟩; refine ⟨_, rfl, ?_⟩; have HBc := A_ (HBb.out.trans (hb.mono HBb.out.size)); have KBc := A_ (blk_below KBb.out hb); have KRc := A_ (blk_below KRb.out hb); clear hg0 hg1; have hg0 : w3.cell? ⟨gb, 0, none⟩ = some (.int .i64 a0_0) := (blk_cell KBc.out 0).trans rfl; have hg1 : w3.cell? ⟨gb, 1, none⟩ = some (.int .i64 a0_1) := (blk_cell KBc.out 1).trans rfl; clear HBb KBb KRb hb) | ((with_reducible refine gate_callee (f := 47) rfl ?_); refine gl_ 14 Try.func47 #[.agg #[.int .i64 a0_0, .int .i64 a0_1]] ?_; refine (impl_FullMaze.calls a0_0 a0_1 f1 f2 f3 _ HF.out).mono ?_; rintro e w4 ⟨rfl, hb⟩; refine ⟨_, rfl, ?_⟩; have HBd := A_ (HBc.out.trans (hb.mono HBc.out.size)); have KBd := A_ (blk_below KBc.out hb); have KRd := A_ (blk_below KRc.out hb); clear hg0 hg1 HBc KBc KRc hb) | ((with_reducible refine gate_dst (N := 17) rfl ?_); refine box_event ?hg17 (N := 17) ?hd17 (cs := #[.slice A1 l1.length c1]) (t := 89) ?hr17 ?_; (case hd17 => rfl); (case hg17 => rfl); (case hr17 => first | (go_simp; done) | (go_simp; rfl)); intro gc hgc w5 hbox hb; have HBe := A_ (HBd.out.trans (hb.mono HBd.out.size)); have KBe := A_ (blk_below KBd.out hb); have KRe := A_ (blk_below KRd.out hb); have KCe := A_ hbox; have NC := A_ (show gr < gc from by rw [hgc]; exact blk_lt KRd.out); clear HBd KBd KRd hb hbox hgc) | ((with_reducible refine gate_dst (N := 6) rfl ?_); refine box_event ?hg6 (N := 6) ?hd6 (cs := #[.int .i64 0, .int .i64 0, .int .i64 0]) (t := 27) ?hr6 ?_; (case hd6 => rfl); (case hg6 => rfl); (case hr6 => first | (go_simp; done) | (go_simp; rfl)); intro gm hgm w6 hbox hb; have HBf := A_ (HBe.out.trans (hb.mono HBe.out.size)); have KBf := A_ (blk_below KBe.out hb); have KRf := A_ (blk_below KRe.out hb); have KCf := A_ (blk_below KCe.out hb); have KMf := A_ hbox; have NM := A_ (show gc < gm from by rw [hgm]; exact blk_lt KCe.out); clear HBe KBe KRe KCe hb hbox hgm) | ((with_reducible refine gate_dst (N := 7) rfl ?_); refine box_event ?hg7 (N := 7) ?hd7 (cs := #[.int .i64 0]) (t := 3) ?hr7 ?_; (case hd7 => rfl); (case hg7 => rfl); (case hr7 => first | (go_simp; done) | (go_simp; rfl)); intro gw hgw w7 hbox hb; have HBg := A_ (HBf.out.trans (hb.mono HBf.out.size)); have KBg := A_ (blk_below KBf.out hb); have KRg := A_ (blk_below KRf.out hb); have KCg := A_ (blk_below KCf.out hb); have KMg := A_ (blk_below KMf.out hb); have KWg := A_ hbox; have NW := A_ (show gm < gw from by rw [hgw]; exact blk_lt KMf.out); have hfa := bf_ KMg.out 0; have hfb := bf_ KMg.out 1; have hfc := bf_ KMg.out 2; have hca := (blk_cell KMg.out 0); have hcb := (blk_cell KMg.out 1); have hcc := (blk_cell KMg.out 2); clear HBf KBf KRf KCf KMf hb hbox hgw) | ((with_reducible refine gate_store (t := 27) (p := 6) rfl ?_); refine store_event (t := 27) (p := 6) (v := ?vo_m) (w1 := (((w7.setCell ⟨gm, 0, none⟩ (.int .i64 f1)).setCell ⟨gm, 1, none⟩ (.int .i64 f2)).setCell ⟨gm, 2, none⟩ (.int .i64 f3))) ?hgm6 ?hom6 ?hnm6 ?hrm6 ?_; (case hom6 => rfl); (case hgm6 => rfl); (case hnm6 => rfl); (case hrm6 => first | (go_simp; done) | (go_simp; rfl)); intro w8 hw; have HDG := A_ (show DVG w gc gm gw from ⟨by have := GBs.out; have := NR.out; have := NC.out; omega, by have := GBs.out; have := NR.out; have := NC.out; have := NM.out; omega, by have := GBs.out; have := NR.out; have := NC.out; have := NM.out; have := NW.out; omega, by have := NM.out; omega, by have := NM.out; have := NW.out; omega, by have := NW.out; omega⟩); have HQQ := DVS.put3 (show DVS w gc gm gw 0 0 0 A1 c1 l1 0 w7 from ⟨HBg.out, KCg.out, KMg.out, KWg.out, HR1.out, hc1⟩) HDG.out f1 f2 f3; rw [← hw] at HQQ; have HV8 := A_ HQQ.1; have KB8 := A_ (HQQ.2.blk KBg.out (by have := NR.out; have := NC.out; omega) (by have := NR.out; have := NC.out; have := NM.out; omega) (by have := NR.out; have := NC.out; have := NM.out; have := NW.out; omega)); have KR8 := A_ (HQQ.2.blk KRg.out (by have := NC.out; omega) (by have := NC.out; have := NM.out; omega) (by have := NC.out; have := NM.out; have := NW.out; omega)); have hfw := bf_ HV8.out.bn 0; have hcw := blk_cell HV8.out.bn 0; clear hw HQQ hfa hfb hfc hca hcb hcc HBg KBg KRg KCg KMg KWg) | ((with_reducible refine gate_store (t := 3) (p := 7) rfl ?_); refine store_event (t := 3) (p := 7) (v := ?vo_w) (w1 := (w8.setCell ⟨gw, 0, none⟩ (.int .i64 0))) ?hgm7 ?hom7 ?hnm7 ?hrm7 ?_; (case hom7 => rfl); (case hgm7 => rfl); (case hnm7 => rfl); (case hrm7 => first | (go_simp; done) | (go_simp; rfl)); intro w9 hw; have HQQ := HV8.out.putn HDG.out 0; rw [← hw] at HQQ; have HV9 := A_ HQQ.1; have KB9 := A_ (HQQ.2.blk KB8.out (by have := NR.out; have := NC.out; omega) (by have := NR.out; have := NC.out; have := NM.out; omega) (by have := NR.out; have := NC.out; have := NM.out; have := NW.out; omega)); have KR9 := A_ (HQQ.2.blk KR8.out (by have := NC.out; omega) (by have := NC.out; have := NM.out; omega) (by have := NC.out; have := NM.out; have := NW.out; omega)); have hg0 : w9.cell? ⟨gb, 0, none⟩ = some (.int .i64 a0_0) := (blk_cell KB9.out 0).trans rfl; have hg1 : w9.cell? ⟨gb, 1, none⟩ = some (.int .i64 a0_1) := (blk_cell KB9.out 1).trans rfl; clear hw HQQ hfw hcw HV8 KB8 KR8) | ((with_reducible refine gate_dst (N := 24) rfl ?_); refine gl_ 24 Try.func140 #[.pointer (some ⟨gc, 0, none⟩), .pointer (some ⟨gm, 0, none⟩), .agg #[.int .i64 0, .int .i64 0, .int .i64 a0_0, .int .i64 a0_1], .pointer (some ⟨gw, 0, none⟩)] ?_; refine (dv_calls HDG.out _ _ _ _ _ _ _ _ _ _ _ _ _ _ HV9.out HD.out).mono ?_; rintro e w10 ⟨rfl, ⟨A', cap', hd⟩, hfr⟩; refine ⟨_, rfl, ?_⟩; have HV10 := A_ hd; have KR10 := A_ (hfr.blk KR9.out (by have := NC.out; omega) (by have := NC.out; have := NM.out; omega) (by have := NC.out; have := NM.out; have := NW.out; omega)); clear hd hfr hg0 hg1 HV9 KB9 KR9))
  have HV11 := A_ (HV10.out.below (below_drew1 (Below.refl _ _)))
  have KR11 := A_ (blk_drew KR10.out)
  have NRM := A_ (show gr ≠ gm by have := NC.out; have := NM.out; omega)
  have NRW := A_ (show gr ≠ gw by have := NC.out; have := NM.out; have := NW.out; omega)
  refine start_ (n := 4) (S := fun w' => w'.cell? ⟨gm, 0, none⟩ = some (.int .i64 m0) ∧ w'.cell? ⟨gm, 1, none⟩ = some (.int .i64 m1) ∧ w'.cell? ⟨gm, 2, none⟩ = some (.int .i64 m2) ∧ w'.cell? ⟨gw, 0, none⟩ = some (.int .i64 n2)) (ds := []) #[false, false, false, false] (by kernel_rfl) rfl rfl ⟨(blk_cell HV11.out.bm 0).trans rfl, (blk_cell HV11.out.bm 1).trans rfl, (blk_cell HV11.out.bm 2).trans rfl, (blk_cell HV11.out.bn 0).trans rfl⟩ (fun hHeld => ?_)
  refine with_tabW dvd99.tab5 dvd99.bits5 (fun HT_ HW_ => ?_)
  generalize w10.drew = w11 at HV11 KR11 hHeld ⊢; refine tv_ 0 25 rfl HT_ HW_ hHeld (by rintro w' ⟨s0, s1, s2, s3⟩; go_simp; with_reducible rfl) ?_
  refine tv_ 1 26 rfl HT_ HW_ hHeld (by rintro w' ⟨s0, s1, s2, s3⟩; go_simp; with_reducible rfl) ?_
  have hk0 := (blk_cell KR11.out 0).trans rfl
  have hk1 := (blk_cell KR11.out 1).trans rfl
  have hk2 := (blk_cell KR11.out 2).trans rfl
  have hz0 := bf_ KR11.out 0
  have hz1 := bf_ KR11.out 1
  have hz2 := bf_ KR11.out 2
  have KM12 := A_ (blk_far (p := ⟨gr, 2, none⟩) (blk_far (p := ⟨gr, 1, none⟩) (blk_far (p := ⟨gr, 0, none⟩) HV11.out.bm (Ne.symm NRM.out) (.int .i64 m0)) (Ne.symm NRM.out) (.int .i64 m1)) (Ne.symm NRM.out) (.int .i64 m2))
  have KW12 := A_ (blk_far (p := ⟨gr, 2, none⟩) (blk_far (p := ⟨gr, 1, none⟩) (blk_far (p := ⟨gr, 0, none⟩) HV11.out.bn (Ne.symm NRW.out) (.int .i64 m0)) (Ne.symm NRW.out) (.int .i64 m1)) (Ne.symm NRW.out) (.int .i64 m2))
  have KR12 := A_ (blk_set (blk_set (blk_set KR11.out 0 (.int .i64 m0)) 1 (.int .i64 m1)) 2 (.int .i64 m2))
  have HB12 := A_ (((HV11.out.bel.setCell (p := ⟨gr, 0, none⟩) GRb.out (.int .i64 m0)).setCell (p := ⟨gr, 1, none⟩) GRb.out (.int .i64 m1)).setCell (p := ⟨gr, 2, none⟩) GRb.out (.int .i64 m2))
  refine one_ (i := 2) (N := none) #[true, true, true, false] rfl rfl (one_of HT_.out (by kernel_rfl)) (by decide) (fun K hK => ?_)
  refine skip_ (w1 := ?_) (by rfl) rfl ?_ ?_
  rotate_left
  ·go_simp
   rfl
  refine hK.out _ _ ⟨(blk_cell KM12.out 0).trans rfl, (blk_cell KM12.out 1).trans rfl, (blk_cell KM12.out 2).trans rfl, (blk_cell KW12.out 0).trans rfl⟩ (fun hHeld => ?_)
  clear hK K; refine pv_ 3 5 HT_ ?_
  refine done_ (done_of HT_.out (by kernel_rfl)) ?_
  try go_wp2
  ((try simp only [Exit.inBlock, Exit.then]); refine bodyPost_ret (results_ct rfl _ _ gr 27 #[.int .i64 m0, .int .i64 m1, .int .i64 m2] (0, 0) _ rfl KR12.out Try.underlying27 rfl (by kernel_rfl)) rfl ?_)
  exact ⟨rfl, HB12.out⟩

end Go.Proofs.Ytbeajmcjfhbcjaa.P
namespace Go.Proofs.Ytbeajmcjfhbcjaa.P
open Go.RowKit Go.Proofs.YtbeajmcjfhbcjaaW.PrintWords Go.Proofs.YtbeajmcjfhbcjaaW.PrintLast Go.Proofs.YtbeajmcjfhbcjaaW.PrintMore
attribute [local go_sem] max2_int min2_int max_two min_two max_three min_three max_four min_four   -- for this text's walks alone
set_option linter.unusedVariables false
set_option linter.unusedSimpArgs false

def impl_DivideMaze.f (k : Nat) (a0_0 : Int) (a0_1 : Int) (l1 : List Int) : Option (Int × Int × Int) := (impl_divided.f k a0_0 a0_1 l1).bind fun bt103 => (some (bt103.1, bt103.2.1, bt103.2.2.1))
set_option maxHeartbeats 8000000 in
set_option maxRecDepth 100000 in
theorem impl_DivideMaze.calls (k : Nat) (a0_0 : Int) (a0_1 : Int) (A1 : Option Addr) (c1 : Nat) (l1 : List Int) (r1 : Int) (r2 : Int) (r3 : Int) (w : World) (hr1 : Kd.C (Kd.int .i64) w A1 l1.length l1) (hc1 : l1.length ≤ c1) (h : impl_DivideMaze.f k a0_0 a0_1 l1 = some (r1, r2, r3)) :
  Calls Try.prog 43 #[.agg #[.int .i64 a0_0, .int .i64 a0_1], .slice A1 l1.length c1] w fun e w' => e = .returned (.agg #[.int .i64 r1, .int .i64 r2, .int .i64 r3]) ∧ Below w.heap.size w w' := by
 have hu25 := Try.underlying25
 have hu27 := Try.underlying27
 have HR1 := A_ hr1
 have HC1 := A_ hc1
 clear hr1 hc1
 have HB := A_ (Below.refl w.heap.size w)
 have H : ((impl_divided.f k a0_0 a0_1 l1).bind fun bt103 => (some (bt103.1, bt103.2.1, bt103.2.2.1))) = some (r1, r2, r3) := h
 clear h
 obtain ⟨⟨t103, t104, t105, t106⟩, A30, H⟩ := oB_ H
 (try dsimp only at H); have A3 := A_ A30; clear A30
 simp only [Option.some.injEq, Prod.mk.injEq] at H
 obtain ⟨rfl, rfl, rfl⟩ := H
 go_enter Try.func43, Try.ntmps43
 go_wp2_with (first | ((with_reducible refine gate_dst (N := 2) rfl ?_); refine box_event ?hg (N := 2) ?hd (cs := #[.int .i64 a0_0, .int .i64 a0_1]) (t := 25) ?hr ?_; (case hd => rfl); (case hg => rfl); (case hr => first | (go_simp; done) | (go_simp; rfl)); intro gb101 hg w4 hbox hb; have n0_ := A_ (below_step (by repeat first | exact HB.1 | apply bA_ | apply bB_ | apply bC_) hb); have n1_ := A_ (hbox); have n2_ := A_ ((by rw [hg]; exact (below_size (by repeat first | exact HB.1 | apply bA_ | apply bB_ | apply bC_)) : w.heap.size ≤ gb101)); have n3_ := n2_; clear HB; have HB := n0_; have BK101 := n1_; have GW101 := n2_; have GE101 := n3_; clear n0_ n1_ n2_ n3_ hb hbox hg) | ((with_reducible refine gate_dst (N := 4) rfl ?_); refine box_event ?hg (N := 4) ?hd (cs := #[.int .i64 0, .int .i64 0, .int .i64 0]) (t := 27) ?hr ?_; (case hd => rfl); (case hg => rfl); (case hr => first | (go_simp; done) | (go_simp; rfl)); intro gb102 hg w5 hbox hb; have n0_ := A_ (blk_below (g := gb101) (o := .cells #[.int .i64 a0_0, .int .i64 a0_1] 25 (0, 0)) (by (with_reducible repeat first | refine cA_ ?_ _ | refine cB_ ?_ | refine cC_ ?_ _); exact BK101.1) hb); have n1_ := A_ (below_step (by repeat first | exact HB.1 | apply bA_ | apply bB_ | apply bC_ | refine below_set ?_ GE101.out) hb); have n2_ := A_ (hbox); have n3_ := A_ ((by rw [hg]; exact (below_size (by repeat first | exact HB.1 | apply bA_ | apply bB_ | apply bC_ | refine below_set ?_ GE101.out)) : w.heap.size ≤ gb102)); have n4_ := n3_; have n5_ := A_ ((by rw [hg]; exact Nat.ne_of_lt (blk_lt (g := gb101) (o := .cells #[.int .i64 a0_0, .int .i64 a0_1] 25 (0, 0)) (by (with_reducible repeat first | refine cA_ ?_ _ | refine cB_ ?_ | refine cC_ ?_ _); exact BK101.1)) : gb101 ≠ gb102)); have n6_ := A_ ((by rw [hg]; exact Nat.ne_of_gt (blk_lt (g := gb101) (o := .cells #[.int .i64 a0_0, .int .i64 a0_1] 25 (0, 0)) (by (with_reducible repeat first | refine cA_ ?_ _ | refine cB_ ?_ | refine cC_ ?_ _); exact BK101.1)) : gb102 ≠ gb101)); clear BK101 HB; have BK101 := n0_; have HB := n1_; have BK102 := n2_; have GW102 := n3_; have GE102 := n4_; have NB101_102 := n5_; have NB102_101 := n6_; clear n0_ n1_ n2_ n3_ n4_ n5_ n6_ hb hbox hg; have hnb6 := NB101_102.out; have hnc6 := NB102_101.out; obtain ⟨hcz7_0, hcz7_1⟩ := kk2_ BK101.1; have hfz7_0 := bf_ BK101.out 0; have hfz7_1 := bf_ BK101.out 1) | ((with_reducible refine gate_callee (f := 99) rfl ?_); refine gl_ 10 Try.func99 #[.agg #[.int .i64 a0_0, .int .i64 a0_1], .slice A1 l1.length c1] ?_; (with_reducible refine (impl_divided.calls k a0_0 a0_1 _ _ l1 t103 t104 t105 t106 _ ?side1 ?side2 A3.out).mono ?_); (case side1 => repeat (first | exact (Kd.C_below HR1.out HB.out) | (with_reducible refine Kd.C_alloc ?_ _) | (with_reducible refine Kd.C_drewN ?_ _) | (with_reducible refine Kd.C_drew ?_))); (case side2 => exact HC1.out); rintro e w8 ⟨rfl, hb⟩; refine ⟨_, rfl, ?_⟩; have n0_ := A_ (blk_below (g := gb101) (o := .cells #[.int .i64 a0_0, .int .i64 a0_1] 25 (0, 0)) (by (with_reducible repeat first | refine cA_ ?_ _ | refine cB_ ?_ | refine cC_ ?_ _); exact BK101.1) hb); have n1_ := A_ (blk_below (g := gb102) (o := .cells #[.int .i64 0, .int .i64 0, .int .i64 0] 27 (0, 0)) (by (with_reducible repeat first | refine cA_ ?_ _ | refine cB_ ?_ | refine cC_ ?_ _); exact BK102.1) hb); have n2_ := A_ (below_step (by repeat first | exact HB.1 | apply bA_ | apply bB_ | apply bC_ | refine below_set ?_ GE101.out | refine below_set ?_ GE102.out) hb); clear BK101 BK102 HB; have BK101 := n0_; have BK102 := n1_; have HB := n2_; clear n0_ n1_ n2_; (try clear hb); (try clear hk)) | ((with_reducible refine gate_dst (N := 5) rfl ?_); refine box_event ?hg (N := 5) ?hd (cs := #[.int .i64 0, .int .i64 0, .int .i64 0]) (t := 27) ?hr ?_; (case hd => rfl); (case hg => rfl); (case hr => first | (go_simp; done) | (go_simp; rfl)); intro gb107 hg w9 hbox hb; have n0_ := A_ (blk_below (g := gb101) (o := .cells #[.int .i64 a0_0, .int .i64 a0_1] 25 (0, 0)) (by (with_reducible repeat first | refine cA_ ?_ _ | refine cB_ ?_ | refine cC_ ?_ _); exact BK101.1) hb); have n1_ := A_ (blk_below (g := gb102) (o := .cells #[.int .i64 0, .int .i64 0, .int .i64 0] 27 (0, 0)) (by (with_reducible repeat first | refine cA_ ?_ _ | refine cB_ ?_ | refine cC_ ?_ _); exact BK102.1) hb); have n2_ := A_ (below_step (by repeat first | exact HB.1 | apply bA_ | apply bB_ | apply bC_ | refine below_set ?_ GE101.out | refine below_set ?_ GE102.out) hb); have n3_ := A_ (hbox); have n4_ := A_ ((by rw [hg]; exact (below_size (by repeat first | exact HB.1 | apply bA_ | apply bB_ | apply bC_ | refine below_set ?_ GE101.out | refine below_set ?_ GE102.out)) : w.heap.size ≤ gb107)); have n5_ := n4_; have n6_ := A_ ((by rw [hg]; exact Nat.ne_of_lt (blk_lt (g := gb101) (o := .cells #[.int .i64 a0_0, .int .i64 a0_1] 25 (0, 0)) (by (with_reducible repeat first | refine cA_ ?_ _ | refine cB_ ?_ | refine cC_ ?_ _); exact BK101.1)) : gb101 ≠ gb107)); have n7_ := A_ ((by rw [hg]; exact Nat.ne_of_gt (blk_lt (g := gb101) (o := .cells #[.int .i64 a0_0, .int .i64 a0_1] 25 (0, 0)) (by (with_reducible repeat first | refine cA_ ?_ _ | refine cB_ ?_ | refine cC_ ?_ _); exact BK101.1)) : gb107 ≠ gb101)); have n8_ := A_ ((by rw [hg]; exact Nat.ne_of_lt (blk_lt (g := gb102) (o := .cells #[.int .i64 0, .int .i64 0, .int .i64 0] 27 (0, 0)) (by (with_reducible repeat first | refine cA_ ?_ _ | refine cB_ ?_ | refine cC_ ?_ _); exact BK102.1)) : gb102 ≠ gb107)); have n9_ := A_ ((by rw [hg]; exact Nat.ne_of_gt (blk_lt (g := gb102) (o := .cells #[.int .i64 0, .int .i64 0, .int .i64 0] 27 (0, 0)) (by (with_reducible repeat first | refine cA_ ?_ _ | refine cB_ ?_ | refine cC_ ?_ _); exact BK102.1)) : gb107 ≠ gb102)); clear BK101 BK102 HB; have BK101 := n0_; have BK102 := n1_; have HB := n2_; have BK107 := n3_; have GW107 := n4_; have GE107 := n5_; have NB101_107 := n6_; have NB107_101 := n7_; have NB102_107 := n8_; have NB107_102 := n9_; clear n0_ n1_ n2_ n3_ n4_ n5_ n6_ n7_ n8_ n9_ hb hbox hg; have hnb10 := NB107_101.out; have hnc10 := NB101_107.out; have hnb11 := NB107_102.out; have hnc11 := NB102_107.out; obtain ⟨hcz12_0, hcz12_1, hcz12_2⟩ := kk3_ BK107.1; have hfz12_0 := bf_ BK107.out 0; have hfz12_1 := bf_ BK107.out 1; have hfz12_2 := bf_ BK107.out 2; obtain ⟨hcz13_0, hcz13_1, hcz13_2⟩ := kk3_ BK102.1; have hfz13_0 := bf_ BK102.out 0; have hfz13_1 := bf_ BK102.out 1; have hfz13_2 := bf_ BK102.out 2))
 refine bodyPost_ret (results_cell_row rfl _ _ gb102 27 #[.int .i64 t103, .int .i64 t104, .int .i64 t105] (0, 0) _ rfl (by (with_reducible repeat (first | refine blk_drewN ?_ _ | refine blk_drew ?_ | refine blk_alloc ?_ _)); refine blk_put (cs := #[.int .i64 t103, .int .i64 t104, .int .i64 0]) ?_ 2 _ rfl; (with_reducible repeat (first | refine blk_drewN ?_ _ | refine blk_drew ?_ | refine blk_alloc ?_ _)); refine blk_put (cs := #[.int .i64 t103, .int .i64 0, .int .i64 0]) ?_ 1 _ rfl; (with_reducible repeat (first | refine blk_drewN ?_ _ | refine blk_drew ?_ | refine blk_alloc ?_ _)); refine blk_put (cs := #[.int .i64 0, .int .i64 0, .int .i64 0]) ?_ 0 _ rfl; (with_reducible repeat (first | refine blk_drewN ?_ _ | refine blk_drew ?_ | refine blk_alloc ?_ _)); refine blk_far ?_ NB102_107.out _; (with_reducible repeat (first | refine blk_drewN ?_ _ | refine blk_drew ?_ | refine blk_alloc ?_ _)); refine blk_far ?_ NB102_107.out _; (with_reducible repeat (first | refine blk_drewN ?_ _ | refine blk_drew ?_ | refine blk_alloc ?_ _)); refine blk_far ?_ NB102_107.out _; (with_reducible repeat (first | refine blk_drewN ?_ _ | refine blk_drew ?_ | refine blk_alloc ?_ _)); exact BK102.out) Try.underlying27 rfl (by kernel_rfl)) rfl ?_
 exact ⟨by first | rfl | (simp [errW_none, errW_some] <;> rfl) | (simp [*, errW_none, errW_some] <;> rfl), by repeat (first | (with_reducible first | exact HB.out | apply below_alloc | apply pw_below_drewN | apply below_drew1 | refine below_set ?_ GE101.out | refine below_set ?_ GE102.out | refine below_set ?_ GE107.out) | exact HB.out)⟩

def laws_FnExactDivideMaze.f (k : Nat) (a0_0 : Int) (a0_1 : Int) (l1 : List Int) : Option (Bool) := if (l1.length : Int) > 1048576 then (some true) else ((laws_toGrid.f a0_0 a0_1).bind fun bt102 => ((laws_toIntS.f k l1).bind fun t104 => ((spec_DivideMaze.f k bt102.1 bt102.2 t104).bind fun bt107 => ((laws_toIntS.f k l1).bind fun t111 => ((laws_toGrid.f a0_0 a0_1).bind fun bt114 => ((impl_DivideMaze.f k bt114.1 bt114.2 t111).bind fun bt116 => ((laws_eqMaze.f bt116.1 bt116.2.1 bt116.2.2 bt107.1 bt107.2.1 bt107.2.2).bind fun t120 => (if t120 = true then ((laws_toIntS.f k l1).bind fun t121 => ((laws_eqIntS.f k t111 t121).bind fun t124 => (if t124 = true then (some true) else (some false)))) else (some false)))))))))
set_option maxHeartbeats 8000000 in
set_option maxRecDepth 100000 in
theorem laws_FnExactDivideMaze.calls (k : Nat) (a0_0 : Int) (a0_1 : Int) (A1 : Option Addr) (c1 : Nat) (l1 : List Int) (r : Bool) (w : World) (hr1 : Kd.C (Kd.int .i64) w A1 l1.length l1) (hc1 : l1.length ≤ c1) (h : laws_FnExactDivideMaze.f k a0_0 a0_1 l1 = some r) :
  Calls Try.prog 9 #[.agg #[.int .i64 a0_0, .int .i64 a0_1], .slice A1 l1.length c1] w fun e w' => e = .returned (.bool r) ∧ Below w.heap.size w w' := by
 have hu31 := Try.underlying31
 have hu27 := Try.underlying27
 have HR1 := A_ hr1
 have HC1 := A_ hc1
 clear hr1 hc1
 have HB := A_ (Below.refl w.heap.size w)
 have H : (if (l1.length : Int) > 1048576 then (some true) else ((laws_toGrid.f a0_0 a0_1).bind fun bt102 => ((laws_toIntS.f k l1).bind fun t104 => ((spec_DivideMaze.f k bt102.1 bt102.2 t104).bind fun bt107 => ((laws_toIntS.f k l1).bind fun t111 => ((laws_toGrid.f a0_0 a0_1).bind fun bt114 => ((impl_DivideMaze.f k bt114.1 bt114.2 t111).bind fun bt116 => ((laws_eqMaze.f bt116.1 bt116.2.1 bt116.2.2 bt107.1 bt107.2.1 bt107.2.2).bind fun t120 => (if t120 = true then ((laws_toIntS.f k l1).bind fun t121 => ((laws_eqIntS.f k t111 t121).bind fun t124 => (if t124 = true then (some true) else (some false)))) else (some false)))))))))) = some r := h
 clear h
 by_cases c3 : (l1.length : Int) > 1048576
 ·rw [if_pos c3] at H
  have c3b0 : decide (1048576 < (l1.length : Int)) = true := decide_eq_true c3
  have c3b1 : decide (1048576 < l1.length) = true := decide_eq_true (by omega)
  clear c3
  obtain rfl := Option.some.inj H
  go_enter Try.func9, Try.ntmps9
  go_wp2_with (first | ((with_reducible refine gate_dst (N := 2) rfl ?_); refine box_event ?hg (N := 2) ?hd (cs := #[.int .i64 a0_0, .int .i64 a0_1]) (t := 31) ?hr ?_; (case hd => rfl); (case hg => rfl); (case hr => first | (go_simp; done) | (go_simp; rfl)); intro gb101 hg w4 hbox hb; have n0_ := A_ (below_step (by repeat first | exact HB.1 | apply bA_ | apply bB_ | apply bC_) hb); have n1_ := A_ (hbox); have n2_ := A_ ((by rw [hg]; exact (below_size (by repeat first | exact HB.1 | apply bA_ | apply bB_ | apply bC_)) : w.heap.size ≤ gb101)); have n3_ := n2_; clear HB; have HB := n0_; have BK101 := n1_; have GW101 := n2_; have GE101 := n3_; clear n0_ n1_ n2_ n3_ hb hbox hg))
  go_ret
  exact ⟨by first | rfl | (simp [errW_none, errW_some] <;> rfl) | (simp [*, errW_none, errW_some] <;> rfl), by repeat (first | (with_reducible first | exact HB.out | apply below_alloc | apply pw_below_drewN | apply below_drew1 | refine below_set ?_ GE101.out) | exact HB.out)⟩
 ·rw [if_neg c3] at H
  have c3b0 : decide (1048576 < (l1.length : Int)) = false := decide_eq_false c3
  have c3b1 : decide (1048576 < l1.length) = false := decide_eq_false (by omega)
  clear c3
  obtain ⟨⟨t102, t103⟩, A50, H⟩ := oB_ H
  (try dsimp only at H); have A5 := A_ A50; clear A50
  obtain ⟨t104, A60, H⟩ := oB_ H
  (try dsimp only at H); have A6 := A_ A60; clear A60
  obtain ⟨⟨t107, t108, t109⟩, A70, H⟩ := oB_ H
  (try dsimp only at H); have A7 := A_ A70; clear A70
  obtain ⟨t111, A80, H⟩ := oB_ H
  (try dsimp only at H); have A8 := A_ A80; clear A80
  obtain ⟨⟨t114, t115⟩, A90, H⟩ := oB_ H
  (try dsimp only at H); have A9 := A_ A90; clear A90
  obtain ⟨⟨t116, t117, t118⟩, A100, H⟩ := oB_ H
  (try dsimp only at H); have A10 := A_ A100; clear A100
  obtain ⟨t120, A110, H⟩ := oB_ H
  (try dsimp only at H); have A11 := A_ A110; clear A110
  by_cases c12 : t120 = true
  ·subst c12
   rw [if_pos rfl] at H
   obtain ⟨t121, A130, H⟩ := oB_ H
   (try dsimp only at H); have A13 := A_ A130; clear A130
   obtain ⟨t124, A140, H⟩ := oB_ H
   (try dsimp only at H); have A14 := A_ A140; clear A140
   by_cases c15 : t124 = true
   ·subst c15
    rw [if_pos rfl] at H
    obtain rfl := Option.some.inj H
    go_enter Try.func9, Try.ntmps9
    go_wp2_with (first | ((with_reducible refine gate_dst (N := 2) rfl ?_); refine box_event ?hg (N := 2) ?hd (cs := #[.int .i64 a0_0, .int .i64 a0_1]) (t := 31) ?hr ?_; (case hd => rfl); (case hg => rfl); (case hr => first | (go_simp; done) | (go_simp; rfl)); intro gb101 hg w16 hbox hb; have n0_ := A_ (below_step (by repeat first | exact HB.1 | apply bA_ | apply bB_ | apply bC_) hb); have n1_ := A_ (hbox); have n2_ := A_ ((by rw [hg]; exact (below_size (by repeat first | exact HB.1 | apply bA_ | apply bB_ | apply bC_)) : w.heap.size ≤ gb101)); have n3_ := n2_; clear HB; have HB := n0_; have BK101 := n1_; have GW101 := n2_; have GE101 := n3_; clear n0_ n1_ n2_ n3_ hb hbox hg; obtain ⟨hcz17_0, hcz17_1⟩ := kk2_ BK101.1; have hfz17_0 := bf_ BK101.out 0; have hfz17_1 := bf_ BK101.out 1) | ((with_reducible refine gate_callee (f := 25) rfl ?_); refine gl_ 12 Try.func25 #[.agg #[.int .i64 a0_0, .int .i64 a0_1]] ?_; (with_reducible refine (laws_toGrid.calls a0_0 a0_1 t102 t103 _ A5.out).mono ?_); rintro e w18 ⟨rfl, hb⟩; (try clear A5); refine ⟨_, rfl, ?_⟩; have n0_ := A_ (blk_below (g := gb101) (o := .cells #[.int .i64 a0_0, .int .i64 a0_1] 31 (0, 0)) (by (with_reducible repeat first | refine cA_ ?_ _ | refine cB_ ?_ | refine cC_ ?_ _); exact BK101.1) hb); have n1_ := A_ (below_step (by repeat first | exact HB.1 | apply bA_ | apply bB_ | apply bC_ | refine below_set ?_ GE101.out) hb); clear BK101 HB; have BK101 := n0_; have HB := n1_; clear n0_ n1_; (try clear hb); (try clear hk)) | ((with_reducible refine gate_callee (f := 30) rfl ?_); refine gl_ 14 Try.func30 #[.slice A1 l1.length c1] ?_; (with_reducible refine (laws_toIntS.calls k _ _ l1 t104 _ ?side1 ?side2 A6.out).mono ?_); (case side1 => repeat (first | exact (Kd.C_below HR1.out HB.out) | (with_reducible refine Kd.C_alloc ?_ _) | (with_reducible refine Kd.C_drewN ?_ _) | (with_reducible refine Kd.C_drew ?_))); (case side2 => exact HC1.out); rintro e w19 ⟨v105, rfl, ho0, hb⟩; (try clear A6); refine ⟨_, rfl, ?_⟩; have n0_ := A_ (Kd.R_lower ho0 (below_size (by repeat first | exact HB.1 | apply bA_ | apply bB_ | apply bC_ | refine below_set ?_ GE101.out))); have n1_ := A_ (blk_below (g := gb101) (o := .cells #[.int .i64 a0_0, .int .i64 a0_1] 31 (0, 0)) (by (with_reducible repeat first | refine cA_ ?_ _ | refine cB_ ?_ | refine cC_ ?_ _); exact BK101.1) hb); have n2_ := A_ (below_step (by repeat first | exact HB.1 | apply bA_ | apply bB_ | apply bC_ | refine below_set ?_ GE101.out) hb); clear BK101 HB; have HO106 := n0_; have BK101 := n1_; have HB := n2_; clear n0_ n1_ n2_; (try clear hb); (try clear hk); (try clear ho0); obtain ⟨Ao20, co20, eo20⟩ := Kd.R_slice HO106.out; subst eo20) | ((with_reducible refine gate_callee (f := 42) rfl ?_); refine gl_ 15 Try.func42 #[.agg #[.int .i64 t102, .int .i64 t103], .slice Ao20 t104.length co20] ?_; (with_reducible refine (spec_DivideMaze.calls k t102 t103 _ _ t104 t107 t108 t109 _ ?side1 ?side2 A7.out).mono ?_); (case side1 => repeat (first | exact (Kd.R_reads' HO106.out).2.2 | (with_reducible refine Kd.C_alloc ?_ _) | (with_reducible refine Kd.C_drewN ?_ _) | (with_reducible refine Kd.C_drew ?_))); (case side2 => exact (Kd.R_reads' HO106.out).2.1); rintro e w21 ⟨rfl, hb⟩; (try clear A7); refine ⟨_, rfl, ?_⟩; have n0_ := A_ (Kd.R_below (by (with_reducible repeat (first | apply Kd.R_alloc | apply Kd.R_drewN | apply Kd.R_drew)); exact HO106.out) hb); have n1_ := A_ (blk_below (g := gb101) (o := .cells #[.int .i64 a0_0, .int .i64 a0_1] 31 (0, 0)) (by (with_reducible repeat first | refine cA_ ?_ _ | refine cB_ ?_ | refine cC_ ?_ _); exact BK101.1) hb); have n2_ := A_ (below_step (by repeat first | exact HB.1 | apply bA_ | apply bB_ | apply bC_ | refine below_set ?_ GE101.out) hb); clear HO106 BK101 HB; have HO106 := n0_; have BK101 := n1_; have HB := n2_; clear n0_ n1_ n2_; (try clear hb); (try clear hk)) | ((with_reducible refine gate_dst (N := 5) rfl ?_); refine box_event ?hg (N := 5) ?hd (cs := #[.int .i64 0, .int .i64 0, .int .i64 0]) (t := 27) ?hr ?_; (case hd => rfl); (case hg => rfl); (case hr => first | (go_simp; done) | (go_simp; rfl)); intro gb110 hg w22 hbox hb; have n0_ := A_ (Kd.R_below (by (with_reducible repeat (first | apply Kd.R_alloc | apply Kd.R_drewN | apply Kd.R_drew)); exact HO106.out) hb); have n1_ := A_ (blk_below (g := gb101) (o := .cells #[.int .i64 a0_0, .int .i64 a0_1] 31 (0, 0)) (by (with_reducible repeat first | refine cA_ ?_ _ | refine cB_ ?_ | refine cC_ ?_ _); exact BK101.1) hb); have n2_ := A_ (below_step (by repeat first | exact HB.1 | apply bA_ | apply bB_ | apply bC_ | refine below_set ?_ GE101.out) hb); have n3_ := A_ (hbox); have n4_ := A_ ((by rw [hg]; exact (below_size (by repeat first | exact HB.1 | apply bA_ | apply bB_ | apply bC_ | refine below_set ?_ GE101.out)) : w.heap.size ≤ gb110)); have n5_ := n4_; have n6_ := A_ ((by rw [hg]; exact Nat.ne_of_lt (blk_lt (g := gb101) (o := .cells #[.int .i64 a0_0, .int .i64 a0_1] 31 (0, 0)) (by (with_reducible repeat first | refine cA_ ?_ _ | refine cB_ ?_ | refine cC_ ?_ _); exact BK101.1)) : gb101 ≠ gb110)); have n7_ := A_ ((by rw [hg]; exact Nat.ne_of_gt (blk_lt (g := gb101) (o := .cells #[.int .i64 a0_0, .int .i64 a0_1] 31 (0, 0)) (by (with_reducible repeat first | refine cA_ ?_ _ | refine cB_ ?_ | refine cC_ ?_ _); exact BK101.1)) : gb110 ≠ gb101)); clear HO106 BK101 HB; have HO106 := n0_; have BK101 := n1_; have HB := n2_; have BK110 := n3_; have GW110 := n4_; have GE110 := n5_; have NB101_110 := n6_; have NB110_101 := n7_; clear n0_ n1_ n2_ n3_ n4_ n5_ n6_ n7_ hb hbox hg; have hnb23 := NB110_101.out; have hnc23 := NB101_110.out; obtain ⟨hcz24_0, hcz24_1, hcz24_2⟩ := kk3_ BK110.1; have hfz24_0 := bf_ BK110.out 0; have hfz24_1 := bf_ BK110.out 1; have hfz24_2 := bf_ BK110.out 2) | ((with_reducible refine gate_callee (f := 30) rfl ?_); refine gl_ 17 Try.func30 #[.slice A1 l1.length c1] ?_; (with_reducible refine (laws_toIntS.calls k _ _ l1 t111 _ ?side1 ?side2 A8.out).mono ?_); (case side1 => exact Kd.C_below HR1.out (by repeat first | exact HB.1 | apply bA_ | apply bB_ | apply bC_ | refine below_set ?_ GE101.out | refine below_set ?_ GE110.out)); (case side2 => exact HC1.out); rintro e w25 ⟨v112, rfl, ho0, hb⟩; (try clear A8); refine ⟨_, rfl, ?_⟩; have n0_ := A_ (Kd.R_elder' (by (with_reducible repeat (first | apply Kd.R_alloc | apply Kd.R_drewN | apply Kd.R_drew)); exact (Kd.R_mono (Kd.R_far (p := ⟨gb110, 2, none⟩) (Kd.R_far (p := ⟨gb110, 1, none⟩) (Kd.R_far (p := ⟨gb110, 0, none⟩) (Kd.R_types HO106.out BK110.out (by decide)) (fun _ hk => hk.2) (.int .i64 t107)) (fun _ hk => hk.2) (.int .i64 t108)) (fun _ hk => hk.2) (.int .i64 t109)) (fun _ h_ => h_.1))) (Kd.R_base ho0) hb); have n1_ := A_ (Kd.R_lower (Kd.R_new' ho0 (Kd.R_lt (by (with_reducible repeat (first | apply Kd.R_alloc | apply Kd.R_drewN | apply Kd.R_drew)); exact (Kd.R_mono (Kd.R_far (p := ⟨gb110, 2, none⟩) (Kd.R_far (p := ⟨gb110, 1, none⟩) (Kd.R_far (p := ⟨gb110, 0, none⟩) (Kd.R_types HO106.out BK110.out (by decide)) (fun _ hk => hk.2) (.int .i64 t107)) (fun _ hk => hk.2) (.int .i64 t108)) (fun _ hk => hk.2) (.int .i64 t109)) (fun _ h_ => h_.1))))) (below_size (by repeat first | exact HB.1 | apply bA_ | apply bB_ | apply bC_ | refine below_set ?_ GE101.out | refine below_set ?_ GE110.out))); have n2_ := A_ (blk_below (g := gb101) (o := .cells #[.int .i64 a0_0, .int .i64 a0_1] 31 (0, 0)) (by (with_reducible repeat (first | refine blk_drewN ?_ _ | refine blk_drew ?_ | refine blk_alloc ?_ _)); refine blk_far ?_ NB101_110.out _; (with_reducible repeat (first | refine blk_drewN ?_ _ | refine blk_drew ?_ | refine blk_alloc ?_ _)); refine blk_far ?_ NB101_110.out _; (with_reducible repeat (first | refine blk_drewN ?_ _ | refine blk_drew ?_ | refine blk_alloc ?_ _)); refine blk_far ?_ NB101_110.out _; (with_reducible repeat (first | refine blk_drewN ?_ _ | refine blk_drew ?_ | refine blk_alloc ?_ _)); exact BK101.out) hb); have n3_ := A_ (blk_below (g := gb110) (o := .cells #[.int .i64 t107, .int .i64 t108, .int .i64 t109] 27 (0, 0)) (by (with_reducible repeat (first | refine blk_drewN ?_ _ | refine blk_drew ?_ | refine blk_alloc ?_ _)); refine blk_put (cs := #[.int .i64 t107, .int .i64 t108, .int .i64 0]) ?_ 2 _ rfl; (with_reducible repeat (first | refine blk_drewN ?_ _ | refine blk_drew ?_ | refine blk_alloc ?_ _)); refine blk_put (cs := #[.int .i64 t107, .int .i64 0, .int .i64 0]) ?_ 1 _ rfl; (with_reducible repeat (first | refine blk_drewN ?_ _ | refine blk_drew ?_ | refine blk_alloc ?_ _)); refine blk_put (cs := #[.int .i64 0, .int .i64 0, .int .i64 0]) ?_ 0 _ rfl; (with_reducible repeat (first | refine blk_drewN ?_ _ | refine blk_drew ?_ | refine blk_alloc ?_ _)); exact BK110.out) hb); have n4_ := A_ (below_step (by repeat first | exact HB.1 | apply bA_ | apply bB_ | apply bC_ | refine below_set ?_ GE101.out | refine below_set ?_ GE110.out) hb); clear HO106 BK101 BK110 HB; have HO106 := n0_; have HO113 := n1_; have BK101 := n2_; have BK110 := n3_; have HB := n4_; clear n0_ n1_ n2_ n3_ n4_; (try clear hb); (try clear hk); (try clear ho0); obtain ⟨hcz26_0, hcz26_1⟩ := kk2_ BK101.1; have hfz26_0 := bf_ BK101.out 0; have hfz26_1 := bf_ BK101.out 1) | ((with_reducible refine gate_callee (f := 25) rfl ?_); refine gl_ 19 Try.func25 #[.agg #[.int .i64 a0_0, .int .i64 a0_1]] ?_; (with_reducible refine (laws_toGrid.calls a0_0 a0_1 t114 t115 _ A9.out).mono ?_); rintro e w27 ⟨rfl, hb⟩; (try clear A9); refine ⟨_, rfl, ?_⟩; have n0_ := A_ (Kd.R_below (by (with_reducible repeat (first | apply Kd.R_alloc | apply Kd.R_drewN | apply Kd.R_drew)); exact HO106.out) hb); have n1_ := A_ (Kd.R_below (by (with_reducible repeat (first | apply Kd.R_alloc | apply Kd.R_drewN | apply Kd.R_drew)); exact HO113.out) hb); have n2_ := A_ (blk_below (g := gb101) (o := .cells #[.int .i64 a0_0, .int .i64 a0_1] 31 (0, 0)) (by (with_reducible repeat first | refine cA_ ?_ _ | refine cB_ ?_ | refine cC_ ?_ _); exact BK101.1) hb); have n3_ := A_ (blk_below (g := gb110) (o := .cells #[.int .i64 t107, .int .i64 t108, .int .i64 t109] 27 (0, 0)) (by (with_reducible repeat first | refine cA_ ?_ _ | refine cB_ ?_ | refine cC_ ?_ _); exact BK110.1) hb); have n4_ := A_ (below_step (by repeat first | exact HB.1 | apply bA_ | apply bB_ | apply bC_ | refine below_set ?_ GE101.out | refine below_set ?_ GE110.out) hb); clear HO106 HO113 BK101 BK110 HB; have HO106 := n0_; have HO113 := n1_; have BK101 := n2_; have BK110 := n3_; have HB := n4_; clear n0_ n1_ n2_ n3_ n4_; (try clear hb); (try clear hk); obtain ⟨Ao28, co28, eo28⟩ := Kd.R_slice HO113.out; subst eo28) | ((with_reducible refine gate_callee (f := 43) rfl ?_); refine gl_ 21 Try.func43 #[.agg #[.int .i64 t114, .int .i64 t115], .slice Ao28 t111.length co28] ?_; (with_reducible refine (impl_DivideMaze.calls k t114 t115 _ _ t111 t116 t117 t118 _ ?side1 ?side2 A10.out).mono ?_); (case side1 => repeat (first | exact (Kd.R_reads' HO113.out).2.2 | (with_reducible refine Kd.C_alloc ?_ _) | (with_reducible refine Kd.C_drewN ?_ _) | (with_reducible refine Kd.C_drew ?_))); (case side2 => exact (Kd.R_reads' HO113.out).2.1); rintro e w29 ⟨rfl, hb⟩; (try clear A10); refine ⟨_, rfl, ?_⟩; have n0_ := A_ (Kd.R_below (by (with_reducible repeat (first | apply Kd.R_alloc | apply Kd.R_drewN | apply Kd.R_drew)); exact HO106.out) hb); have n1_ := A_ (Kd.R_below (by (with_reducible repeat (first | apply Kd.R_alloc | apply Kd.R_drewN | apply Kd.R_drew)); exact HO113.out) hb); have n2_ := A_ (blk_below (g := gb101) (o := .cells #[.int .i64 a0_0, .int .i64 a0_1] 31 (0, 0)) (by (with_reducible repeat first | refine cA_ ?_ _ | refine cB_ ?_ | refine cC_ ?_ _); exact BK101.1) hb); have n3_ := A_ (blk_below (g := gb110) (o := .cells #[.int .i64 t107, .int .i64 t108, .int .i64 t109] 27 (0, 0)) (by (with_reducible repeat first | refine cA_ ?_ _ | refine cB_ ?_ | refine cC_ ?_ _); exact BK110.1) hb); have n4_ := A_ (below_step (by repeat first | exact HB.1 | apply bA_ | apply bB_ | apply bC_ | refine below_set ?_ GE101.out | refine below_set ?_ GE110.out) hb); clear HO106 HO113 BK101 BK110 HB; have HO106 := n0_; have HO113 := n1_; have BK101 := n2_; have BK110 := n3_; have HB := n4_; clear n0_ n1_ n2_ n3_ n4_; (try clear hb); (try clear hk)) | ((with_reducible refine gate_dst (N := 7) rfl ?_); refine box_event ?hg (N := 7) ?hd (cs := #[.int .i64 0, .int .i64 0, .int .i64 0]) (t := 27) ?hr ?_; (case hd => rfl); (case hg => rfl); (case hr => first | (go_simp; done) | (go_simp; rfl)); intro gb119 hg w30 hbox hb; have n0_ := A_ (Kd.R_below (by (with_reducible repeat (first | apply Kd.R_alloc | apply Kd.R_drewN | apply Kd.R_drew)); exact HO106.out) hb); have n1_ := A_ (Kd.R_below (by (with_reducible repeat (first | apply Kd.R_alloc | apply Kd.R_drewN | apply Kd.R_drew)); exact HO113.out) hb); have n2_ := A_ (blk_below (g := gb101) (o := .cells #[.int .i64 a0_0, .int .i64 a0_1] 31 (0, 0)) (by (with_reducible repeat first | refine cA_ ?_ _ | refine cB_ ?_ | refine cC_ ?_ _); exact BK101.1) hb); have n3_ := A_ (blk_below (g := gb110) (o := .cells #[.int .i64 t107, .int .i64 t108, .int .i64 t109] 27 (0, 0)) (by (with_reducible repeat first | refine cA_ ?_ _ | refine cB_ ?_ | refine cC_ ?_ _); exact BK110.1) hb); have n4_ := A_ (below_step (by repeat first | exact HB.1 | apply bA_ | apply bB_ | apply bC_ | refine below_set ?_ GE101.out | refine below_set ?_ GE110.out) hb); have n5_ := A_ (hbox); have n6_ := A_ ((by rw [hg]; exact (below_size (by repeat first | exact HB.1 | apply bA_ | apply bB_ | apply bC_ | refine below_set ?_ GE101.out | refine below_set ?_ GE110.out)) : w.heap.size ≤ gb119)); have n7_ := n6_; have n8_ := A_ ((by rw [hg]; exact Nat.ne_of_lt (blk_lt (g := gb101) (o := .cells #[.int .i64 a0_0, .int .i64 a0_1] 31 (0, 0)) (by (with_reducible repeat first | refine cA_ ?_ _ | refine cB_ ?_ | refine cC_ ?_ _); exact BK101.1)) : gb101 ≠ gb119)); have n9_ := A_ ((by rw [hg]; exact Nat.ne_of_gt (blk_lt (g := gb101) (o := .cells #[.int .i64 a0_0, .int .i64 a0_1] 31 (0, 0)) (by (with_reducible repeat first | refine cA_ ?_ _ | refine cB_ ?_ | refine cC_ ?_ _); exact BK101.1)) : gb119 ≠ gb101)); have n10_ := A_ ((by rw [hg]; exact Nat.ne_of_lt (blk_lt (g := gb110) (o := .cells #[.int .i64 t107, .int .i64 t108, .int .i64 t109] 27 (0, 0)) (by (with_reducible repeat first | refine cA_ ?_ _ | refine cB_ ?_ | refine cC_ ?_ _); exact BK110.1)) : gb110 ≠ gb119)); have n11_ := A_ ((by rw [hg]; exact Nat.ne_of_gt (blk_lt (g := gb110) (o := .cells #[.int .i64 t107, .int .i64 t108, .int .i64 t109] 27 (0, 0)) (by (with_reducible repeat first | refine cA_ ?_ _ | refine cB_ ?_ | refine cC_ ?_ _); exact BK110.1)) : gb119 ≠ gb110)); clear HO106 HO113 BK101 BK110 HB; have HO106 := n0_; have HO113 := n1_; have BK101 := n2_; have BK110 := n3_; have HB := n4_; have BK119 := n5_; have GW119 := n6_; have GE119 := n7_; have NB101_119 := n8_; have NB119_101 := n9_; have NB110_119 := n10_; have NB119_110 := n11_; clear n0_ n1_ n2_ n3_ n4_ n5_ n6_ n7_ n8_ n9_ n10_ n11_ hb hbox hg; have hnb31 := NB119_101.out; have hnc31 := NB101_119.out; have hnb32 := NB119_110.out; have hnc32 := NB110_119.out; obtain ⟨hcz33_0, hcz33_1, hcz33_2⟩ := kk3_ BK119.1; have hfz33_0 := bf_ BK119.out 0; have hfz33_1 := bf_ BK119.out 1; have hfz33_2 := bf_ BK119.out 2; obtain ⟨hcz34_0, hcz34_1, hcz34_2⟩ := kk3_ BK110.1; have hfz34_0 := bf_ BK110.out 0; have hfz34_1 := bf_ BK110.out 1; have hfz34_2 := bf_ BK110.out 2) | ((with_reducible refine gate_callee (f := 32) rfl ?_); refine gl_ 24 Try.func32 #[.agg #[.int .i64 t116, .int .i64 t117, .int .i64 t118], .agg #[.int .i64 t107, .int .i64 t108, .int .i64 t109]] ?_; (with_reducible refine (laws_eqMaze.calls t116 t117 t118 t107 t108 t109 true _ A11.out).mono ?_); rintro e w35 ⟨rfl, hb⟩; (try clear A11); refine ⟨_, rfl, ?_⟩; have n0_ := A_ (Kd.R_below (by (with_reducible repeat (first | apply Kd.R_alloc | apply Kd.R_drewN | apply Kd.R_drew)); exact (Kd.R_mono (Kd.R_far (p := ⟨gb119, 2, none⟩) (Kd.R_far (p := ⟨gb119, 1, none⟩) (Kd.R_far (p := ⟨gb119, 0, none⟩) (Kd.R_types HO106.out BK119.out (by decide)) (fun _ hk => hk.2) (.int .i64 t116)) (fun _ hk => hk.2) (.int .i64 t117)) (fun _ hk => hk.2) (.int .i64 t118)) (fun _ h_ => h_.1))) hb); have n1_ := A_ (Kd.R_below (by (with_reducible repeat (first | apply Kd.R_alloc | apply Kd.R_drewN | apply Kd.R_drew)); exact (Kd.R_mono (Kd.R_far (p := ⟨gb119, 2, none⟩) (Kd.R_far (p := ⟨gb119, 1, none⟩) (Kd.R_far (p := ⟨gb119, 0, none⟩) (Kd.R_types HO113.out BK119.out (by decide)) (fun _ hk => hk.2) (.int .i64 t116)) (fun _ hk => hk.2) (.int .i64 t117)) (fun _ hk => hk.2) (.int .i64 t118)) (fun _ h_ => h_.1))) hb); have n2_ := A_ (blk_below (g := gb101) (o := .cells #[.int .i64 a0_0, .int .i64 a0_1] 31 (0, 0)) (by (with_reducible repeat (first | refine blk_drewN ?_ _ | refine blk_drew ?_ | refine blk_alloc ?_ _)); refine blk_far ?_ NB101_119.out _; (with_reducible repeat (first | refine blk_drewN ?_ _ | refine blk_drew ?_ | refine blk_alloc ?_ _)); refine blk_far ?_ NB101_119.out _; (with_reducible repeat (first | refine blk_drewN ?_ _ | refine blk_drew ?_ | refine blk_alloc ?_ _)); refine blk_far ?_ NB101_119.out _; (with_reducible repeat (first | refine blk_drewN ?_ _ | refine blk_drew ?_ | refine blk_alloc ?_ _)); exact BK101.out) hb); have n3_ := A_ (blk_below (g := gb110) (o := .cells #[.int .i64 t107, .int .i64 t108, .int .i64 t109] 27 (0, 0)) (by (with_reducible repeat (first | refine blk_drewN ?_ _ | refine blk_drew ?_ | refine blk_alloc ?_ _)); refine blk_far ?_ NB110_119.out _; (with_reducible repeat (first | refine blk_drewN ?_ _ | refine blk_drew ?_ | refine blk_alloc ?_ _)); refine blk_far ?_ NB110_119.out _; (with_reducible repeat (first | refine blk_drewN ?_ _ | refine blk_drew ?_ | refine blk_alloc ?_ _)); refine blk_far ?_ NB110_119.out _; (with_reducible repeat (first | refine blk_drewN ?_ _ | refine blk_drew ?_ | refine blk_alloc ?_ _)); exact BK110.out) hb); have n4_ := A_ (blk_below (g := gb119) (o := .cells #[.int .i64 t116, .int .i64 t117, .int .i64 t118] 27 (0, 0)) (by (with_reducible repeat (first | refine blk_drewN ?_ _ | refine blk_drew ?_ | refine blk_alloc ?_ _)); refine blk_put (cs := #[.int .i64 t116, .int .i64 t117, .int .i64 0]) ?_ 2 _ rfl; (with_reducible repeat (first | refine blk_drewN ?_ _ | refine blk_drew ?_ | refine blk_alloc ?_ _)); refine blk_put (cs := #[.int .i64 t116, .int .i64 0, .int .i64 0]) ?_ 1 _ rfl; (with_reducible repeat (first | refine blk_drewN ?_ _ | refine blk_drew ?_ | refine blk_alloc ?_ _)); refine blk_put (cs := #[.int .i64 0, .int .i64 0, .int .i64 0]) ?_ 0 _ rfl; (with_reducible repeat (first | refine blk_drewN ?_ _ | refine blk_drew ?_ | refine blk_alloc ?_ _)); exact BK119.out) hb); have n5_ := A_ (below_step (by repeat first | exact HB.1 | apply bA_ | apply bB_ | apply bC_ | refine below_set ?_ GE101.out | refine below_set ?_ GE110.out | refine below_set ?_ GE119.out) hb); clear HO106 HO113 BK101 BK110 BK119 HB; have HO106 := n0_; have HO113 := n1_; have BK101 := n2_; have BK110 := n3_; have BK119 := n4_; have HB := n5_; clear n0_ n1_ n2_ n3_ n4_ n5_; (try clear hb); (try clear hk)) | ((with_reducible refine gate_callee (f := 30) rfl ?_); refine gl_ 28 Try.func30 #[.slice A1 l1.length c1] ?_; (with_reducible refine (laws_toIntS.calls k _ _ l1 t121 _ ?side1 ?side2 A13.out).mono ?_); (case side1 => repeat (first | exact (Kd.C_below HR1.out HB.out) | (with_reducible refine Kd.C_alloc ?_ _) | (with_reducible refine Kd.C_drewN ?_ _) | (with_reducible refine Kd.C_drew ?_))); (case side2 => exact HC1.out); rintro e w36 ⟨v122, rfl, ho0, hb⟩; (try clear A13); refine ⟨_, rfl, ?_⟩; have n0_ := A_ (Kd.R_elder' (by (with_reducible repeat (first | apply Kd.R_alloc | apply Kd.R_drewN | apply Kd.R_drew)); exact HO106.out) (Kd.R_base ho0) hb); have n1_ := A_ (Kd.R_elder' (by (with_reducible repeat (first | apply Kd.R_alloc | apply Kd.R_drewN | apply Kd.R_drew)); exact HO113.out) (Kd.R_base ho0) hb); have n2_ := A_ (Kd.R_lower (Kd.R_new' (Kd.R_new' ho0 (Kd.R_lt (by (with_reducible repeat (first | apply Kd.R_alloc | apply Kd.R_drewN | apply Kd.R_drew)); exact HO106.out))) (Kd.R_lt (by (with_reducible repeat (first | apply Kd.R_alloc | apply Kd.R_drewN | apply Kd.R_drew)); exact HO113.out))) (below_size (by repeat first | exact HB.1 | apply bA_ | apply bB_ | apply bC_ | refine below_set ?_ GE101.out | refine below_set ?_ GE110.out | refine below_set ?_ GE119.out))); have n3_ := A_ (blk_below (g := gb101) (o := .cells #[.int .i64 a0_0, .int .i64 a0_1] 31 (0, 0)) (by (with_reducible repeat first | refine cA_ ?_ _ | refine cB_ ?_ | refine cC_ ?_ _); exact BK101.1) hb); have n4_ := A_ (blk_below (g := gb110) (o := .cells #[.int .i64 t107, .int .i64 t108, .int .i64 t109] 27 (0, 0)) (by (with_reducible repeat first | refine cA_ ?_ _ | refine cB_ ?_ | refine cC_ ?_ _); exact BK110.1) hb); have n5_ := A_ (blk_below (g := gb119) (o := .cells #[.int .i64 t116, .int .i64 t117, .int .i64 t118] 27 (0, 0)) (by (with_reducible repeat first | refine cA_ ?_ _ | refine cB_ ?_ | refine cC_ ?_ _); exact BK119.1) hb); have n6_ := A_ (below_step (by repeat first | exact HB.1 | apply bA_ | apply bB_ | apply bC_ | refine below_set ?_ GE101.out | refine below_set ?_ GE110.out | refine below_set ?_ GE119.out) hb); clear HO106 HO113 BK101 BK110 BK119 HB; have HO106 := n0_; have HO113 := n1_; have HO123 := n2_; have BK101 := n3_; have BK110 := n4_; have BK119 := n5_; have HB := n6_; clear n0_ n1_ n2_ n3_ n4_ n5_ n6_; (try clear hb); (try clear hk); (try clear ho0); obtain ⟨Ao37, co37, eo37⟩ := Kd.R_slice HO123.out; subst eo37) | ((with_reducible refine gate_callee (f := 33) rfl ?_); refine gl_ 29 Try.func33 #[.slice Ao28 t111.length co28, .slice Ao37 t121.length co37] ?_; (with_reducible refine (laws_eqIntS.calls k _ _ t111 _ _ t121 true _ ?side1 ?side2 ?side3 ?side4 A14.out).mono ?_); (case side1 => repeat (first | exact (Kd.R_reads' HO113.out).2.2 | (with_reducible refine Kd.C_alloc ?_ _) | (with_reducible refine Kd.C_drewN ?_ _) | (with_reducible refine Kd.C_drew ?_))); (case side2 => exact (Kd.R_reads' HO113.out).2.1); (case side3 => repeat (first | exact (Kd.R_reads' HO123.out).2.2 | (with_reducible refine Kd.C_alloc ?_ _) | (with_reducible refine Kd.C_drewN ?_ _) | (with_reducible refine Kd.C_drew ?_))); (case side4 => exact (Kd.R_reads' HO123.out).2.1); rintro e w' ⟨rfl, ⟨nd, rfl⟩⟩; (try clear A14); refine ⟨_, rfl, ?_⟩))
    go_ret
    exact ⟨by first | rfl | (simp [errW_none, errW_some] <;> rfl) | (simp [*, errW_none, errW_some] <;> rfl), by repeat (first | (with_reducible first | exact HB.out | apply below_alloc | apply pw_below_drewN | apply below_drew1 | refine below_set ?_ GE101.out | refine below_set ?_ GE110.out | refine below_set ?_ GE119.out) | exact HB.out)⟩
   ·replace c15 := Bool.eq_false_iff.mpr c15
    subst c15
    have H1 : (some false) = some r := by rw [if_neg (show ¬ (false = true) by decide)] at H; exact H
    clear H
    have H := H1
    clear H1
    obtain rfl := Option.some.inj H
    go_enter Try.func9, Try.ntmps9
    go_wp2_with (first | ((with_reducible refine gate_dst (N := 2) rfl ?_); refine box_event ?hg (N := 2) ?hd (cs := #[.int .i64 a0_0, .int .i64 a0_1]) (t := 31) ?hr ?_; (case hd => rfl); (case hg => rfl); (case hr => first | (go_simp; done) | (go_simp; rfl)); intro gb101 hg w38 hbox hb; have n0_ := A_ (below_step (by repeat first | exact HB.1 | apply bA_ | apply bB_ | apply bC_) hb); have n1_ := A_ (hbox); have n2_ := A_ ((by rw [hg]; exact (below_size (by repeat first | exact HB.1 | apply bA_ | apply bB_ | apply bC_)) : w.heap.size ≤ gb101)); have n3_ := n2_; clear HB; have HB := n0_; have BK101 := n1_; have GW101 := n2_; have GE101 := n3_; clear n0_ n1_ n2_ n3_ hb hbox hg; obtain ⟨hcz39_0, hcz39_1⟩ := kk2_ BK101.1; have hfz39_0 := bf_ BK101.out 0; have hfz39_1 := bf_ BK101.out 1) | ((with_reducible refine gate_callee (f := 25) rfl ?_); refine gl_ 12 Try.func25 #[.agg #[.int .i64 a0_0, .int .i64 a0_1]] ?_; (with_reducible refine (laws_toGrid.calls a0_0 a0_1 t102 t103 _ A5.out).mono ?_); rintro e w40 ⟨rfl, hb⟩; (try clear A5); refine ⟨_, rfl, ?_⟩; have n0_ := A_ (blk_below (g := gb101) (o := .cells #[.int .i64 a0_0, .int .i64 a0_1] 31 (0, 0)) (by (with_reducible repeat first | refine cA_ ?_ _ | refine cB_ ?_ | refine cC_ ?_ _); exact BK101.1) hb); have n1_ := A_ (below_step (by repeat first | exact HB.1 | apply bA_ | apply bB_ | apply bC_ | refine below_set ?_ GE101.out) hb); clear BK101 HB; have BK101 := n0_; have HB := n1_; clear n0_ n1_; (try clear hb); (try clear hk)) | ((with_reducible refine gate_callee (f := 30) rfl ?_); refine gl_ 14 Try.func30 #[.slice A1 l1.length c1] ?_; (with_reducible refine (laws_toIntS.calls k _ _ l1 t104 _ ?side1 ?side2 A6.out).mono ?_); (case side1 => repeat (first | exact (Kd.C_below HR1.out HB.out) | (with_reducible refine Kd.C_alloc ?_ _) | (with_reducible refine Kd.C_drewN ?_ _) | (with_reducible refine Kd.C_drew ?_))); (case side2 => exact HC1.out); rintro e w41 ⟨v105, rfl, ho0, hb⟩; (try clear A6); refine ⟨_, rfl, ?_⟩; have n0_ := A_ (Kd.R_lower ho0 (below_size (by repeat first | exact HB.1 | apply bA_ | apply bB_ | apply bC_ | refine below_set ?_ GE101.out))); have n1_ := A_ (blk_below (g := gb101) (o := .cells #[.int .i64 a0_0, .int .i64 a0_1] 31 (0, 0)) (by (with_reducible repeat first | refine cA_ ?_ _ | refine cB_ ?_ | refine cC_ ?_ _); exact BK101.1) hb); have n2_ := A_ (below_step (by repeat first | exact HB.1 | apply bA_ | apply bB_ | apply bC_ | refine below_set ?_ GE101.out) hb); clear BK101 HB; have HO106 := n0_; have BK101 := n1_; have HB := n2_; clear n0_ n1_ n2_; (try clear hb); (try clear hk); (try clear ho0); obtain ⟨Ao42, co42, eo42⟩ := Kd.R_slice HO106.out; subst eo42) | ((with_reducible refine gate_callee (f := 42) rfl ?_); refine gl_ 15 Try.func42 #[.agg #[.int .i64 t102, .int .i64 t103], .slice Ao42 t104.length co42] ?_; (with_reducible refine (spec_DivideMaze.calls k t102 t103 _ _ t104 t107 t108 t109 _ ?side1 ?side2 A7.out).mono ?_); (case side1 => repeat (first | exact (Kd.R_reads' HO106.out).2.2 | (with_reducible refine Kd.C_alloc ?_ _) | (with_reducible refine Kd.C_drewN ?_ _) | (with_reducible refine Kd.C_drew ?_))); (case side2 => exact (Kd.R_reads' HO106.out).2.1); rintro e w43 ⟨rfl, hb⟩; (try clear A7); refine ⟨_, rfl, ?_⟩; have n0_ := A_ (Kd.R_below (by (with_reducible repeat (first | apply Kd.R_alloc | apply Kd.R_drewN | apply Kd.R_drew)); exact HO106.out) hb); have n1_ := A_ (blk_below (g := gb101) (o := .cells #[.int .i64 a0_0, .int .i64 a0_1] 31 (0, 0)) (by (with_reducible repeat first | refine cA_ ?_ _ | refine cB_ ?_ | refine cC_ ?_ _); exact BK101.1) hb); have n2_ := A_ (below_step (by repeat first | exact HB.1 | apply bA_ | apply bB_ | apply bC_ | refine below_set ?_ GE101.out) hb); clear HO106 BK101 HB; have HO106 := n0_; have BK101 := n1_; have HB := n2_; clear n0_ n1_ n2_; (try clear hb); (try clear hk)) | ((with_reducible refine gate_dst (N := 5) rfl ?_); refine box_event ?hg (N := 5) ?hd (cs := #[.int .i64 0, .int .i64 0, .int .i64 0]) (t := 27) ?hr ?_; (case hd => rfl); (case hg => rfl); (case hr => first | (go_simp; done) | (go_simp; rfl)); intro gb110 hg w44 hbox hb; have n0_ := A_ (Kd.R_below (by (with_reducible repeat (first | apply Kd.R_alloc | apply Kd.R_drewN | apply Kd.R_drew)); exact HO106.out) hb); have n1_ := A_ (blk_below (g := gb101) (o := .cells #[.int .i64 a0_0, .int .i64 a0_1] 31 (0, 0)) (by (with_reducible repeat first | refine cA_ ?_ _ | refine cB_ ?_ | refine cC_ ?_ _); exact BK101.1) hb); have n2_ := A_ (below_step (by repeat first | exact HB.1 | apply bA_ | apply bB_ | apply bC_ | refine below_set ?_ GE101.out) hb); have n3_ := A_ (hbox); have n4_ := A_ ((by rw [hg]; exact (below_size (by repeat first | exact HB.1 | apply bA_ | apply bB_ | apply bC_ | refine below_set ?_ GE101.out)) : w.heap.size ≤ gb110)); have n5_ := n4_; have n6_ := A_ ((by rw [hg]; exact Nat.ne_of_lt (blk_lt (g := gb101) (o := .cells #[.int .i64 a0_0, .int .i64 a0_1] 31 (0, 0)) (by (with_reducible repeat first | refine cA_ ?_ _ | refine cB_ ?_ | refine cC_ ?_ _); exact BK101.1)) : gb101 ≠ gb110)); have n7_ := A_ ((by rw [hg]; exact Nat.ne_of_gt (blk_lt (g := gb101) (o := .cells #[.int .i64 a0_0, .int .i64 a0_1] 31 (0, 0)) (by (with_reducible repeat first | refine cA_ ?_ _ | refine cB_ ?_ | refine cC_ ?_ _); exact BK101.1)) : gb110 ≠ gb101)); clear HO106 BK101 HB; have HO106 := n0_; have BK101 := n1_; have HB := n2_; have BK110 := n3_; have GW110 := n4_; have GE110 := n5_; have NB101_110 := n6_; have NB110_101 := n7_; clear n0_ n1_ n2_ n3_ n4_ n5_ n6_ n7_ hb hbox hg; have hnb45 := NB110_101.out; have hnc45 := NB101_110.out; obtain ⟨hcz46_0, hcz46_1, hcz46_2⟩ := kk3_ BK110.1; have hfz46_0 := bf_ BK110.out 0; have hfz46_1 := bf_ BK110.out 1; have hfz46_2 := bf_ BK110.out 2) | ((with_reducible refine gate_callee (f := 30) rfl ?_); refine gl_ 17 Try.func30 #[.slice A1 l1.length c1] ?_; (with_reducible refine (laws_toIntS.calls k _ _ l1 t111 _ ?side1 ?side2 A8.out).mono ?_); (case side1 => exact Kd.C_below HR1.out (by repeat first | exact HB.1 | apply bA_ | apply bB_ | apply bC_ | refine below_set ?_ GE101.out | refine below_set ?_ GE110.out)); (case side2 => exact HC1.out); rintro e w47 ⟨v112, rfl, ho0, hb⟩; (try clear A8); refine ⟨_, rfl, ?_⟩; have n0_ := A_ (Kd.R_elder' (by (with_reducible repeat (first | apply Kd.R_alloc | apply Kd.R_drewN | apply Kd.R_drew)); exact (Kd.R_mono (Kd.R_far (p := ⟨gb110, 2, none⟩) (Kd.R_far (p := ⟨gb110, 1, none⟩) (Kd.R_far (p := ⟨gb110, 0, none⟩) (Kd.R_types HO106.out BK110.out (by decide)) (fun _ hk => hk.2) (.int .i64 t107)) (fun _ hk => hk.2) (.int .i64 t108)) (fun _ hk => hk.2) (.int .i64 t109)) (fun _ h_ => h_.1))) (Kd.R_base ho0) hb); have n1_ := A_ (Kd.R_lower (Kd.R_new' ho0 (Kd.R_lt (by (with_reducible repeat (first | apply Kd.R_alloc | apply Kd.R_drewN | apply Kd.R_drew)); exact (Kd.R_mono (Kd.R_far (p := ⟨gb110, 2, none⟩) (Kd.R_far (p := ⟨gb110, 1, none⟩) (Kd.R_far (p := ⟨gb110, 0, none⟩) (Kd.R_types HO106.out BK110.out (by decide)) (fun _ hk => hk.2) (.int .i64 t107)) (fun _ hk => hk.2) (.int .i64 t108)) (fun _ hk => hk.2) (.int .i64 t109)) (fun _ h_ => h_.1))))) (below_size (by repeat first | exact HB.1 | apply bA_ | apply bB_ | apply bC_ | refine below_set ?_ GE101.out | refine below_set ?_ GE110.out))); have n2_ := A_ (blk_below (g := gb101) (o := .cells #[.int .i64 a0_0, .int .i64 a0_1] 31 (0, 0)) (by (with_reducible repeat (first | refine blk_drewN ?_ _ | refine blk_drew ?_ | refine blk_alloc ?_ _)); refine blk_far ?_ NB101_110.out _; (with_reducible repeat (first | refine blk_drewN ?_ _ | refine blk_drew ?_ | refine blk_alloc ?_ _)); refine blk_far ?_ NB101_110.out _; (with_reducible repeat (first | refine blk_drewN ?_ _ | refine blk_drew ?_ | refine blk_alloc ?_ _)); refine blk_far ?_ NB101_110.out _; (with_reducible repeat (first | refine blk_drewN ?_ _ | refine blk_drew ?_ | refine blk_alloc ?_ _)); exact BK101.out) hb); have n3_ := A_ (blk_below (g := gb110) (o := .cells #[.int .i64 t107, .int .i64 t108, .int .i64 t109] 27 (0, 0)) (by (with_reducible repeat (first | refine blk_drewN ?_ _ | refine blk_drew ?_ | refine blk_alloc ?_ _)); refine blk_put (cs := #[.int .i64 t107, .int .i64 t108, .int .i64 0]) ?_ 2 _ rfl; (with_reducible repeat (first | refine blk_drewN ?_ _ | refine blk_drew ?_ | refine blk_alloc ?_ _)); refine blk_put (cs := #[.int .i64 t107, .int .i64 0, .int .i64 0]) ?_ 1 _ rfl; (with_reducible repeat (first | refine blk_drewN ?_ _ | refine blk_drew ?_ | refine blk_alloc ?_ _)); refine blk_put (cs := #[.int .i64 0, .int .i64 0, .int .i64 0]) ?_ 0 _ rfl; (with_reducible repeat (first | refine blk_drewN ?_ _ | refine blk_drew ?_ | refine blk_alloc ?_ _)); exact BK110.out) hb); have n4_ := A_ (below_step (by repeat first | exact HB.1 | apply bA_ | apply bB_ | apply bC_ | refine below_set ?_ GE101.out | refine below_set ?_ GE110.out) hb); clear HO106 BK101 BK110 HB; have HO106 := n0_; have HO113 := n1_; have BK101 := n2_; have BK110 := n3_; have HB := n4_; clear n0_ n1_ n2_ n3_ n4_; (try clear hb); (try clear hk); (try clear ho0); obtain ⟨hcz48_0, hcz48_1⟩ := kk2_ BK101.1; have hfz48_0 := bf_ BK101.out 0; have hfz48_1 := bf_ BK101.out 1) | ((with_reducible refine gate_callee (f := 25) rfl ?_); refine gl_ 19 Try.func25 #[.agg #[.int .i64 a0_0, .int .i64 a0_1]] ?_; (with_reducible refine (laws_toGrid.calls a0_0 a0_1 t114 t115 _ A9.out).mono ?_); rintro e w49 ⟨rfl, hb⟩; (try clear A9); refine ⟨_, rfl, ?_⟩; have n0_ := A_ (Kd.R_below (by (with_reducible repeat (first | apply Kd.R_alloc | apply Kd.R_drewN | apply Kd.R_drew)); exact HO106.out) hb); have n1_ := A_ (Kd.R_below (by (with_reducible repeat (first | apply Kd.R_alloc | apply Kd.R_drewN | apply Kd.R_drew)); exact HO113.out) hb); have n2_ := A_ (blk_below (g := gb101) (o := .cells #[.int .i64 a0_0, .int .i64 a0_1] 31 (0, 0)) (by (with_reducible repeat first | refine cA_ ?_ _ | refine cB_ ?_ | refine cC_ ?_ _); exact BK101.1) hb); have n3_ := A_ (blk_below (g := gb110) (o := .cells #[.int .i64 t107, .int .i64 t108, .int .i64 t109] 27 (0, 0)) (by (with_reducible repeat first | refine cA_ ?_ _ | refine cB_ ?_ | refine cC_ ?_ _); exact BK110.1) hb); have n4_ := A_ (below_step (by repeat first | exact HB.1 | apply bA_ | apply bB_ | apply bC_ | refine below_set ?_ GE101.out | refine below_set ?_ GE110.out) hb); clear HO106 HO113 BK101 BK110 HB; have HO106 := n0_; have HO113 := n1_; have BK101 := n2_; have BK110 := n3_; have HB := n4_; clear n0_ n1_ n2_ n3_ n4_; (try clear hb); (try clear hk); obtain ⟨Ao50, co50, eo50⟩ := Kd.R_slice HO113.out; subst eo50) | ((with_reducible refine gate_callee (f := 43) rfl ?_); refine gl_ 21 Try.func43 #[.agg #[.int .i64 t114, .int .i64 t115], .slice Ao50 t111.length co50] ?_; (with_reducible refine (impl_DivideMaze.calls k t114 t115 _ _ t111 t116 t117 t118 _ ?side1 ?side2 A10.out).mono ?_); (case side1 => repeat (first | exact (Kd.R_reads' HO113.out).2.2 | (with_reducible refine Kd.C_alloc ?_ _) | (with_reducible refine Kd.C_drewN ?_ _) | (with_reducible refine Kd.C_drew ?_))); (case side2 => exact (Kd.R_reads' HO113.out).2.1); rintro e w51 ⟨rfl, hb⟩; (try clear A10); refine ⟨_, rfl, ?_⟩; have n0_ := A_ (Kd.R_below (by (with_reducible repeat (first | apply Kd.R_alloc | apply Kd.R_drewN | apply Kd.R_drew)); exact HO106.out) hb); have n1_ := A_ (Kd.R_below (by (with_reducible repeat (first | apply Kd.R_alloc | apply Kd.R_drewN | apply Kd.R_drew)); exact HO113.out) hb); have n2_ := A_ (blk_below (g := gb101) (o := .cells #[.int .i64 a0_0, .int .i64 a0_1] 31 (0, 0)) (by (with_reducible repeat first | refine cA_ ?_ _ | refine cB_ ?_ | refine cC_ ?_ _); exact BK101.1) hb); have n3_ := A_ (blk_below (g := gb110) (o := .cells #[.int .i64 t107, .int .i64 t108, .int .i64 t109] 27 (0, 0)) (by (with_reducible repeat first | refine cA_ ?_ _ | refine cB_ ?_ | refine cC_ ?_ _); exact BK110.1) hb); have n4_ := A_ (below_step (by repeat first | exact HB.1 | apply bA_ | apply bB_ | apply bC_ | refine below_set ?_ GE101.out | refine below_set ?_ GE110.out) hb); clear HO106 HO113 BK101 BK110 HB; have HO106 := n0_; have HO113 := n1_; have BK101 := n2_; have BK110 := n3_; have HB := n4_; clear n0_ n1_ n2_ n3_ n4_; (try clear hb); (try clear hk)) | ((with_reducible refine gate_dst (N := 7) rfl ?_); refine box_event ?hg (N := 7) ?hd (cs := #[.int .i64 0, .int .i64 0, .int .i64 0]) (t := 27) ?hr ?_; (case hd => rfl); (case hg => rfl); (case hr => first | (go_simp; done) | (go_simp; rfl)); intro gb119 hg w52 hbox hb; have n0_ := A_ (Kd.R_below (by (with_reducible repeat (first | apply Kd.R_alloc | apply Kd.R_drewN | apply Kd.R_drew)); exact HO106.out) hb); have n1_ := A_ (Kd.R_below (by (with_reducible repeat (first | apply Kd.R_alloc | apply Kd.R_drewN | apply Kd.R_drew)); exact HO113.out) hb); have n2_ := A_ (blk_below (g := gb101) (o := .cells #[.int .i64 a0_0, .int .i64 a0_1] 31 (0, 0)) (by (with_reducible repeat first | refine cA_ ?_ _ | refine cB_ ?_ | refine cC_ ?_ _); exact BK101.1) hb); have n3_ := A_ (blk_below (g := gb110) (o := .cells #[.int .i64 t107, .int .i64 t108, .int .i64 t109] 27 (0, 0)) (by (with_reducible repeat first | refine cA_ ?_ _ | refine cB_ ?_ | refine cC_ ?_ _); exact BK110.1) hb); have n4_ := A_ (below_step (by repeat first | exact HB.1 | apply bA_ | apply bB_ | apply bC_ | refine below_set ?_ GE101.out | refine below_set ?_ GE110.out) hb); have n5_ := A_ (hbox); have n6_ := A_ ((by rw [hg]; exact (below_size (by repeat first | exact HB.1 | apply bA_ | apply bB_ | apply bC_ | refine below_set ?_ GE101.out | refine below_set ?_ GE110.out)) : w.heap.size ≤ gb119)); have n7_ := n6_; have n8_ := A_ ((by rw [hg]; exact Nat.ne_of_lt (blk_lt (g := gb101) (o := .cells #[.int .i64 a0_0, .int .i64 a0_1] 31 (0, 0)) (by (with_reducible repeat first | refine cA_ ?_ _ | refine cB_ ?_ | refine cC_ ?_ _); exact BK101.1)) : gb101 ≠ gb119)); have n9_ := A_ ((by rw [hg]; exact Nat.ne_of_gt (blk_lt (g := gb101) (o := .cells #[.int .i64 a0_0, .int .i64 a0_1] 31 (0, 0)) (by (with_reducible repeat first | refine cA_ ?_ _ | refine cB_ ?_ | refine cC_ ?_ _); exact BK101.1)) : gb119 ≠ gb101)); have n10_ := A_ ((by rw [hg]; exact Nat.ne_of_lt (blk_lt (g := gb110) (o := .cells #[.int .i64 t107, .int .i64 t108, .int .i64 t109] 27 (0, 0)) (by (with_reducible repeat first | refine cA_ ?_ _ | refine cB_ ?_ | refine cC_ ?_ _); exact BK110.1)) : gb110 ≠ gb119)); have n11_ := A_ ((by rw [hg]; exact Nat.ne_of_gt (blk_lt (g := gb110) (o := .cells #[.int .i64 t107, .int .i64 t108, .int .i64 t109] 27 (0, 0)) (by (with_reducible repeat first | refine cA_ ?_ _ | refine cB_ ?_ | refine cC_ ?_ _); exact BK110.1)) : gb119 ≠ gb110)); clear HO106 HO113 BK101 BK110 HB; have HO106 := n0_; have HO113 := n1_; have BK101 := n2_; have BK110 := n3_; have HB := n4_; have BK119 := n5_; have GW119 := n6_; have GE119 := n7_; have NB101_119 := n8_; have NB119_101 := n9_; have NB110_119 := n10_; have NB119_110 := n11_; clear n0_ n1_ n2_ n3_ n4_ n5_ n6_ n7_ n8_ n9_ n10_ n11_ hb hbox hg; have hnb53 := NB119_101.out; have hnc53 := NB101_119.out; have hnb54 := NB119_110.out; have hnc54 := NB110_119.out; obtain ⟨hcz55_0, hcz55_1, hcz55_2⟩ := kk3_ BK119.1; have hfz55_0 := bf_ BK119.out 0; have hfz55_1 := bf_ BK119.out 1; have hfz55_2 := bf_ BK119.out 2; obtain ⟨hcz56_0, hcz56_1, hcz56_2⟩ := kk3_ BK110.1; have hfz56_0 := bf_ BK110.out 0; have hfz56_1 := bf_ BK110.out 1; have hfz56_2 := bf_ BK110.out 2) | ((with_reducible refine gate_callee (f := 32) rfl ?_); refine gl_ 24 Try.func32 #[.agg #[.int .i64 t116, .int .i64 t117, .int .i64 t118], .agg #[.int .i64 t107, .int .i64 t108, .int .i64 t109]] ?_; (with_reducible refine (laws_eqMaze.calls t116 t117 t118 t107 t108 t109 true _ A11.out).mono ?_); rintro e w57 ⟨rfl, hb⟩; (try clear A11); refine ⟨_, rfl, ?_⟩; have n0_ := A_ (Kd.R_below (by (with_reducible repeat (first | apply Kd.R_alloc | apply Kd.R_drewN | apply Kd.R_drew)); exact (Kd.R_mono (Kd.R_far (p := ⟨gb119, 2, none⟩) (Kd.R_far (p := ⟨gb119, 1, none⟩) (Kd.R_far (p := ⟨gb119, 0, none⟩) (Kd.R_types HO106.out BK119.out (by decide)) (fun _ hk => hk.2) (.int .i64 t116)) (fun _ hk => hk.2) (.int .i64 t117)) (fun _ hk => hk.2) (.int .i64 t118)) (fun _ h_ => h_.1))) hb); have n1_ := A_ (Kd.R_below (by (with_reducible repeat (first | apply Kd.R_alloc | apply Kd.R_drewN | apply Kd.R_drew)); exact (Kd.R_mono (Kd.R_far (p := ⟨gb119, 2, none⟩) (Kd.R_far (p := ⟨gb119, 1, none⟩) (Kd.R_far (p := ⟨gb119, 0, none⟩) (Kd.R_types HO113.out BK119.out (by decide)) (fun _ hk => hk.2) (.int .i64 t116)) (fun _ hk => hk.2) (.int .i64 t117)) (fun _ hk => hk.2) (.int .i64 t118)) (fun _ h_ => h_.1))) hb); have n2_ := A_ (blk_below (g := gb101) (o := .cells #[.int .i64 a0_0, .int .i64 a0_1] 31 (0, 0)) (by (with_reducible repeat (first | refine blk_drewN ?_ _ | refine blk_drew ?_ | refine blk_alloc ?_ _)); refine blk_far ?_ NB101_119.out _; (with_reducible repeat (first | refine blk_drewN ?_ _ | refine blk_drew ?_ | refine blk_alloc ?_ _)); refine blk_far ?_ NB101_119.out _; (with_reducible repeat (first | refine blk_drewN ?_ _ | refine blk_drew ?_ | refine blk_alloc ?_ _)); refine blk_far ?_ NB101_119.out _; (with_reducible repeat (first | refine blk_drewN ?_ _ | refine blk_drew ?_ | refine blk_alloc ?_ _)); exact BK101.out) hb); have n3_ := A_ (blk_below (g := gb110) (o := .cells #[.int .i64 t107, .int .i64 t108, .int .i64 t109] 27 (0, 0)) (by (with_reducible repeat (first | refine blk_drewN ?_ _ | refine blk_drew ?_ | refine blk_alloc ?_ _)); refine blk_far ?_ NB110_119.out _; (with_reducible repeat (first | refine blk_drewN ?_ _ | refine blk_drew ?_ | refine blk_alloc ?_ _)); refine blk_far ?_ NB110_119.out _; (with_reducible repeat (first | refine blk_drewN ?_ _ | refine blk_drew ?_ | refine blk_alloc ?_ _)); refine blk_far ?_ NB110_119.out _; (with_reducible repeat (first | refine blk_drewN ?_ _ | refine blk_drew ?_ | refine blk_alloc ?_ _)); exact BK110.out) hb); have n4_ := A_ (blk_below (g := gb119) (o := .cells #[.int .i64 t116, .int .i64 t117, .int .i64 t118] 27 (0, 0)) (by (with_reducible repeat (first | refine blk_drewN ?_ _ | refine blk_drew ?_ | refine blk_alloc ?_ _)); refine blk_put (cs := #[.int .i64 t116, .int .i64 t117, .int .i64 0]) ?_ 2 _ rfl; (with_reducible repeat (first | refine blk_drewN ?_ _ | refine blk_drew ?_ | refine blk_alloc ?_ _)); refine blk_put (cs := #[.int .i64 t116, .int .i64 0, .int .i64 0]) ?_ 1 _ rfl; (with_reducible repeat (first | refine blk_drewN ?_ _ | refine blk_drew ?_ | refine blk_alloc ?_ _)); refine blk_put (cs := #[.int .i64 0, .int .i64 0, .int .i64 0]) ?_ 0 _ rfl; (with_reducible repeat (first | refine blk_drewN ?_ _ | refine blk_drew ?_ | refine blk_alloc ?_ _)); exact BK119.out) hb); have n5_ := A_ (below_step (by repeat first | exact HB.1 | apply bA_ | apply bB_ | apply bC_ | refine below_set ?_ GE101.out | refine below_set ?_ GE110.out | refine below_set ?_ GE119.out) hb); clear HO106 HO113 BK101 BK110 BK119 HB; have HO106 := n0_; have HO113 := n1_; have BK101 := n2_; have BK110 := n3_; have BK119 := n4_; have HB := n5_; clear n0_ n1_ n2_ n3_ n4_ n5_; (try clear hb); (try clear hk)) | ((with_reducible refine gate_callee (f := 30) rfl ?_); refine gl_ 28 Try.func30 #[.slice A1 l1.length c1] ?_; (with_reducible refine (laws_toIntS.calls k _ _ l1 t121 _ ?side1 ?side2 A13.out).mono ?_); (case side1 => repeat (first | exact (Kd.C_below HR1.out HB.out) | (with_reducible refine Kd.C_alloc ?_ _) | (with_reducible refine Kd.C_drewN ?_ _) | (with_reducible refine Kd.C_drew ?_))); (case side2 => exact HC1.out); rintro e w58 ⟨v122, rfl, ho0, hb⟩; (try clear A13); refine ⟨_, rfl, ?_⟩; have n0_ := A_ (Kd.R_elder' (by (with_reducible repeat (first | apply Kd.R_alloc | apply Kd.R_drewN | apply Kd.R_drew)); exact HO106.out) (Kd.R_base ho0) hb); have n1_ := A_ (Kd.R_elder' (by (with_reducible repeat (first | apply Kd.R_alloc | apply Kd.R_drewN | apply Kd.R_drew)); exact HO113.out) (Kd.R_base ho0) hb); have n2_ := A_ (Kd.R_lower (Kd.R_new' (Kd.R_new' ho0 (Kd.R_lt (by (with_reducible repeat (first | apply Kd.R_alloc | apply Kd.R_drewN | apply Kd.R_drew)); exact HO106.out))) (Kd.R_lt (by (with_reducible repeat (first | apply Kd.R_alloc | apply Kd.R_drewN | apply Kd.R_drew)); exact HO113.out))) (below_size (by repeat first | exact HB.1 | apply bA_ | apply bB_ | apply bC_ | refine below_set ?_ GE101.out | refine below_set ?_ GE110.out | refine below_set ?_ GE119.out))); have n3_ := A_ (blk_below (g := gb101) (o := .cells #[.int .i64 a0_0, .int .i64 a0_1] 31 (0, 0)) (by (with_reducible repeat first | refine cA_ ?_ _ | refine cB_ ?_ | refine cC_ ?_ _); exact BK101.1) hb); have n4_ := A_ (blk_below (g := gb110) (o := .cells #[.int .i64 t107, .int .i64 t108, .int .i64 t109] 27 (0, 0)) (by (with_reducible repeat first | refine cA_ ?_ _ | refine cB_ ?_ | refine cC_ ?_ _); exact BK110.1) hb); have n5_ := A_ (blk_below (g := gb119) (o := .cells #[.int .i64 t116, .int .i64 t117, .int .i64 t118] 27 (0, 0)) (by (with_reducible repeat first | refine cA_ ?_ _ | refine cB_ ?_ | refine cC_ ?_ _); exact BK119.1) hb); have n6_ := A_ (below_step (by repeat first | exact HB.1 | apply bA_ | apply bB_ | apply bC_ | refine below_set ?_ GE101.out | refine below_set ?_ GE110.out | refine below_set ?_ GE119.out) hb); clear HO106 HO113 BK101 BK110 BK119 HB; have HO106 := n0_; have HO113 := n1_; have HO123 := n2_; have BK101 := n3_; have BK110 := n4_; have BK119 := n5_; have HB := n6_; clear n0_ n1_ n2_ n3_ n4_ n5_ n6_; (try clear hb); (try clear hk); (try clear ho0); obtain ⟨Ao59, co59, eo59⟩ := Kd.R_slice HO123.out; subst eo59) | ((with_reducible refine gate_callee (f := 33) rfl ?_); refine gl_ 29 Try.func33 #[.slice Ao50 t111.length co50, .slice Ao59 t121.length co59] ?_; (with_reducible refine (laws_eqIntS.calls k _ _ t111 _ _ t121 false _ ?side1 ?side2 ?side3 ?side4 A14.out).mono ?_); (case side1 => repeat (first | exact (Kd.R_reads' HO113.out).2.2 | (with_reducible refine Kd.C_alloc ?_ _) | (with_reducible refine Kd.C_drewN ?_ _) | (with_reducible refine Kd.C_drew ?_))); (case side2 => exact (Kd.R_reads' HO113.out).2.1); (case side3 => repeat (first | exact (Kd.R_reads' HO123.out).2.2 | (with_reducible refine Kd.C_alloc ?_ _) | (with_reducible refine Kd.C_drewN ?_ _) | (with_reducible refine Kd.C_drew ?_))); (case side4 => exact (Kd.R_reads' HO123.out).2.1); rintro e w' ⟨rfl, ⟨nd, rfl⟩⟩; (try clear A14); refine ⟨_, rfl, ?_⟩))
    go_ret
    exact ⟨by first | rfl | (simp [errW_none, errW_some] <;> rfl) | (simp [*, errW_none, errW_some] <;> rfl), by repeat (first | (with_reducible first | exact HB.out | apply below_alloc | apply pw_below_drewN | apply below_drew1 | refine below_set ?_ GE101.out | refine below_set ?_ GE110.out | refine below_set ?_ GE119.out) | exact HB.out)⟩
  ·replace c12 := Bool.eq_false_iff.mpr c12
   subst c12
   have H1 : (some false) = some r := by rw [if_neg (show ¬ (false = true) by decide)] at H; exact H
   clear H
   have H := H1
   clear H1
   obtain rfl := Option.some.inj H
   go_enter Try.func9, Try.ntmps9
   go_wp2_with (first | ((with_reducible refine gate_dst (N := 2) rfl ?_); refine box_event ?hg (N := 2) ?hd (cs := #[.int .i64 a0_0, .int .i64 a0_1]) (t := 31) ?hr ?_; (case hd => rfl); (case hg => rfl); (case hr => first | (go_simp; done) | (go_simp; rfl)); intro gb101 hg w60 hbox hb; have n0_ := A_ (below_step (by repeat first | exact HB.1 | apply bA_ | apply bB_ | apply bC_) hb); have n1_ := A_ (hbox); have n2_ := A_ ((by rw [hg]; exact (below_size (by repeat first | exact HB.1 | apply bA_ | apply bB_ | apply bC_)) : w.heap.size ≤ gb101)); have n3_ := n2_; clear HB; have HB := n0_; have BK101 := n1_; have GW101 := n2_; have GE101 := n3_; clear n0_ n1_ n2_ n3_ hb hbox hg; obtain ⟨hcz61_0, hcz61_1⟩ := kk2_ BK101.1; have hfz61_0 := bf_ BK101.out 0; have hfz61_1 := bf_ BK101.out 1) | ((with_reducible refine gate_callee (f := 25) rfl ?_); refine gl_ 12 Try.func25 #[.agg #[.int .i64 a0_0, .int .i64 a0_1]] ?_; (with_reducible refine (laws_toGrid.calls a0_0 a0_1 t102 t103 _ A5.out).mono ?_); rintro e w62 ⟨rfl, hb⟩; (try clear A5); refine ⟨_, rfl, ?_⟩; have n0_ := A_ (blk_below (g := gb101) (o := .cells #[.int .i64 a0_0, .int .i64 a0_1] 31 (0, 0)) (by (with_reducible repeat first | refine cA_ ?_ _ | refine cB_ ?_ | refine cC_ ?_ _); exact BK101.1) hb); have n1_ := A_ (below_step (by repeat first | exact HB.1 | apply bA_ | apply bB_ | apply bC_ | refine below_set ?_ GE101.out) hb); clear BK101 HB; have BK101 := n0_; have HB := n1_; clear n0_ n1_; (try clear hb); (try clear hk)) | ((with_reducible refine gate_callee (f := 30) rfl ?_); refine gl_ 14 Try.func30 #[.slice A1 l1.length c1] ?_; (with_reducible refine (laws_toIntS.calls k _ _ l1 t104 _ ?side1 ?side2 A6.out).mono ?_); (case side1 => repeat (first | exact (Kd.C_below HR1.out HB.out) | (with_reducible refine Kd.C_alloc ?_ _) | (with_reducible refine Kd.C_drewN ?_ _) | (with_reducible refine Kd.C_drew ?_))); (case side2 => exact HC1.out); rintro e w63 ⟨v105, rfl, ho0, hb⟩; (try clear A6); refine ⟨_, rfl, ?_⟩; have n0_ := A_ (Kd.R_lower ho0 (below_size (by repeat first | exact HB.1 | apply bA_ | apply bB_ | apply bC_ | refine below_set ?_ GE101.out))); have n1_ := A_ (blk_below (g := gb101) (o := .cells #[.int .i64 a0_0, .int .i64 a0_1] 31 (0, 0)) (by (with_reducible repeat first | refine cA_ ?_ _ | refine cB_ ?_ | refine cC_ ?_ _); exact BK101.1) hb); have n2_ := A_ (below_step (by repeat first | exact HB.1 | apply bA_ | apply bB_ | apply bC_ | refine below_set ?_ GE101.out) hb); clear BK101 HB; have HO106 := n0_; have BK101 := n1_; have HB := n2_; clear n0_ n1_ n2_; (try clear hb); (try clear hk); (try clear ho0); obtain ⟨Ao64, co64, eo64⟩ := Kd.R_slice HO106.out; subst eo64) | ((with_reducible refine gate_callee (f := 42) rfl ?_); refine gl_ 15 Try.func42 #[.agg #[.int .i64 t102, .int .i64 t103], .slice Ao64 t104.length co64] ?_; (with_reducible refine (spec_DivideMaze.calls k t102 t103 _ _ t104 t107 t108 t109 _ ?side1 ?side2 A7.out).mono ?_); (case side1 => repeat (first | exact (Kd.R_reads' HO106.out).2.2 | (with_reducible refine Kd.C_alloc ?_ _) | (with_reducible refine Kd.C_drewN ?_ _) | (with_reducible refine Kd.C_drew ?_))); (case side2 => exact (Kd.R_reads' HO106.out).2.1); rintro e w65 ⟨rfl, hb⟩; (try clear A7); refine ⟨_, rfl, ?_⟩; have n0_ := A_ (Kd.R_below (by (with_reducible repeat (first | apply Kd.R_alloc | apply Kd.R_drewN | apply Kd.R_drew)); exact HO106.out) hb); have n1_ := A_ (blk_below (g := gb101) (o := .cells #[.int .i64 a0_0, .int .i64 a0_1] 31 (0, 0)) (by (with_reducible repeat first | refine cA_ ?_ _ | refine cB_ ?_ | refine cC_ ?_ _); exact BK101.1) hb); have n2_ := A_ (below_step (by repeat first | exact HB.1 | apply bA_ | apply bB_ | apply bC_ | refine below_set ?_ GE101.out) hb); clear HO106 BK101 HB; have HO106 := n0_; have BK101 := n1_; have HB := n2_; clear n0_ n1_ n2_; (try clear hb); (try clear hk)) | ((with_reducible refine gate_dst (N := 5) rfl ?_); refine box_event ?hg (N := 5) ?hd (cs := #[.int .i64 0, .int .i64 0, .int .i64 0]) (t := 27) ?hr ?_; (case hd => rfl); (case hg => rfl); (case hr => first | (go_simp; done) | (go_simp; rfl)); intro gb110 hg w66 hbox hb; have n0_ := A_ (Kd.R_below (by (with_reducible repeat (first | apply Kd.R_alloc | apply Kd.R_drewN | apply Kd.R_drew)); exact HO106.out) hb); have n1_ := A_ (blk_below (g := gb101) (o := .cells #[.int .i64 a0_0, .int .i64 a0_1] 31 (0, 0)) (by (with_reducible repeat first | refine cA_ ?_ _ | refine cB_ ?_ | refine cC_ ?_ _); exact BK101.1) hb); have n2_ := A_ (below_step (by repeat first | exact HB.1 | apply bA_ | apply bB_ | apply bC_ | refine below_set ?_ GE101.out) hb); have n3_ := A_ (hbox); have n4_ := A_ ((by rw [hg]; exact (below_size (by repeat first | exact HB.1 | apply bA_ | apply bB_ | apply bC_ | refine below_set ?_ GE101.out)) : w.heap.size ≤ gb110)); have n5_ := n4_; have n6_ := A_ ((by rw [hg]; exact Nat.ne_of_lt (blk_lt (g := gb101) (o := .cells #[.int .i64 a0_0, .int .i64 a0_1] 31 (0, 0)) (by (with_reducible repeat first | refine cA_ ?_ _ | refine cB_ ?_ | refine cC_ ?_ _); exact BK101.1)) : gb101 ≠ gb110)); have n7_ := A_ ((by rw [hg]; exact Nat.ne_of_gt (blk_lt (g := gb101) (o := .cells #[.int .i64 a0_0, .int .i64 a0_1] 31 (0, 0)) (by (with_reducible repeat first | refine cA_ ?_ _ | refine cB_ ?_ | refine cC_ ?_ _); exact BK101.1)) : gb110 ≠ gb101)); clear HO106 BK101 HB; have HO106 := n0_; have BK101 := n1_; have HB := n2_; have BK110 := n3_; have GW110 := n4_; have GE110 := n5_; have NB101_110 := n6_; have NB110_101 := n7_; clear n0_ n1_ n2_ n3_ n4_ n5_ n6_ n7_ hb hbox hg; have hnb67 := NB110_101.out; have hnc67 := NB101_110.out; obtain ⟨hcz68_0, hcz68_1, hcz68_2⟩ := kk3_ BK110.1; have hfz68_0 := bf_ BK110.out 0; have hfz68_1 := bf_ BK110.out 1; have hfz68_2 := bf_ BK110.out 2) | ((with_reducible refine gate_callee (f := 30) rfl ?_); refine gl_ 17 Try.func30 #[.slice A1 l1.length c1] ?_; (with_reducible refine (laws_toIntS.calls k _ _ l1 t111 _ ?side1 ?side2 A8.out).mono ?_); (case side1 => exact Kd.C_below HR1.out (by repeat first | exact HB.1 | apply bA_ | apply bB_ | apply bC_ | refine below_set ?_ GE101.out | refine below_set ?_ GE110.out)); (case side2 => exact HC1.out); rintro e w69 ⟨v112, rfl, ho0, hb⟩; (try clear A8); refine ⟨_, rfl, ?_⟩; have n0_ := A_ (Kd.R_elder' (by (with_reducible repeat (first | apply Kd.R_alloc | apply Kd.R_drewN | apply Kd.R_drew)); exact (Kd.R_mono (Kd.R_far (p := ⟨gb110, 2, none⟩) (Kd.R_far (p := ⟨gb110, 1, none⟩) (Kd.R_far (p := ⟨gb110, 0, none⟩) (Kd.R_types HO106.out BK110.out (by decide)) (fun _ hk => hk.2) (.int .i64 t107)) (fun _ hk => hk.2) (.int .i64 t108)) (fun _ hk => hk.2) (.int .i64 t109)) (fun _ h_ => h_.1))) (Kd.R_base ho0) hb); have n1_ := A_ (Kd.R_lower (Kd.R_new' ho0 (Kd.R_lt (by (with_reducible repeat (first | apply Kd.R_alloc | apply Kd.R_drewN | apply Kd.R_drew)); exact (Kd.R_mono (Kd.R_far (p := ⟨gb110, 2, none⟩) (Kd.R_far (p := ⟨gb110, 1, none⟩) (Kd.R_far (p := ⟨gb110, 0, none⟩) (Kd.R_types HO106.out BK110.out (by decide)) (fun _ hk => hk.2) (.int .i64 t107)) (fun _ hk => hk.2) (.int .i64 t108)) (fun _ hk => hk.2) (.int .i64 t109)) (fun _ h_ => h_.1))))) (below_size (by repeat first | exact HB.1 | apply bA_ | apply bB_ | apply bC_ | refine below_set ?_ GE101.out | refine below_set ?_ GE110.out))); have n2_ := A_ (blk_below (g := gb101) (o := .cells #[.int .i64 a0_0, .int .i64 a0_1] 31 (0, 0)) (by (with_reducible repeat (first | refine blk_drewN ?_ _ | refine blk_drew ?_ | refine blk_alloc ?_ _)); refine blk_far ?_ NB101_110.out _; (with_reducible repeat (first | refine blk_drewN ?_ _ | refine blk_drew ?_ | refine blk_alloc ?_ _)); refine blk_far ?_ NB101_110.out _; (with_reducible repeat (first | refine blk_drewN ?_ _ | refine blk_drew ?_ | refine blk_alloc ?_ _)); refine blk_far ?_ NB101_110.out _; (with_reducible repeat (first | refine blk_drewN ?_ _ | refine blk_drew ?_ | refine blk_alloc ?_ _)); exact BK101.out) hb); have n3_ := A_ (blk_below (g := gb110) (o := .cells #[.int .i64 t107, .int .i64 t108, .int .i64 t109] 27 (0, 0)) (by (with_reducible repeat (first | refine blk_drewN ?_ _ | refine blk_drew ?_ | refine blk_alloc ?_ _)); refine blk_put (cs := #[.int .i64 t107, .int .i64 t108, .int .i64 0]) ?_ 2 _ rfl; (with_reducible repeat (first | refine blk_drewN ?_ _ | refine blk_drew ?_ | refine blk_alloc ?_ _)); refine blk_put (cs := #[.int .i64 t107, .int .i64 0, .int .i64 0]) ?_ 1 _ rfl; (with_reducible repeat (first | refine blk_drewN ?_ _ | refine blk_drew ?_ | refine blk_alloc ?_ _)); refine blk_put (cs := #[.int .i64 0, .int .i64 0, .int .i64 0]) ?_ 0 _ rfl; (with_reducible repeat (first | refine blk_drewN ?_ _ | refine blk_drew ?_ | refine blk_alloc ?_ _)); exact BK110.out) hb); have n4_ := A_ (below_step (by repeat first | exact HB.1 | apply bA_ | apply bB_ | apply bC_ | refine below_set ?_ GE101.out | refine below_set ?_ GE110.out) hb); clear HO106 BK101 BK110 HB; have HO106 := n0_; have HO113 := n1_; have BK101 := n2_; have BK110 := n3_; have HB := n4_; clear n0_ n1_ n2_ n3_ n4_; (try clear hb); (try clear hk); (try clear ho0); obtain ⟨hcz70_0, hcz70_1⟩ := kk2_ BK101.1; have hfz70_0 := bf_ BK101.out 0; have hfz70_1 := bf_ BK101.out 1) | ((with_reducible refine gate_callee (f := 25) rfl ?_); refine gl_ 19 Try.func25 #[.agg #[.int .i64 a0_0, .int .i64 a0_1]] ?_; (with_reducible refine (laws_toGrid.calls a0_0 a0_1 t114 t115 _ A9.out).mono ?_); rintro e w71 ⟨rfl, hb⟩; (try clear A9); refine ⟨_, rfl, ?_⟩; have n0_ := A_ (Kd.R_below (by (with_reducible repeat (first | apply Kd.R_alloc | apply Kd.R_drewN | apply Kd.R_drew)); exact HO106.out) hb); have n1_ := A_ (Kd.R_below (by (with_reducible repeat (first | apply Kd.R_alloc | apply Kd.R_drewN | apply Kd.R_drew)); exact HO113.out) hb); have n2_ := A_ (blk_below (g := gb101) (o := .cells #[.int .i64 a0_0, .int .i64 a0_1] 31 (0, 0)) (by (with_reducible repeat first | refine cA_ ?_ _ | refine cB_ ?_ | refine cC_ ?_ _); exact BK101.1) hb); have n3_ := A_ (blk_below (g := gb110) (o := .cells #[.int .i64 t107, .int .i64 t108, .int .i64 t109] 27 (0, 0)) (by (with_reducible repeat first | refine cA_ ?_ _ | refine cB_ ?_ | refine cC_ ?_ _); exact BK110.1) hb); have n4_ := A_ (below_step (by repeat first | exact HB.1 | apply bA_ | apply bB_ | apply bC_ | refine below_set ?_ GE101.out | refine below_set ?_ GE110.out) hb); clear HO106 HO113 BK101 BK110 HB; have HO106 := n0_; have HO113 := n1_; have BK101 := n2_; have BK110 := n3_; have HB := n4_; clear n0_ n1_ n2_ n3_ n4_; (try clear hb); (try clear hk); obtain ⟨Ao72, co72, eo72⟩ := Kd.R_slice HO113.out; subst eo72) | ((with_reducible refine gate_callee (f := 43) rfl ?_); refine gl_ 21 Try.func43 #[.agg #[.int .i64 t114, .int .i64 t115], .slice Ao72 t111.length co72] ?_; (with_reducible refine (impl_DivideMaze.calls k t114 t115 _ _ t111 t116 t117 t118 _ ?side1 ?side2 A10.out).mono ?_); (case side1 => repeat (first | exact (Kd.R_reads' HO113.out).2.2 | (with_reducible refine Kd.C_alloc ?_ _) | (with_reducible refine Kd.C_drewN ?_ _) | (with_reducible refine Kd.C_drew ?_))); (case side2 => exact (Kd.R_reads' HO113.out).2.1); rintro e w73 ⟨rfl, hb⟩; (try clear A10); refine ⟨_, rfl, ?_⟩; have n0_ := A_ (Kd.R_below (by (with_reducible repeat (first | apply Kd.R_alloc | apply Kd.R_drewN | apply Kd.R_drew)); exact HO106.out) hb); have n1_ := A_ (Kd.R_below (by (with_reducible repeat (first | apply Kd.R_alloc | apply Kd.R_drewN | apply Kd.R_drew)); exact HO113.out) hb); have n2_ := A_ (blk_below (g := gb101) (o := .cells #[.int .i64 a0_0, .int .i64 a0_1] 31 (0, 0)) (by (with_reducible repeat first | refine cA_ ?_ _ | refine cB_ ?_ | refine cC_ ?_ _); exact BK101.1) hb); have n3_ := A_ (blk_below (g := gb110) (o := .cells #[.int .i64 t107, .int .i64 t108, .int .i64 t109] 27 (0, 0)) (by (with_reducible repeat first | refine cA_ ?_ _ | refine cB_ ?_ | refine cC_ ?_ _); exact BK110.1) hb); have n4_ := A_ (below_step (by repeat first | exact HB.1 | apply bA_ | apply bB_ | apply bC_ | refine below_set ?_ GE101.out | refine below_set ?_ GE110.out) hb); clear HO106 HO113 BK101 BK110 HB; have HO106 := n0_; have HO113 := n1_; have BK101 := n2_; have BK110 := n3_; have HB := n4_; clear n0_ n1_ n2_ n3_ n4_; (try clear hb); (try clear hk)) | ((with_reducible refine gate_dst (N := 7) rfl ?_); refine box_event ?hg (N := 7) ?hd (cs := #[.int .i64 0, .int .i64 0, .int .i64 0]) (t := 27) ?hr ?_; (case hd => rfl); (case hg => rfl); (case hr => first | (go_simp; done) | (go_simp; rfl)); intro gb119 hg w74 hbox hb; have n0_ := A_ (Kd.R_below (by (with_reducible repeat (first | apply Kd.R_alloc | apply Kd.R_drewN | apply Kd.R_drew)); exact HO106.out) hb); have n1_ := A_ (Kd.R_below (by (with_reducible repeat (first | apply Kd.R_alloc | apply Kd.R_drewN | apply Kd.R_drew)); exact HO113.out) hb); have n2_ := A_ (blk_below (g := gb101) (o := .cells #[.int .i64 a0_0, .int .i64 a0_1] 31 (0, 0)) (by (with_reducible repeat first | refine cA_ ?_ _ | refine cB_ ?_ | refine cC_ ?_ _); exact BK101.1) hb); have n3_ := A_ (blk_below (g := gb110) (o := .cells #[.int .i64 t107, .int .i64 t108, .int .i64 t109] 27 (0, 0)) (by (with_reducible repeat first | refine cA_ ?_ _ | refine cB_ ?_ | refine cC_ ?_ _); exact BK110.1) hb); have n4_ := A_ (below_step (by repeat first | exact HB.1 | apply bA_ | apply bB_ | apply bC_ | refine below_set ?_ GE101.out | refine below_set ?_ GE110.out) hb); have n5_ := A_ (hbox); have n6_ := A_ ((by rw [hg]; exact (below_size (by repeat first | exact HB.1 | apply bA_ | apply bB_ | apply bC_ | refine below_set ?_ GE101.out | refine below_set ?_ GE110.out)) : w.heap.size ≤ gb119)); have n7_ := n6_; have n8_ := A_ ((by rw [hg]; exact Nat.ne_of_lt (blk_lt (g := gb101) (o := .cells #[.int .i64 a0_0, .int .i64 a0_1] 31 (0, 0)) (by (with_reducible repeat first | refine cA_ ?_ _ | refine cB_ ?_ | refine cC_ ?_ _); exact BK101.1)) : gb101 ≠ gb119)); have n9_ := A_ ((by rw [hg]; exact Nat.ne_of_gt (blk_lt (g := gb101) (o := .cells #[.int .i64 a0_0, .int .i64 a0_1] 31 (0, 0)) (by (with_reducible repeat first | refine cA_ ?_ _ | refine cB_ ?_ | refine cC_ ?_ _); exact BK101.1)) : gb119 ≠ gb101)); have n10_ := A_ ((by rw [hg]; exact Nat.ne_of_lt (blk_lt (g := gb110) (o := .cells #[.int .i64 t107, .int .i64 t108, .int .i64 t109] 27 (0, 0)) (by (with_reducible repeat first | refine cA_ ?_ _ | refine cB_ ?_ | refine cC_ ?_ _); exact BK110.1)) : gb110 ≠ gb119)); have n11_ := A_ ((by rw [hg]; exact Nat.ne_of_gt (blk_lt (g := gb110) (o := .cells #[.int .i64 t107, .int .i64 t108, .int .i64 t109] 27 (0, 0)) (by (with_reducible repeat first | refine cA_ ?_ _ | refine cB_ ?_ | refine cC_ ?_ _); exact BK110.1)) : gb119 ≠ gb110)); clear HO106 HO113 BK101 BK110 HB; have HO106 := n0_; have HO113 := n1_; have BK101 := n2_; have BK110 := n3_; have HB := n4_; have BK119 := n5_; have GW119 := n6_; have GE119 := n7_; have NB101_119 := n8_; have NB119_101 := n9_; have NB110_119 := n10_; have NB119_110 := n11_; clear n0_ n1_ n2_ n3_ n4_ n5_ n6_ n7_ n8_ n9_ n10_ n11_ hb hbox hg; have hnb75 := NB119_101.out; have hnc75 := NB101_119.out; have hnb76 := NB119_110.out; have hnc76 := NB110_119.out; obtain ⟨hcz77_0, hcz77_1, hcz77_2⟩ := kk3_ BK119.1; have hfz77_0 := bf_ BK119.out 0; have hfz77_1 := bf_ BK119.out 1; have hfz77_2 := bf_ BK119.out 2; obtain ⟨hcz78_0, hcz78_1, hcz78_2⟩ := kk3_ BK110.1; have hfz78_0 := bf_ BK110.out 0; have hfz78_1 := bf_ BK110.out 1; have hfz78_2 := bf_ BK110.out 2) | ((with_reducible refine gate_callee (f := 32) rfl ?_); refine gl_ 24 Try.func32 #[.agg #[.int .i64 t116, .int .i64 t117, .int .i64 t118], .agg #[.int .i64 t107, .int .i64 t108, .int .i64 t109]] ?_; (with_reducible refine (laws_eqMaze.calls t116 t117 t118 t107 t108 t109 false _ A11.out).mono ?_); rintro e w79 ⟨rfl, hb⟩; (try clear A11); refine ⟨_, rfl, ?_⟩; have n0_ := A_ (Kd.R_below (by (with_reducible repeat (first | apply Kd.R_alloc | apply Kd.R_drewN | apply Kd.R_drew)); exact (Kd.R_mono (Kd.R_far (p := ⟨gb119, 2, none⟩) (Kd.R_far (p := ⟨gb119, 1, none⟩) (Kd.R_far (p := ⟨gb119, 0, none⟩) (Kd.R_types HO106.out BK119.out (by decide)) (fun _ hk => hk.2) (.int .i64 t116)) (fun _ hk => hk.2) (.int .i64 t117)) (fun _ hk => hk.2) (.int .i64 t118)) (fun _ h_ => h_.1))) hb); have n1_ := A_ (Kd.R_below (by (with_reducible repeat (first | apply Kd.R_alloc | apply Kd.R_drewN | apply Kd.R_drew)); exact (Kd.R_mono (Kd.R_far (p := ⟨gb119, 2, none⟩) (Kd.R_far (p := ⟨gb119, 1, none⟩) (Kd.R_far (p := ⟨gb119, 0, none⟩) (Kd.R_types HO113.out BK119.out (by decide)) (fun _ hk => hk.2) (.int .i64 t116)) (fun _ hk => hk.2) (.int .i64 t117)) (fun _ hk => hk.2) (.int .i64 t118)) (fun _ h_ => h_.1))) hb); have n2_ := A_ (blk_below (g := gb101) (o := .cells #[.int .i64 a0_0, .int .i64 a0_1] 31 (0, 0)) (by (with_reducible repeat (first | refine blk_drewN ?_ _ | refine blk_drew ?_ | refine blk_alloc ?_ _)); refine blk_far ?_ NB101_119.out _; (with_reducible repeat (first | refine blk_drewN ?_ _ | refine blk_drew ?_ | refine blk_alloc ?_ _)); refine blk_far ?_ NB101_119.out _; (with_reducible repeat (first | refine blk_drewN ?_ _ | refine blk_drew ?_ | refine blk_alloc ?_ _)); refine blk_far ?_ NB101_119.out _; (with_reducible repeat (first | refine blk_drewN ?_ _ | refine blk_drew ?_ | refine blk_alloc ?_ _)); exact BK101.out) hb); have n3_ := A_ (blk_below (g := gb110) (o := .cells #[.int .i64 t107, .int .i64 t108, .int .i64 t109] 27 (0, 0)) (by (with_reducible repeat (first | refine blk_drewN ?_ _ | refine blk_drew ?_ | refine blk_alloc ?_ _)); refine blk_far ?_ NB110_119.out _; (with_reducible repeat (first | refine blk_drewN ?_ _ | refine blk_drew ?_ | refine blk_alloc ?_ _)); refine blk_far ?_ NB110_119.out _; (with_reducible repeat (first | refine blk_drewN ?_ _ | refine blk_drew ?_ | refine blk_alloc ?_ _)); refine blk_far ?_ NB110_119.out _; (with_reducible repeat (first | refine blk_drewN ?_ _ | refine blk_drew ?_ | refine blk_alloc ?_ _)); exact BK110.out) hb); have n4_ := A_ (blk_below (g := gb119) (o := .cells #[.int .i64 t116, .int .i64 t117, .int .i64 t118] 27 (0, 0)) (by (with_reducible repeat (first | refine blk_drewN ?_ _ | refine blk_drew ?_ | refine blk_alloc ?_ _)); refine blk_put (cs := #[.int .i64 t116, .int .i64 t117, .int .i64 0]) ?_ 2 _ rfl; (with_reducible repeat (first | refine blk_drewN ?_ _ | refine blk_drew ?_ | refine blk_alloc ?_ _)); refine blk_put (cs := #[.int .i64 t116, .int .i64 0, .int .i64 0]) ?_ 1 _ rfl; (with_reducible repeat (first | refine blk_drewN ?_ _ | refine blk_drew ?_ | refine blk_alloc ?_ _)); refine blk_put (cs := #[.int .i64 0, .int .i64 0, .int .i64 0]) ?_ 0 _ rfl; (with_reducible repeat (first | refine blk_drewN ?_ _ | refine blk_drew ?_ | refine blk_alloc ?_ _)); exact BK119.out) hb); have n5_ := A_ (below_step (by repeat first | exact HB.1 | apply bA_ | apply bB_ | apply bC_ | refine below_set ?_ GE101.out | refine below_set ?_ GE110.out | refine below_set ?_ GE119.out) hb); clear HO106 HO113 BK101 BK110 BK119 HB; have HO106 := n0_; have HO113 := n1_; have BK101 := n2_; have BK110 := n3_; have BK119 := n4_; have HB := n5_; clear n0_ n1_ n2_ n3_ n4_ n5_; (try clear hb); (try clear hk)))
   go_ret
   exact ⟨by first | rfl | (simp [errW_none, errW_some] <;> rfl) | (simp [*, errW_none, errW_some] <;> rfl), by repeat (first | (with_reducible first | exact HB.out | apply below_alloc | apply pw_below_drewN | apply below_drew1 | refine below_set ?_ GE101.out | refine below_set ?_ GE110.out | refine below_set ?_ GE119.out) | exact HB.out)⟩

end Go.Proofs.Ytbeajmcjfhbcjaa.P
namespace Go.Proofs.Ytbeajmcjfhbcjaa.P
open Go.RowKit Go.Proofs.YtbeajmcjfhbcjaaW.PrintWords
set_option linter.unusedVariables false
set_option linter.unusedSimpArgs false
section
variable {α β : Type}
theorem Ev.tt {c : Prop} [Decidable c] {g f : Nat → Option α} {r : α} (h : c) (e : Ev g r) : Ev (fun k => if c then g k else f k) r := by simpa only [if_pos h] using e
theorem Ev.ff {c : Prop} [Decidable c] {g f : Nat → Option α} {r : α} (h : ¬ c) (e : Ev f r) : Ev (fun k => if c then g k else f k) r := by simpa only [if_neg h] using e
theorem Ev.ite {c : Prop} [Decidable c] {g f : Nat → Option α} {r : α} (e1 : c → Ev g r) (e2 : ¬ c → Ev f r) : Ev (fun k => if c then g k else f k) r := by
 by_cases h : c
 ·exact Ev.tt h (e1 h)
 ·exact Ev.ff h (e2 h)
theorem Ev.bnd0 {o : Option α} {f : Nat → α → Option β} {a : α} {r : β} (h : o = some a) (k : Ev (fun n => f n a) r) : Ev (fun n => o.bind (f n)) r := by subst h; exact k
theorem Ev.ret {a r : α} (h : a = r) : Ev (fun _ => some a) r := ⟨0, fun _ _ => by rw [h]⟩
theorem Ev.eq {g : Nat → Option α} {r r' : α} (h : Ev g r) (e : r = r') : Ev g r' := e ▸ h
end
theorem wrap64_id {x : Int} (h0 : -9223372036854775808 ≤ x) (h1 : x ≤ 9223372036854775807) : wrap64 x = x := by unfold wrap64; omega
theorem wsucc {i : Nat} (h : i < 4611686018427387904) : wrap64 ((i : Int) + 1) = ((i + 1 : Nat) : Int) := by unfold wrap64; omega
theorem rd_nat (l : List Int) (i : Nat) : rd l (i : Int) = l.getD i 0 := rfl
theorem rd_get {l : List Int} {i : Nat} (h : i < l.length) : rd l (i : Int) = l[i] := by simp [rd_nat, List.getD_eq_getElem?_getD, List.getElem?_eq_getElem h]
end Go.Proofs.Ytbeajmcjfhbcjaa.P
namespace Go.Proofs.Ytbeajmcjfhbcjaa.P
open Go Go.RowKit Go.Proofs.YtbeajmcjfhbcjaaW.PrintWords
set_option linter.unusedVariables false
set_option linter.unusedSimpArgs false

theorem wrap_small {n : Nat} (h : n < 9223372036854775808) : IntKind.i64.wrap (n : Int) = n := by
 rw [IntKind.wrap_i64]; omega
theorem shl_pow {k : Nat} (h : k < 63) : shl .i64 1 (k : Int) = ((2 ^ k : Nat) : Int) := by
 have h1 : (2 : Nat) ^ k < 2 ^ 63 := Nat.pow_lt_pow_right (by decide) h
 unfold shl
 rw [show min (k : Int).toNat IntKind.i64.bits = k by simp [IntKind.bits]; omega, Int.one_mul]
 have := wrap_small (n := 2 ^ k) (by simpa using h1)
 simpa using this
theorem bits_and {a b : Nat} (ha : a < 4611686018427387904) (hb : b < 4611686018427387904) : Go.bits .and .i64 a b = ((a &&& b : Nat) : Int) :=
 (bits_nat .i64 62 (by decide) (fun n h0 h1 => by rw [IntKind.wrap_i64]; omega) a b (by simpa using ha) (by simpa using hb)).1
theorem bits_or {a b : Nat} (ha : a < 4611686018427387904) (hb : b < 4611686018427387904) : Go.bits .or .i64 a b = ((a ||| b : Nat) : Int) :=
 (bits_nat .i64 62 (by decide) (fun n h0 h1 => by rw [IntKind.wrap_i64]; omega) a b (by simpa using ha) (by simpa using hb)).2
theorem bits_xor {a b : Nat} (ha : a < 4611686018427387904) (hb : b < 4611686018427387904) : Go.bits .xor .i64 a b = ((a ^^^ b : Nat) : Int) := by
 have e : (BitVec.ofInt 64 (a : Int) ^^^ BitVec.ofInt 64 (b : Int)).toNat = a ^^^ b := by
  rw [BitVec.ofInt_natCast, BitVec.ofInt_natCast, BitVec.toNat_xor, BitVec.toNat_ofNat, BitVec.toNat_ofNat, Nat.mod_eq_of_lt (by omega), Nat.mod_eq_of_lt (by omega)]
 show IntKind.i64.wrap ((BitVec.ofInt 64 (a : Int) ^^^ BitVec.ofInt 64 (b : Int)).toNat : Int) = _
 rw [e]
 exact wrap_small (Nat.lt_of_lt_of_le (Nat.xor_lt_two_pow (n := 62) (by simpa using ha) (by simpa using hb)) (by decide))
def andNot (a b : Nat) : Nat := a ^^^ (a &&& b)
theorem testBit_andNot (a b i : Nat) : (andNot a b).testBit i = (a.testBit i && !b.testBit i) := by
 simp [andNot]
 cases a.testBit i <;> cases b.testBit i <;> rfl
theorem andNot_le (a b : Nat) : andNot a b ≤ a := by
 apply Nat.le_of_testBit
 intro i h
 rw [testBit_andNot] at h
 simp at h
 exact h.1
theorem bits_andNot {a b : Nat} (ha : a < 4611686018427387904) (hb : b < 4611686018427387904) : Go.bits .andNot .i64 a b = ((andNot a b : Nat) : Int) := by
 have e : (BitVec.ofInt 64 (a : Int) &&& ~~~ BitVec.ofInt 64 (b : Int)).toNat = andNot a b := by
  rw [BitVec.ofInt_natCast, BitVec.ofInt_natCast]
  apply Nat.eq_of_testBit_eq
  intro i
  rw [testBit_andNot, BitVec.testBit_toNat, BitVec.getLsbD_and, BitVec.getLsbD_not, BitVec.getLsbD_ofNat, BitVec.getLsbD_ofNat]
  by_cases h : i < 64
  ·simp [h]
  ·have : a.testBit i = false := Nat.testBit_lt_two_pow (Nat.lt_of_lt_of_le (by simpa using ha : a < 2 ^ 62) (Nat.pow_le_pow_right (by decide) (by omega)))
   simp [h, this]
 show IntKind.i64.wrap ((BitVec.ofInt 64 (a : Int) &&& ~~~ BitVec.ofInt 64 (b : Int)).toNat : Int) = _
 rw [e]
 exact wrap_small (by have := andNot_le a b; omega)
theorem shr_nat {m : Nat} (hm : m < 4611686018427387904) (k : Nat) : shr .i64 (m : Int) (k : Int) = ((m / 2 ^ k : Nat) : Int) := by
 unfold shr
 by_cases h : k ≤ 64
 ·rw [show min (k : Int).toNat IntKind.i64.bits = k by simp [IntKind.bits]; omega]
  simp
 ·rw [show min (k : Int).toNat IntKind.i64.bits = 64 by simp [IntKind.bits]; omega]
  have h1 : m / 2 ^ k = 0 := Nat.div_eq_of_lt (Nat.lt_of_lt_of_le (by simpa using hm : m < 2 ^ 62) (Nat.pow_le_pow_right (by decide) (by omega)))
  rw [h1]
  have : (m : Int) / 2 ^ 64 = ((m / 2 ^ 64 : Nat) : Int) := by simp
  rw [this, Nat.div_eq_of_lt (by omega)]
theorem bit_test {m : Nat} (hm : m < 4611686018427387904) (k : Nat) (c : Int) : (Go.bits .and .i64 (shr .i64 (m : Int) (k : Int)) 1 == c) = (((m.testBit k).toNat : Int) == c) := by
 rw [shr_nat hm, show (1 : Int) = ((1 : Nat) : Int) from rfl, bits_and (Nat.lt_of_le_of_lt (Nat.div_le_self _ _) hm) (by decide)]
 congr 2
 rw [Nat.testBit_eq_decide_div_mod_eq, Nat.and_one_is_mod]
 have := Nat.mod_two_eq_zero_or_one (m / 2 ^ k)
 rcases this with h | h <;> simp [h]
theorem bit_one {m : Nat} (hm : m < 4611686018427387904) (k : Nat) : (Go.bits .and .i64 (shr .i64 (m : Int) (k : Int)) 1 == 1) = m.testBit k := by
 rw [bit_test hm]
 cases m.testBit k <;> rfl
def setB (o g : Nat) (b : Bool) : Nat := if b then o ||| 2 ^ g else andNot o (2 ^ g)
theorem testBit_setB (o g : Nat) (b : Bool) (i : Nat) : (setB o g b).testBit i = if i = g then b else o.testBit i := by
 unfold setB
 cases b
 ·simp only [Bool.false_eq_true, if_false, testBit_andNot, Nat.testBit_two_pow]
  by_cases h : i = g
  ·simp [h]
  ·simp [h, show ¬ g = i from fun e => h e.symm]
 ·simp only [if_true, Nat.testBit_or, Nat.testBit_two_pow]
  by_cases h : i = g
  ·simp [h]
  ·simp [h, show ¬ g = i from fun e => h e.symm]
theorem setB_lt {o g n : Nat} (b : Bool) (ho : o < 2 ^ n) (hg : g < n) : setB o g b < 2 ^ n := by
 unfold setB
 split
 ·exact Nat.or_lt_two_pow ho (Nat.pow_lt_pow_right (by decide) hg)
 ·exact Nat.lt_of_le_of_lt (andNot_le _ _) ho
theorem setB_self {o g : Nat} : setB o g (o.testBit g) = o := by
 apply Nat.eq_of_testBit_eq
 intro i
 rw [testBit_setB]
 split
 ·rename_i h; rw [h]
 ·rfl
theorem xor_setB {o g : Nat} {b : Bool} (h : (o.testBit g) ≠ b) : o ^^^ 2 ^ g = setB o g b := by
 apply Nat.eq_of_testBit_eq
 intro i
 rw [testBit_setB, Nat.testBit_xor, Nat.testBit_two_pow]
 by_cases e : i = g
 ·subst e
  cases hb : b <;> cases ho : o.testBit i <;> simp_all
 ·simp [e, show ¬ g = i from fun e' => e e'.symm]
end Go.Proofs.Ytbeajmcjfhbcjaa.P
namespace Go.Proofs.Ytbeajmcjfhbcjaa.P
open Go.RowKit Go.Proofs.YtbeajmcjfhbcjaaW.PrintWords
set_option linter.unusedVariables false
set_option linter.unusedSimpArgs false

def pop : Nat → Nat → Nat
 | 0, _ => 0
 | n + 1, s => pop n s + (s.testBit n).toNat
theorem pop_congr {n s t : Nat} (h : ∀ i, i < n → s.testBit i = t.testBit i) : pop n s = pop n t := by
 induction n with
 | zero => rfl
 | succ n ih => simp only [pop]; rw [ih (fun i hi => h i (by omega)), h n (by omega)]
def gridOk (w h : Int) : Bool := decide (1 ≤ w ∧ w ≤ 4 ∧ 1 ≤ h ∧ h ≤ 4)
theorem gridOk_iff {w h : Int} : gridOk w h = true ↔ 1 ≤ w ∧ w ≤ 4 ∧ 1 ≤ h ∧ h ≤ 4 := by simp [gridOk]
theorem grid_cases {w h : Int} (hg : gridOk w h = true) : (w = 1 ∨ w = 2 ∨ w = 3 ∨ w = 4) ∧ (h = 1 ∨ h = 2 ∨ h = 3 ∨ h = 4) := by
 rw [gridOk_iff] at hg
 omega
def cellsOf (w h : Int) : Int := if gridOk w h then w * h else 0
def eastOf (w h : Int) : Int := (w - 1) * h
def gapsOf (w h : Int) : Int := if gridOk w h then (w - 1) * h + w * (h - 1) else 0
theorem cellsOf_range (w h : Int) : 0 ≤ cellsOf w h ∧ cellsOf w h ≤ 16 := by
 unfold cellsOf
 split
 ·rename_i hg
  obtain ⟨h1 | h1 | h1 | h1, h2 | h2 | h2 | h2⟩ := grid_cases hg <;> subst h1 <;> subst h2 <;> decide
 ·omega
theorem gapsOf_range (w h : Int) : 0 ≤ gapsOf w h ∧ gapsOf w h ≤ 24 := by
 unfold gapsOf
 split
 ·rename_i hg
  obtain ⟨h1 | h1 | h1 | h1, h2 | h2 | h2 | h2⟩ := grid_cases hg <;> subst h1 <;> subst h2 <;> decide
 ·omega
theorem pow_le {n : Int} (h0 : 0 ≤ n) (h1 : n ≤ 24) : (1 : Int) ≤ 2 ^ n.toNat ∧ (2 : Int) ^ n.toNat ≤ 16777216 := by
 obtain ⟨m, rfl⟩ := Int.eq_ofNat_of_zero_le h0
 have : m ≤ 24 := by omega
 clear h0 h1
 revert m
 decide +kernel
def isCellI (w h c : Int) : Bool := decide (0 ≤ c ∧ c < cellsOf w h)
def nbI (w h c d : Int) : Int :=
 if 0 ≤ c ∧ c < cellsOf w h then
  (if d = 0 ∧ 0 < c / w then c - w else if d = 1 ∧ c % w < w - 1 then c + 1 else if d = 2 ∧ c / w < h - 1 then c + w else if d = 3 ∧ 0 < c % w then c - 1 else -1)
 else -1
theorem cellsOf_valid {w h c : Int} (h1 : 0 ≤ c) (h2 : c < cellsOf w h) : gridOk w h = true ∧ cellsOf w h = w * h := by
 unfold cellsOf at *
 by_cases hg : gridOk w h = true
 ·exact ⟨hg, if_pos hg⟩
 ·rw [if_neg hg] at h2; omega
def gapsN (w h : Int) : Nat := (gapsOf w h).toNat
theorem gapsN_le (w h : Int) : gapsN w h ≤ 24 := by have := gapsOf_range w h; unfold gapsN; omega
theorem gapsN_cast (w h : Int) : ((gapsN w h : Nat) : Int) = gapsOf w h := by have := gapsOf_range w h; unfold gapsN; omega
def mazeOk (w h o : Int) : Bool := gridOk w h && decide (0 ≤ o ∧ o < 2 ^ gapsN w h)
theorem mazeOk_iff {w h o : Int} : mazeOk w h o = true ↔ gridOk w h = true ∧ ∃ n : Nat, o = (n : Int) ∧ n < 2 ^ gapsN w h := by
 unfold mazeOk
 simp only [Bool.and_eq_true, decide_eq_true_eq]
 constructor
 ·rintro ⟨h1, h2, h3⟩
  obtain ⟨n, rfl⟩ := Int.eq_ofNat_of_zero_le h2
  exact ⟨h1, n, rfl, by exact_mod_cast h3⟩
 ·rintro ⟨h1, n, rfl, h3⟩
  exact ⟨h1, by omega, by exact_mod_cast h3⟩
theorem open_small {w h : Int} {n : Nat} (hn : n < 2 ^ gapsN w h) : n < 16777216 := Nat.lt_of_lt_of_le hn (Nat.pow_le_pow_right (by decide) (gapsN_le w h))
def openI (n : Nat) (g : Int) : Bool := decide (0 ≤ g) && n.testBit g.toNat
def gapI (w h c d : Int) : Int :=
 if nbI w h c d < 0 then -1 else if d = 1 ∨ d = 3 then (min c (nbI w h c d)) / w * (w - 1) + (min c (nbI w h c d)) % w else (w - 1) * h + min c (nbI w h c d)
def endsI (w h g : Int) : Int × Int :=
 if 0 ≤ g ∧ g < gapsOf w h then (if g < (w - 1) * h then (g / (w - 1) * w + g % (w - 1), g / (w - 1) * w + g % (w - 1) + 1) else (g - (w - 1) * h, g - (w - 1) * h + w)) else (-1, -1)
theorem nb_dir {w h c d : Int} (hn : 0 ≤ nbI w h c d) : (d = 0 ∨ d = 1 ∨ d = 2 ∨ d = 3) ∧ 0 ≤ c ∧ c < cellsOf w h := by
 unfold nbI at hn
 by_cases hc : 0 ≤ c ∧ c < cellsOf w h
 ·rw [if_pos hc] at hn
  refine ⟨?_, hc⟩
  repeat' split at hn
  all_goals omega
 ·rw [if_neg hc] at hn
  omega
theorem grid_nat {w h : Int} (hg : gridOk w h = true) : ∃ W H : Nat, w = W ∧ h = H ∧ 1 ≤ W ∧ W < 5 ∧ 1 ≤ H ∧ H < 5 := by
 have := gridOk_iff.1 hg
 exact ⟨w.toNat, h.toNat, by omega, by omega, by omega, by omega, by omega, by omega⟩
def StepFacts (w h c d : Int) : Prop :=
 nbI w h c d = -1 ∧ gapI w h c d = -1 ∨
 (0 ≤ nbI w h c d ∧ nbI w h c d < cellsOf w h ∧ nbI w h c d ≠ c ∧ 0 ≤ gapI w h c d ∧ gapI w h c d < gapsOf w h ∧
  endsI w h (gapI w h c d) = (min c (nbI w h c d), max c (nbI w h c d)) ∧ nbI w h (nbI w h c d) ((d + 2) % 4) = c ∧ gapI w h (nbI w h c d) ((d + 2) % 4) = gapI w h c d)
instance (w h c d : Int) : Decidable (StepFacts w h c d) := by unfold StepFacts; infer_instance
theorem step_facts_all : ∀ W : Nat, W < 5 → ∀ H : Nat, H < 5 → ∀ c : Nat, c < 16 → ∀ d : Nat, d < 4 → StepFacts W H c d := by decide +kernel
theorem step_facts (w h c d : Int) : StepFacts w h c d := by
 by_cases hn : 0 ≤ nbI w h c d
 ·obtain ⟨hd, h0, h1⟩ := nb_dir hn
  obtain ⟨hg, hcw⟩ := cellsOf_valid h0 h1
  obtain ⟨W, H, rfl, rfl, hW1, hW2, hH1, hH2⟩ := grid_nat hg
  have hcr := cellsOf_range (W : Int) (H : Int)
  have := step_facts_all W hW2 H hH2 c.toNat (by omega) d.toNat (by omega)
  rwa [show ((c.toNat : Nat) : Int) = c by omega, show ((d.toNat : Nat) : Int) = d by omega] at this
 ·have hm : nbI w h c d = -1 := by
   unfold nbI at *
   by_cases hc : 0 ≤ c ∧ c < cellsOf w h
   ·rw [if_pos hc] at *
    obtain ⟨hg, hcw⟩ := cellsOf_valid hc.1 hc.2
    have hgr := gridOk_iff.1 hg
    have hyw : c / w * w + c % w = c := by rw [Int.mul_comm]; exact Int.mul_ediv_add_emod c w
    have hx0 : 0 ≤ c % w := Int.emod_nonneg _ (by omega)
    repeat' split
    ·rename_i hh
     rw [if_pos hh] at hn
     have : w ≤ c := by
      have : w * 1 ≤ w * (c / w) := Int.mul_le_mul_of_nonneg_left (by omega) (by omega)
      rw [Int.mul_comm (c / w)] at hyw
      omega
     omega
    ·rename_i h1 hh
     rw [if_neg h1, if_pos hh] at hn
     omega
    ·rename_i h1 h2 hh
     rw [if_neg h1, if_neg h2, if_pos hh] at hn
     omega
    ·rename_i h1 h2 h3 hh
     rw [if_neg h1, if_neg h2, if_neg h3, if_pos hh] at hn
     have : 1 ≤ c := by
      have : 0 ≤ c / w * w := Int.mul_nonneg (Int.ediv_nonneg hc.1 (by omega)) (by omega)
      omega
     omega
    ·rfl
   ·rw [if_neg hc]
  refine .inl ⟨hm, ?_⟩
  unfold gapI
  rw [if_pos (by omega)]
def EndFacts (w h g : Int) : Prop :=
 0 ≤ g ∧ g < gapsOf w h → 0 ≤ (endsI w h g).1 ∧ (endsI w h g).1 < (endsI w h g).2 ∧ (endsI w h g).2 < cellsOf w h ∧
  (nbI w h (endsI w h g).1 1 = (endsI w h g).2 ∧ gapI w h (endsI w h g).1 1 = g ∨ nbI w h (endsI w h g).1 2 = (endsI w h g).2 ∧ gapI w h (endsI w h g).1 2 = g)
instance (w h g : Int) : Decidable (EndFacts w h g) := by unfold EndFacts; infer_instance
theorem nb_lt {w h c d : Int} : nbI w h c d = -1 ∨ 0 ≤ nbI w h c d ∧ nbI w h c d < cellsOf w h := by
 rcases step_facts w h c d with h1 | h1
 ·exact .inl h1.1
 ·exact .inr ⟨h1.1, h1.2.1⟩
/-- Connected by the edges of n. -/
inductive Cn (e : Nat → Nat × Nat) (n : Nat) : Nat → Nat → Prop
  | refl (x : Nat) : Cn e n x x
  | fwd {x : Nat} (k : Nat) : n.testBit k = true → Cn e n x (e k).1 → Cn e n x (e k).2
  | bwd {x : Nat} (k : Nat) : n.testBit k = true → Cn e n x (e k).2 → Cn e n x (e k).1
theorem Cn.trans {e : Nat → Nat × Nat} {n x y z : Nat} (h : Cn e n x y) (g : Cn e n y z) : Cn e n x z := by
  induction g with
  | refl => exact h
  | fwd k hk _ ih => exact .fwd k hk ih
  | bwd k hk _ ih => exact .bwd k hk ih
theorem Cn.edge {e : Nat → Nat × Nat} {n k : Nat} (h : n.testBit k = true) : Cn e n (e k).1 (e k).2 := .fwd k h (.refl _)
theorem Cn.edge' {e : Nat → Nat × Nat} {n k : Nat} (h : n.testBit k = true) : Cn e n (e k).2 (e k).1 := .bwd k h (.refl _)
theorem Cn.symm {e : Nat → Nat × Nat} {n x y : Nat} (h : Cn e n x y) : Cn e n y x := by
  induction h with
  | refl => exact .refl _
  | fwd k hk _ ih => exact (Cn.edge' hk).trans ih
  | bwd k hk _ ih => exact (Cn.edge hk).trans ih
theorem Cn.mono {e : Nat → Nat × Nat} {n m x y : Nat} (hm : ∀ i, n.testBit i = true → m.testBit i = true) (h : Cn e n x y) : Cn e m x y := by
  induction h with
  | refl => exact .refl _
  | fwd k hk _ ih => exact .fwd k (hm k hk) ih
  | bwd k hk _ ih => exact .bwd k (hm k hk) ih
/-- How many of the numbers under v. -/
def cnt (p : Nat → Bool) : Nat → Nat
  | 0 => 0
  | v + 1 => cnt p v + (p v).toNat
theorem pop_setB {m n j : Nat} (hj : j < m) (h : n.testBit j = false) : pop m (setB n j true) = pop m n + 1 := by
  induction m with
  | zero => omega
  | succ m ih =>
    simp only [pop]
    by_cases e : j = m
    · subst e
      rw [pop_congr (t := n) (fun i hi => by rw [testBit_setB, if_neg (by omega)]), testBit_setB, if_pos rfl, h]
      simp
    · rw [ih (by omega), testBit_setB, if_neg (by omega)]
      omega
def upd (D : Nat → Int) (y : Nat) (v : Int) : Nat → Int := fun c => if c = y then v else D c
/-- One direction of one cell. -/
def relax (s : Nat → Nat → Int) (x d : Nat) (S : (Nat → Int) × List Nat) : (Nat → Int) × List Nat :=
  if 0 ≤ s x d ∧ S.1 (s x d).toNat < 0 then (upd S.1 (s x d).toNat (S.1 x + 1), S.2 ++ [(s x d).toNat]) else S
def bround (s : Nat → Nat → Int) (x : Nat) (S : (Nat → Int) × List Nat) : (Nat → Int) × List Nat := relax s x 3 (relax s x 2 (relax s x 1 (relax s x 0 S)))
/-- Steps stay among v cells. -/
def Rng (s : Nat → Nat → Int) (v : Nat) : Prop := ∀ x d, x < v → d < 4 → s x d = -1 ∨ (0 ≤ s x d ∧ s x d < (v : Int))

structure BInv (s : Nat → Nat → Int) (v src : Nat) (S : (Nat → Int) × List Nat) (i : Nat) (m : Nat) : Prop where
  src0 : S.1 src = 0
  zero : ∀ c, S.1 c = 0 → c = src
  srcq : src ∈ S.2
  inr : ∀ c ∈ S.2, c < v
  nodup : S.2.Nodup
  neg : ∀ c, S.1 c = -1 ∨ 0 ≤ S.1 c
  mem : ∀ c, 0 ≤ S.1 c ↔ c ∈ S.2
  sorted : S.2.Pairwise (fun a b => S.1 a ≤ S.1 b)
  top : ∀ x, S.2[i]? = some x → ∀ c ∈ S.2, S.1 c ≤ S.1 x + 1
  done : ∀ j x, S.2[j]? = some x → ∀ d, d < 4 → (j < i ∨ (j = i ∧ d < m)) → 0 ≤ s x d → 0 ≤ S.1 (s x d).toNat ∧ S.1 (s x d).toNat ≤ S.1 x + 1
  pred : ∀ c ∈ S.2, c = src ∨ ∃ c' d, c' ∈ S.2 ∧ d < 4 ∧ s c' d = (c : Int) ∧ S.1 c = S.1 c' + 1
theorem BInv.relax {s : Nat → Nat → Int} {v src : Nat} (hs : Rng s v) {S : (Nat → Int) × List Nat} {i m x : Nat} (hm : m < 4) (hx : S.2[i]? = some x) (I : BInv s v src S i m) :
    BInv s v src (relax s x m S) i (m + 1) ∧ (relax s x m S).2[i]? = some x := by
  have hxq : x ∈ S.2 := List.mem_of_getElem? hx
  have hi : i < S.2.length := by
    rcases Nat.lt_or_ge i S.2.length with h | h
    · exact h
    · rw [List.getElem?_eq_none h] at hx; cases hx
  have hxv := I.inr x hxq
  have hx0 := (I.mem x).2 hxq
  unfold Go.Proofs.Ytbeajmcjfhbcjaa.P.relax
  by_cases hc : 0 ≤ s x m ∧ S.1 (s x m).toNat < 0
  · rw [if_pos hc]
    obtain ⟨y, hy⟩ : ∃ y : Nat, s x m = y := ⟨(s x m).toNat, by omega⟩
    have hyv : y < v := by have := hs x m hxv hm; omega
    rw [hy] at hc ⊢
    simp only [Int.toNat_natCast] at hc ⊢
    have hyq : y ∉ S.2 := fun h => by have := (I.mem y).2 h; omega
    have keep : ∀ c, c ∈ S.2 → upd S.1 y (S.1 x + 1) c = S.1 c := by
      intro c h
      unfold upd
      rw [if_neg]
      rintro rfl
      exact hyq h
    have uy : upd S.1 y (S.1 x + 1) y = S.1 x + 1 := by unfold upd; rw [if_pos rfl]
    have idx : ∀ j z, (S.2 ++ [y])[j]? = some z → S.2[j]? = some z ∨ (j = S.2.length ∧ z = y) := by
      intro j z h
      rcases Nat.lt_or_ge j S.2.length with h1 | h1
      · rw [List.getElem?_append_left h1] at h; exact .inl h
      · rw [List.getElem?_append_right h1] at h
        have : j - S.2.length = 0 := by
          rcases Nat.eq_zero_or_pos (j - S.2.length) with h2 | h2
          · exact h2
          · rw [List.getElem?_eq_none (by simp only [List.length_singleton]; omega)] at h; cases h
        rw [this] at h
        simp at h
        exact .inr ⟨by omega, h.symm⟩
    have I0 : ∀ c, (upd S.1 y (S.1 x + 1), S.2 ++ [y]).1 c = 0 → c = src := by
      intro c
      show upd _ _ _ c = 0 → _
      unfold upd
      split
      · intro h; omega
      · exact I.zero c
    refine ⟨{ src0 := ?_, zero := I0, srcq := ?_, inr := ?_, nodup := ?_, neg := ?_, mem := ?_, sorted := ?_, top := ?_, done := ?_, pred := ?_ }, by rw [List.getElem?_append_left hi]; exact hx⟩
    · show upd _ _ _ src = 0
      rw [keep _ I.srcq]; exact I.src0
    · exact List.mem_append_left _ I.srcq
    · intro c hcq
      rcases List.mem_append.1 hcq with h | h
      · exact I.inr c h
      · simp at h; omega
    · rw [List.nodup_append]
      refine ⟨I.nodup, by simp, ?_⟩
      intro a ha b hb hab
      simp at hb
      subst hab hb
      exact hyq ha
    · intro c
      show upd _ _ _ c = -1 ∨ 0 ≤ upd _ _ _ c
      by_cases e : c = y
      · subst e; rw [uy]; omega
      · rw [show upd S.1 y (S.1 x + 1) c = S.1 c from if_neg e]; exact I.neg c
    · intro c
      rw [List.mem_append, List.mem_singleton]
      show 0 ≤ upd _ _ _ c ↔ _
      unfold upd
      by_cases e : c = y
      · rw [if_pos e]; exact ⟨fun _ => .inr e, fun _ => by omega⟩
      · rw [if_neg e, I.mem]; simp [e]
    · rw [List.pairwise_append]
      refine ⟨I.sorted.imp_of_mem fun {a b} ha hb h => ?_, by simp, ?_⟩
      · show upd _ _ _ a ≤ upd _ _ _ b
        rw [keep a ha, keep b hb]; exact h
      · intro a ha b hb
        simp at hb
        subst hb
        show upd _ _ _ a ≤ upd _ _ _ b
        rw [keep a ha, uy]
        exact I.top x hx a ha
    · intro z hz c hcq
      rw [List.getElem?_append_left hi, hx] at hz
      obtain rfl := Option.some.inj hz
      show upd _ _ _ c ≤ upd _ _ _ x + 1
      rw [keep x hxq]
      rcases List.mem_append.1 hcq with h | h
      · rw [keep c h]; exact I.top x hx c h
      · simp at h; subst h; rw [uy]; omega
    · intro j z hz d hd hj h0
      rcases idx j z hz with h | ⟨h, _⟩
      · have hzq : z ∈ S.2 := List.mem_of_getElem? h
        show 0 ≤ upd _ _ _ _ ∧ upd _ _ _ _ ≤ upd _ _ _ z + 1
        rw [keep z hzq]
        by_cases e : j = i ∧ d = m
        · obtain ⟨rfl, rfl⟩ := e
          rw [hx] at h
          obtain rfl := Option.some.inj h
          rw [hy, Int.toNat_natCast, uy]
          omega
        · have := I.done j z h d hd (by omega) h0
          have h1 := (I.mem _).1 this.1
          rw [keep _ h1]
          exact this
      · omega
    · intro c hcq
      rcases List.mem_append.1 hcq with h | h
      · rcases I.pred c h with h1 | ⟨c', d, h1, h2, h3, h4⟩
        · exact .inl h1
        · refine .inr ⟨c', d, List.mem_append_left _ h1, h2, h3, ?_⟩
          show upd _ _ _ c = upd _ _ _ c' + 1
          rw [keep c h, keep c' h1]; exact h4
      · simp at h
        subst h
        refine .inr ⟨x, m, List.mem_append_left _ hxq, hm, hy, ?_⟩
        show upd _ _ _ c = upd _ _ _ x + 1
        rw [uy, keep x hxq]
  · rw [if_neg hc]
    refine ⟨{ I with done := ?_ }, hx⟩
    intro j z hz d hd hj h0
    by_cases e : j = i ∧ d = m
    · obtain ⟨rfl, rfl⟩ := e
      rw [hx] at hz
      obtain rfl := Option.some.inj hz
      have h1 : 0 ≤ S.1 (s x d).toNat := by
        have := I.neg (s x d).toNat
        omega
      exact ⟨h1, I.top x hx _ ((I.mem _).1 h1)⟩
    · exact I.done j z hz d hd (by omega) h0
theorem BInv.next {s : Nat → Nat → Int} {v src : Nat} {S : (Nat → Int) × List Nat} {i x : Nat} (hx : S.2[i]? = some x) (I : BInv s v src S i 4) : BInv s v src S (i + 1) 0 :=
  { I with
    top := fun z hz c hc => by
      have h1 := I.top x hx c hc
      have h2 := List.pairwise_iff_getElem.1 I.sorted i (i + 1)
      obtain ⟨a, rfl⟩ := List.getElem?_eq_some_iff.1 hx
      obtain ⟨b, rfl⟩ := List.getElem?_eq_some_iff.1 hz
      have := h2 a b (by omega)
      omega
    done := fun j z hz d hd hj h0 => I.done j z hz d hd (by omega) h0 }
theorem BInv.round {s : Nat → Nat → Int} {v src : Nat} (hs : Rng s v) {S : (Nat → Int) × List Nat} {i x : Nat} (hx : S.2[i]? = some x) (I : BInv s v src S i 0) : BInv s v src (bround s x S) (i + 1) 0 := by
  obtain ⟨I1, h1⟩ := I.relax hs (by omega) hx
  obtain ⟨I2, h2⟩ := I1.relax hs (by omega) h1
  obtain ⟨I3, h3⟩ := I2.relax hs (by omega) h2
  obtain ⟨I4, h4⟩ := I3.relax hs (by omega) h3
  exact I4.next h4
theorem nodup_len {v : Nat} : ∀ {q : List Nat}, q.Nodup → (∀ c ∈ q, c < v) → q.length ≤ v := by
  induction v with
  | zero =>
    intro q _ h
    cases q with
    | nil => simp
    | cons a l => have := h a (by simp); omega
  | succ v ih =>
    intro q hn h
    have h1 := ih (q := q.erase v) (hn.erase v) (fun c hc => by
      have h1 := h c (List.mem_of_mem_erase hc)
      have : c ≠ v := by rintro rfl; exact absurd hc (List.Nodup.not_mem_erase hn)
      omega)
    have h2 := List.length_erase (a := v) (l := q)
    split at h2 <;> omega
theorem BInv.len {s : Nat → Nat → Int} {v src : Nat} {S : (Nat → Int) × List Nat} {i m : Nat} (I : BInv s v src S i m) : S.2.length ≤ v := nodup_len I.nodup I.inr
/-- What distances are. -/
structure Dist (s : Nat → Nat → Int) (v src : Nat) (D : Nat → Int) : Prop where
  src0 : D src = 0
  zero : ∀ c, D c = 0 → c = src
  neg : ∀ c, D c = -1 ∨ 0 ≤ D c
  inr : ∀ c, 0 ≤ D c → c < v
  lip : ∀ x d, d < 4 → 0 ≤ D x → 0 ≤ s x d → 0 ≤ D (s x d).toNat ∧ D (s x d).toNat ≤ D x + 1
  pred : ∀ c, 0 < D c → ∃ c' d, d < 4 ∧ s c' d = (c : Int) ∧ 0 ≤ D c' ∧ D c = D c' + 1
/-- Steps are the edges of n. -/
structure Net (s : Nat → Nat → Int) (e : Nat → Nat × Nat) (v n : Nat) : Prop where
  rng : Rng s v
  edge : ∀ x d, x < v → d < 4 → 0 ≤ s x d → ∃ k, n.testBit k = true ∧ (e k = (x, (s x d).toNat) ∨ e k = ((s x d).toNat, x))
  lt : ∀ k, n.testBit k = true → (e k).1 < v ∧ (e k).2 < v
  fwd : ∀ k, n.testBit k = true → ∃ d, d < 4 ∧ s (e k).1 d = ((e k).2 : Int)
  bwd : ∀ k, n.testBit k = true → ∃ d, d < 4 ∧ s (e k).2 d = ((e k).1 : Int)
def ends (w h : Int) (g : Nat) : Nat × Nat := ((endsI w h g).1.toNat, (endsI w h g).2.toNat)
def ec (c : Nat) (A : Nat → Nat → Int) : Nat → Nat → Int := fun j d => if d < c then A j d else A j (d + 1)
end Go.Proofs.Ytbeajmcjfhbcjaa.P
namespace Go.Proofs.Ytbeajmcjfhbcjaa.P
open Go.RowKit Go.Proofs.YtbeajmcjfhbcjaaW.PrintWords
set_option linter.unusedVariables false
set_option linter.unusedSimpArgs false

def dl (x y : Nat) : Int := if x = y then 1 else 0
def vg (l : Nat → Nat) (r : Nat) (e : Nat × Nat) (x : Nat) : Int := if x = r then 0 else dl x (l e.1) - dl x (l e.2)
section
variable {e : Nat → Nat × Nat} {E : Nat} {l : Nat → Nat} {r : Nat} {U : Nat → Bool} {g P Q : Nat}
variable (hl : ∀ x, l (l x) = l x) (hr : l r = r) (hg : g < E) (hU : U g = true) (hP : P = l (e g).1 ∧ Q = l (e g).2 ∨ P = l (e g).2 ∧ Q = l (e g).1) (hPQ : P ≠ Q)
include hl hr hg hU hP hPQ
end
end Go.Proofs.Ytbeajmcjfhbcjaa.P
namespace Go.Proofs.Ytbeajmcjfhbcjaa.P
open Go.RowKit Go.Proofs.YtbeajmcjfhbcjaaW.PrintWords
set_option linter.unusedVariables false
set_option linter.unusedSimpArgs false

def eG (W b a : Nat) : Nat := b * (W - 1) + a
def sG (W H b a : Nat) : Nat := (W - 1) * H + (b * W + a)
def geoB (W H a b : Nat) : Bool :=
 decide ((a + 1 < W → b < H → eG W b a < gapsN W H ∧ eG W b a < (W - 1) * H ∧ ends W H (eG W b a) = (b * W + a, b * W + a + 1) ∧ gapI W H ((b * W + a : Nat) : Int) 1 = (eG W b a : Nat)) ∧
  (a < W → b + 1 < H → sG W H b a < gapsN W H ∧ (W - 1) * H ≤ sG W H b a ∧ ends W H (sG W H b a) = (b * W + a, b * W + a + W) ∧ gapI W H ((b * W + a : Nat) : Int) 2 = (sG W H b a : Nat)))
theorem geo_all : ∀ W : Nat, W < 5 → ∀ H : Nat, H < 5 → ∀ a : Nat, a < 4 → ∀ b : Nat, b < 4 → geoB W H a b = true := by decide +kernel
theorem geo {W H a b : Nat} (hW : W < 5) (hH : H < 5) (ha : a < 4) (hb : b < 4) : (a + 1 < W → b < H → eG W b a < gapsN W H ∧ eG W b a < (W - 1) * H ∧ ends W H (eG W b a) = (b * W + a, b * W + a + 1) ∧ gapI W H ((b * W + a : Nat) : Int) 1 = (eG W b a : Nat)) ∧
  (a < W → b + 1 < H → sG W H b a < gapsN W H ∧ (W - 1) * H ≤ sG W H b a ∧ ends W H (sG W H b a) = (b * W + a, b * W + a + W) ∧ gapI W H ((b * W + a : Nat) : Int) 2 = (sG W H b a : Nat)) := of_decide_eq_true (geo_all W hW H hH a ha b hb)
theorem eG_facts {W H a b : Nat} (hW : W < 5) (hH : H < 5) (ha : a + 1 < W) (hb : b < H) :
  eG W b a < gapsN W H ∧ eG W b a < (W - 1) * H ∧ ends W H (eG W b a) = (b * W + a, b * W + a + 1) ∧ gapI W H ((b * W + a : Nat) : Int) 1 = (eG W b a : Nat) := (geo hW hH (by omega) (by omega)).1 ha hb
theorem sG_facts {W H a b : Nat} (hW : W < 5) (hH : H < 5) (ha : a < W) (hb : b + 1 < H) :
  sG W H b a < gapsN W H ∧ (W - 1) * H ≤ sG W H b a ∧ ends W H (sG W H b a) = (b * W + a, b * W + a + W) ∧ gapI W H ((b * W + a : Nat) : Int) 2 = (sG W H b a : Nat) := (geo hW hH (by omega) (by omega)).2 ha hb
theorem pair_inj {n a b c d : Nat} (ha : a < n) (hc : c < n) (h : b * n + a = d * n + c) : a = c ∧ b = d := by
 have h1 : (b * n + a) / n = b := by rw [Nat.mul_comm, Nat.mul_add_div (by omega), Nat.div_eq_of_lt ha]; omega
 have h2 : (d * n + c) / n = d := by rw [Nat.mul_comm, Nat.mul_add_div (by omega), Nat.div_eq_of_lt hc]; omega
 rw [h, h2] at h1
 subst h1
 exact ⟨by omega, rfl⟩
theorem eG_inj {W a b c d : Nat} (ha : a + 1 < W) (hc : c + 1 < W) (h : eG W b a = eG W d c) : a = c ∧ b = d := pair_inj (n := W - 1) (by omega) (by omega) h
theorem sG_inj {W H a b c d : Nat} (ha : a < W) (hc : c < W) (h : sG W H b a = sG W H d c) : a = c ∧ b = d := pair_inj (n := W) ha hc (by unfold sG at h; omega)
def Inn (W H x y rw rh g : Nat) : Prop :=
 (∃ a b, x ≤ a ∧ a + 1 < x + rw ∧ y ≤ b ∧ b < y + rh ∧ g = eG W b a) ∨ (∃ a b, x ≤ a ∧ a < x + rw ∧ y ≤ b ∧ b + 1 < y + rh ∧ g = sG W H b a)
theorem Inn.mono {W H x y rw rh x' y' rw' rh' g : Nat} (h1 : x' ≤ x) (h2 : x + rw ≤ x' + rw') (h3 : y' ≤ y) (h4 : y + rh ≤ y' + rh') (h : Inn W H x y rw rh g) : Inn W H x' y' rw' rh' g := by
 rcases h with ⟨a, b, p, q, r, s, e⟩ | ⟨a, b, p, q, r, s, e⟩
 ·exact .inl ⟨a, b, by omega, by omega, by omega, by omega, e⟩
 ·exact .inr ⟨a, b, by omega, by omega, by omega, by omega, e⟩
section
variable {W H : Nat} (hW : W < 5) (hH : H < 5)
include hW hH
theorem inn_e {x y rw rh a b : Nat} (hx : x + rw ≤ W) (hy : y + rh ≤ H) (ha : a + 1 < W) (hb : b < H) : Inn W H x y rw rh (eG W b a) ↔ x ≤ a ∧ a + 1 < x + rw ∧ y ≤ b ∧ b < y + rh := by
 constructor
 ·rintro (⟨c, d, p, q, r, s, e⟩ | ⟨c, d, p, q, r, s, e⟩)
  ·obtain ⟨rfl, rfl⟩ := eG_inj ha (by omega) e
   exact ⟨p, q, r, s⟩
  ·have := (eG_facts hW hH ha hb).2.1
   have := (sG_facts hW hH (a := c) (b := d) (by omega) (by omega)).2.1
   omega
 ·rintro ⟨p, q, r, s⟩
  exact .inl ⟨a, b, p, q, r, s, rfl⟩
theorem inn_s {x y rw rh a b : Nat} (hx : x + rw ≤ W) (hy : y + rh ≤ H) (ha : a < W) (hb : b + 1 < H) : Inn W H x y rw rh (sG W H b a) ↔ x ≤ a ∧ a < x + rw ∧ y ≤ b ∧ b + 1 < y + rh := by
 constructor
 ·rintro (⟨c, d, p, q, r, s, e⟩ | ⟨c, d, p, q, r, s, e⟩)
  ·have := (sG_facts hW hH ha hb).2.1
   have := (eG_facts hW hH (a := c) (b := d) (by omega) (by omega)).2.1
   omega
  ·obtain ⟨rfl, rfl⟩ := sG_inj ha (by omega) e
   exact ⟨p, q, r, s⟩
 ·rintro ⟨p, q, r, s⟩
  exact .inr ⟨a, b, p, q, r, s, rfl⟩
theorem inn_lt {x y rw rh g : Nat} (hx : x + rw ≤ W) (hy : y + rh ≤ H) (h : Inn W H x y rw rh g) : g < gapsN W H := by
 rcases h with ⟨a, b, p, q, r, s, rfl⟩ | ⟨a, b, p, q, r, s, rfl⟩
 ·exact (eG_facts hW hH (by omega) (by omega)).1
 ·exact (sG_facts hW hH (by omega) (by omega)).1
end
def closeL (gs : Nat → Nat) (p : Nat) : Nat → Nat → Nat
 | 0, o => o
 | n + 1, o => if n = p then closeL gs p n o else setB (closeL gs p n o) (gs n) false
theorem closeL_out {gs : Nat → Nat} {p g : Nat} : ∀ {n o : Nat}, (∀ i, i < n → i ≠ p → gs i ≠ g) → (closeL gs p n o).testBit g = o.testBit g
 | 0, o, _ => rfl
 | n + 1, o, h => by
  unfold closeL
  have ih := closeL_out (gs := gs) (p := p) (g := g) (n := n) (o := o) (fun i hi => h i (by omega))
  split
  ·exact ih
  ·rename_i e
   rw [testBit_setB, if_neg (Ne.symm (h n (by omega) e))]
   exact ih
theorem closeL_lt {gs : Nat → Nat} {p E : Nat} : ∀ {n o : Nat}, o < 2 ^ E → (∀ i, i < n → gs i < E) → closeL gs p n o < 2 ^ E
 | 0, o, h, _ => h
 | n + 1, o, h, hg => by
  unfold closeL
  have ih := closeL_lt (gs := gs) (p := p) (n := n) h (fun i hi => hg i (by omega))
  split
  ·exact ih
  ·exact setB_lt false ih (hg n (by omega))
theorem setB_back {n j : Nat} (h : n.testBit j = true) : setB (setB n j false) j true = n := by
 apply Nat.eq_of_testBit_eq
 intro i
 rw [testBit_setB, testBit_setB]
 split
 ·rename_i e; rw [e, h]
 ·rfl
theorem setB_on {n j : Nat} (h : n.testBit j = true) : setB n j true = n := by
 apply Nat.eq_of_testBit_eq
 intro i
 rw [testBit_setB]
 split
 ·rename_i e; rw [e, h]
 ·rfl
theorem pop_clear {m n j : Nat} (hj : j < m) (h : n.testBit j = true) : pop m (setB n j false) + 1 = pop m n := by
 have := pop_setB (n := setB n j false) hj (by rw [testBit_setB, if_pos rfl])
 rw [setB_back h] at this
 exact this.symm
theorem closeL_pop {gs : Nat → Nat} {p E : Nat} : ∀ {n o : Nat}, (∀ i, i < n → gs i < E ∧ o.testBit (gs i) = true) → (∀ i j, i < n → j < n → gs i = gs j → i = j) → pop E (closeL gs p n o) + (n - if p < n then 1 else 0) = pop E o
 | 0, o, _, _ => by simp [closeL]
 | n + 1, o, h, hi => by
  have ih := closeL_pop (p := p) (n := n) (o := o) (fun i hi => h i (by omega)) (fun i j h1 h2 => hi i j (by omega) (by omega))
  unfold closeL
  by_cases e : n = p
  ·subst e
   rw [if_pos rfl]
   rw [if_neg (by omega)] at ih
   rw [if_pos (by omega)]
   omega
  ·rw [if_neg e]
   have ho : (closeL gs p n o).testBit (gs n) = true := by
    rw [closeL_out (fun i h1 _ he => by have := hi i n (by omega) (by omega) he; omega)]
    exact (h n (by omega)).2
   have := pop_clear (h n (by omega)).1 ho
   by_cases hp : p < n
   ·rw [if_pos hp] at ih; rw [if_pos (by omega)]; omega
   ·rw [if_neg hp] at ih; rw [if_neg (by omega)]; omega
def nx (l : List Int) : Nat := (max (l.headD 0) 0).toNat
def divN (W H : Nat) : Nat → Nat → Nat → Nat → Nat → List Int → Nat → Nat → Nat × Nat × List Int
 | 0, _, _, _, _, l, o, c => (o, c, l)
 | f + 1, x, y, rw, rh, l, o, c =>
  if rw = 1 ∨ rh = 1 then (o, c, l)
  else if rw ≤ rh then
   let k := nx l % (rh - 1)
   let r := divN W H f x y rw (k + 1) l.tail.tail (closeL (fun i => sG W H (y + k) (x + i)) (nx l.tail % rw) rw o) (c + 1)
   divN W H f x (y + k + 1) rw (rh - k - 1) r.2.2 r.1 r.2.1
  else
   let k := nx l % (rw - 1)
   let r := divN W H f x y (k + 1) rh l.tail.tail (closeL (fun i => eG W (y + i) (x + k)) (nx l.tail % rh) rh o) (c + 1)
   divN W H f (x + k + 1) y (rw - k - 1) rh r.2.2 r.1 r.2.1
structure Divd (W H x y rw rh o o' : Nat) : Prop where
 lt : o' < 2 ^ gapsN W H
 out : ∀ g, ¬ Inn W H x y rw rh g → o'.testBit g = o.testBit g
 conn : ∀ m a b c d, (∀ g, Inn W H x y rw rh g → o'.testBit g = true → m.testBit g = true) → x ≤ a → a < x + rw → y ≤ b → b < y + rh → x ≤ c → c < x + rw → y ≤ d → d < y + rh → Cn (ends W H) m (b * W + a) (d * W + c)
 cnt : pop (gapsN W H) o' + (rw - 1) * (rh - 1) = pop (gapsN W H) o
theorem cn_e {W H m a b : Nat} (hW : W < 5) (hH : H < 5) (ha : a + 1 < W) (hb : b < H) (h : m.testBit (eG W b a) = true) : Cn (ends W H) m (b * W + a) (b * W + (a + 1)) := by
 have e := (eG_facts hW hH ha hb).2.2.1
 have := Cn.edge (e := ends W H) h
 rw [e] at this
 exact this
theorem cn_s {W H m a b : Nat} (hW : W < 5) (hH : H < 5) (ha : a < W) (hb : b + 1 < H) (h : m.testBit (sG W H b a) = true) : Cn (ends W H) m (b * W + a) ((b + 1) * W + a) := by
 have e := (sG_facts hW hH ha hb).2.2.1
 have := Cn.edge (e := ends W H) h
 rw [e] at this
 rw [show (b + 1) * W + a = b * W + a + W by rw [Nat.add_mul]; omega]
 exact this
theorem line_conn {W H x y rw rh o : Nat} (hW : W < 5) (hH : H < 5) (hx : x + rw ≤ W) (hy : y + rh ≤ H) (h1 : rw = 1 ∨ rh = 1) (ho : ∀ g, Inn W H x y rw rh g → o.testBit g = true) {a b : Nat} (ha : x ≤ a) (ha' : a < x + rw) (hb : y ≤ b) (hb' : b < y + rh) :
  Cn (ends W H) o (y * W + x) (b * W + a) := by
 rcases h1 with rfl | rfl
 ·obtain rfl : a = x := by omega
  obtain ⟨t, rfl⟩ : ∃ t, b = y + t := ⟨b - y, by omega⟩
  clear ha ha' hb
  induction t with
  | zero => exact .refl _
  | succ t ih => exact (ih (by omega)).trans (cn_s hW hH (by omega) (by omega) (ho _ (.inr ⟨a, y + t, by omega, by omega, by omega, by omega, rfl⟩)))
 ·obtain rfl : b = y := by omega
  obtain ⟨t, rfl⟩ : ∃ t, a = x + t := ⟨a - x, by omega⟩
  clear hb hb' ha
  induction t with
  | zero => exact .refl _
  | succ t ih => exact (ih (by omega)).trans (cn_e hW hH (by omega) (by omega) (ho _ (.inl ⟨x + t, b, by omega, by omega, by omega, by omega, rfl⟩)))
theorem divd_line {W H x y rw rh o : Nat} (hW : W < 5) (hH : H < 5) (hx : x + rw ≤ W) (hy : y + rh ≤ H) (h1 : rw = 1 ∨ rh = 1) (hlt : o < 2 ^ gapsN W H) (ho : ∀ g, Inn W H x y rw rh g → o.testBit g = true) : Divd W H x y rw rh o o where
 lt := hlt
 out := fun _ _ => rfl
 conn := fun m a b c d hm p1 p2 p3 p4 q1 q2 q3 q4 => by
  have hm' : ∀ g, Inn W H x y rw rh g → m.testBit g = true := fun g hg => hm g hg (ho g hg)
  exact (line_conn hW hH hx hy h1 hm' p1 p2 p3 p4).symm.trans (line_conn hW hH hx hy h1 hm' q1 q2 q3 q4)
 cnt := by rcases h1 with rfl | rfl <;> simp
theorem divd_row {W H x y rw rh o o2 o3 k p : Nat} (hW : W < 5) (hH : H < 5) (hx : x + rw ≤ W) (hy : y + rh ≤ H) (hk : k + 1 < rh) (hp : p < rw) (ho : ∀ g, Inn W H x y rw rh g → o.testBit g = true)
  (h2 : Divd W H x y rw (k + 1) (closeL (fun i => sG W H (y + k) (x + i)) p rw o) o2) (h3 : Divd W H x (y + k + 1) rw (rh - k - 1) o2 o3) : Divd W H x y rw rh o o3 where
 lt := h3.lt
 out := fun g hg => by
  rw [h3.out g fun q => hg (q.mono (by omega) (by omega) (by omega) (by omega)), h2.out g fun q => hg (q.mono (by omega) (by omega) (by omega) (by omega)), closeL_out]
  intro i hi _ e
  exact hg (.inr ⟨x + i, y + k, by omega, by omega, by omega, by omega, e.symm⟩)
 conn := fun m a b c d hm p1 p2 p3 p4 q1 q2 q3 q4 => by
  have hup : ∀ a b c d, x ≤ a → a < x + rw → y ≤ b → b < y + (k + 1) → x ≤ c → c < x + rw → y ≤ d → d < y + (k + 1) → Cn (ends W H) m (b * W + a) (d * W + c) := fun a b c d => h2.conn m a b c d fun g hg hb => hm g (hg.mono (by omega) (by omega) (by omega) (by omega)) (by
   rw [h3.out g ?_]; exact hb
   rcases hg with ⟨a, b, u1, u2, u3, u4, rfl⟩ | ⟨a, b, u1, u2, u3, u4, rfl⟩
   ·rw [inn_e hW hH (by omega) (by omega) (by omega) (by omega)]; omega
   ·rw [inn_s hW hH (by omega) (by omega) (by omega) (by omega)]; omega)
  have hdn : ∀ a b c d, x ≤ a → a < x + rw → y + k + 1 ≤ b → b < y + k + 1 + (rh - k - 1) → x ≤ c → c < x + rw → y + k + 1 ≤ d → d < y + k + 1 + (rh - k - 1) → Cn (ends W H) m (b * W + a) (d * W + c) := fun a b c d => h3.conn m a b c d fun g hg hb => hm g (hg.mono (by omega) (by omega) (by omega) (by omega)) hb
  have hps : Cn (ends W H) m ((y + k) * W + (x + p)) ((y + k + 1) * W + (x + p)) := by
   refine cn_s hW hH (by omega) (by omega) (hm _ (.inr ⟨x + p, y + k, by omega, by omega, by omega, by omega, rfl⟩) ?_)
   rw [h3.out _ (by rw [inn_s hW hH (by omega) (by omega) (by omega) (by omega)]; omega), h2.out _ (by rw [inn_s hW hH (by omega) (by omega) (by omega) (by omega)]; omega), closeL_out]
   ·exact ho _ (.inr ⟨x + p, y + k, by omega, by omega, by omega, by omega, rfl⟩)
   ·intro i hi hne e
    have := (sG_inj (a := x + i) (c := x + p) (by omega) (by omega) e).1
    omega
  by_cases hb : b < y + (k + 1) <;> by_cases hd : d < y + (k + 1)
  ·exact hup a b c d p1 p2 p3 hb q1 q2 q3 hd
  ·exact ((hup a b (x + p) (y + k) p1 p2 p3 hb (by omega) (by omega) (by omega) (by omega)).trans hps).trans (hdn (x + p) (y + k + 1) c d (by omega) (by omega) (by omega) (by omega) q1 q2 (by omega) (by omega))
  ·exact ((hdn a b (x + p) (y + k + 1) p1 p2 (by omega) (by omega) (by omega) (by omega) (by omega) (by omega)).trans hps.symm).trans (hup (x + p) (y + k) c d (by omega) (by omega) (by omega) (by omega) q1 q2 q3 hd)
  ·exact hdn a b c d p1 p2 (by omega) (by omega) q1 q2 (by omega) (by omega)
 cnt := by
  have e1 := h3.cnt
  have e2 := h2.cnt
  have e3 := closeL_pop (E := gapsN W H) (gs := fun i => sG W H (y + k) (x + i)) (p := p) (n := rw) (o := o) (fun i hi => ⟨(sG_facts hW hH (by omega) (by omega)).1, ho _ (.inr ⟨x + i, y + k, by omega, by omega, by omega, by omega, rfl⟩)⟩) (fun i j hi hj e => by have := (sG_inj (a := x + i) (c := x + j) (by omega) (by omega) e).1; omega)
  rw [if_pos hp] at e3
  have : (rw - 1) * (rh - 1) = (rw - 1) * (k + 1 - 1) + (rw - 1) * (rh - k - 1 - 1) + (rw - 1) := by
   obtain ⟨t, rfl⟩ : ∃ t, rh = k + 2 + t := ⟨rh - k - 2, by omega⟩
   rw [show k + 2 + t - 1 = k + t + 1 by omega, show k + 1 - 1 = k by omega, show k + 2 + t - k - 1 - 1 = t by omega, Nat.mul_add, Nat.mul_add]; omega
  omega
theorem divd_col {W H x y rw rh o o2 o3 k p : Nat} (hW : W < 5) (hH : H < 5) (hx : x + rw ≤ W) (hy : y + rh ≤ H) (hk : k + 1 < rw) (hp : p < rh) (ho : ∀ g, Inn W H x y rw rh g → o.testBit g = true)
  (h2 : Divd W H x y (k + 1) rh (closeL (fun i => eG W (y + i) (x + k)) p rh o) o2) (h3 : Divd W H (x + k + 1) y (rw - k - 1) rh o2 o3) : Divd W H x y rw rh o o3 where
 lt := h3.lt
 out := fun g hg => by
  rw [h3.out g fun q => hg (q.mono (by omega) (by omega) (by omega) (by omega)), h2.out g fun q => hg (q.mono (by omega) (by omega) (by omega) (by omega)), closeL_out]
  intro i hi _ e
  exact hg (.inl ⟨x + k, y + i, by omega, by omega, by omega, by omega, e.symm⟩)
 conn := fun m a b c d hm p1 p2 p3 p4 q1 q2 q3 q4 => by
  have hup : ∀ a b c d, x ≤ a → a < x + (k + 1) → y ≤ b → b < y + rh → x ≤ c → c < x + (k + 1) → y ≤ d → d < y + rh → Cn (ends W H) m (b * W + a) (d * W + c) := fun a b c d => h2.conn m a b c d fun g hg hb => hm g (hg.mono (by omega) (by omega) (by omega) (by omega)) (by
   rw [h3.out g ?_]; exact hb
   rcases hg with ⟨a, b, u1, u2, u3, u4, rfl⟩ | ⟨a, b, u1, u2, u3, u4, rfl⟩
   ·rw [inn_e hW hH (by omega) (by omega) (by omega) (by omega)]; omega
   ·rw [inn_s hW hH (by omega) (by omega) (by omega) (by omega)]; omega)
  have hdn : ∀ a b c d, x + k + 1 ≤ a → a < x + k + 1 + (rw - k - 1) → y ≤ b → b < y + rh → x + k + 1 ≤ c → c < x + k + 1 + (rw - k - 1) → y ≤ d → d < y + rh → Cn (ends W H) m (b * W + a) (d * W + c) := fun a b c d => h3.conn m a b c d fun g hg hb => hm g (hg.mono (by omega) (by omega) (by omega) (by omega)) hb
  have hps : Cn (ends W H) m ((y + p) * W + (x + k)) ((y + p) * W + (x + k + 1)) := by
   refine cn_e hW hH (by omega) (by omega) (hm _ (.inl ⟨x + k, y + p, by omega, by omega, by omega, by omega, rfl⟩) ?_)
   rw [h3.out _ (by rw [inn_e hW hH (by omega) (by omega) (by omega) (by omega)]; omega), h2.out _ (by rw [inn_e hW hH (by omega) (by omega) (by omega) (by omega)]; omega), closeL_out]
   ·exact ho _ (.inl ⟨x + k, y + p, by omega, by omega, by omega, by omega, rfl⟩)
   ·intro i hi hne e
    have := (eG_inj (a := x + k) (c := x + k) (by omega) (by omega) e).2
    omega
  by_cases hb : a < x + (k + 1) <;> by_cases hd : c < x + (k + 1)
  ·exact hup a b c d p1 hb p3 p4 q1 hd q3 q4
  ·exact ((hup a b (x + k) (y + p) p1 hb p3 p4 (by omega) (by omega) (by omega) (by omega)).trans hps).trans (hdn (x + k + 1) (y + p) c d (by omega) (by omega) (by omega) (by omega) (by omega) (by omega) q3 q4)
  ·exact ((hdn a b (x + k + 1) (y + p) (by omega) (by omega) p3 p4 (by omega) (by omega) (by omega) (by omega)).trans hps.symm).trans (hup (x + k) (y + p) c d (by omega) (by omega) (by omega) (by omega) q1 hd q3 q4)
  ·exact hdn a b c d (by omega) (by omega) p3 p4 (by omega) (by omega) q3 q4
 cnt := by
  have e1 := h3.cnt
  have e2 := h2.cnt
  have e3 := closeL_pop (E := gapsN W H) (gs := fun i => eG W (y + i) (x + k)) (p := p) (n := rh) (o := o) (fun i hi => ⟨(eG_facts hW hH (by omega) (by omega)).1, ho _ (.inl ⟨x + k, y + i, by omega, by omega, by omega, by omega, rfl⟩)⟩) (fun i j hi hj e => by have := (eG_inj (a := x + k) (c := x + k) (by omega) (by omega) e).2; omega)
  rw [if_pos hp] at e3
  have : (rw - 1) * (rh - 1) = (k + 1 - 1) * (rh - 1) + (rw - k - 1 - 1) * (rh - 1) + (rh - 1) := by
   obtain ⟨t, rfl⟩ : ∃ t, rw = k + 2 + t := ⟨rw - k - 2, by omega⟩
   rw [show k + 2 + t - 1 = k + t + 1 by omega, show k + 1 - 1 = k by omega, show k + 2 + t - k - 1 - 1 = t by omega, Nat.add_mul, Nat.add_mul]; omega
  omega
theorem open_row1 {W H x y rw rh o k p : Nat} (hW : W < 5) (hH : H < 5) (hx : x + rw ≤ W) (hy : y + rh ≤ H) (hk : k + 1 < rh) (ho : ∀ g, Inn W H x y rw rh g → o.testBit g = true) (g : Nat) (hg : Inn W H x y rw (k + 1) g ∨ Inn W H x (y + k + 1) rw (rh - k - 1) g) :
  (closeL (fun i => sG W H (y + k) (x + i)) p rw o).testBit g = true := by
 rw [closeL_out]
 ·rcases hg with h | h <;> exact ho g (h.mono (by omega) (by omega) (by omega) (by omega))
 ·intro i hi _ e
  subst e
  rw [inn_s hW hH (by omega) (by omega) (by omega) (by omega), inn_s hW hH (by omega) (by omega) (by omega) (by omega)] at hg
  omega
theorem open_col1 {W H x y rw rh o k p : Nat} (hW : W < 5) (hH : H < 5) (hx : x + rw ≤ W) (hy : y + rh ≤ H) (hk : k + 1 < rw) (ho : ∀ g, Inn W H x y rw rh g → o.testBit g = true) (g : Nat) (hg : Inn W H x y (k + 1) rh g ∨ Inn W H (x + k + 1) y (rw - k - 1) rh g) :
  (closeL (fun i => eG W (y + i) (x + k)) p rh o).testBit g = true := by
 rw [closeL_out]
 ·rcases hg with h | h <;> exact ho g (h.mono (by omega) (by omega) (by omega) (by omega))
 ·intro i hi _ e
  subst e
  rw [inn_e hW hH (by omega) (by omega) (by omega) (by omega), inn_e hW hH (by omega) (by omega) (by omega) (by omega)] at hg
  omega
theorem apart_row {W H x y rw rh o o' k : Nat} (hW : W < 5) (hH : H < 5) (hx : x + rw ≤ W) (hy : y + rh ≤ H) (hk : k + 1 < rh) (h2 : Divd W H x y rw (k + 1) o o') (g : Nat) (hg : Inn W H x (y + k + 1) rw (rh - k - 1) g) : o'.testBit g = o.testBit g := by
 refine h2.out g ?_
 rcases hg with ⟨a, b, u1, u2, u3, u4, rfl⟩ | ⟨a, b, u1, u2, u3, u4, rfl⟩
 ·rw [inn_e hW hH (by omega) (by omega) (by omega) (by omega)]; omega
 ·rw [inn_s hW hH (by omega) (by omega) (by omega) (by omega)]; omega
theorem apart_col {W H x y rw rh o o' k : Nat} (hW : W < 5) (hH : H < 5) (hx : x + rw ≤ W) (hy : y + rh ≤ H) (hk : k + 1 < rw) (h2 : Divd W H x y (k + 1) rh o o') (g : Nat) (hg : Inn W H (x + k + 1) y (rw - k - 1) rh g) : o'.testBit g = o.testBit g := by
 refine h2.out g ?_
 rcases hg with ⟨a, b, u1, u2, u3, u4, rfl⟩ | ⟨a, b, u1, u2, u3, u4, rfl⟩
 ·rw [inn_e hW hH (by omega) (by omega) (by omega) (by omega)]; omega
 ·rw [inn_s hW hH (by omega) (by omega) (by omega) (by omega)]; omega
theorem divN_main {W H : Nat} (hW : W < 5) (hH : H < 5) : ∀ f x y rw rh l o c, 1 ≤ rw → 1 ≤ rh → rw + rh ≤ f + 1 → x + rw ≤ W → y + rh ≤ H → o < 2 ^ gapsN W H → (∀ g, Inn W H x y rw rh g → o.testBit g = true) → Divd W H x y rw rh o (divN W H f x y rw rh l o c).1
 | 0, x, y, rw, rh, l, o, c, h1, h2, hf, hx, hy, hlt, ho => by omega
 | f + 1, x, y, rw, rh, l, o, c, h1, h2, hf, hx, hy, hlt, ho => by
  unfold divN
  by_cases hl : rw = 1 ∨ rh = 1
  ·rw [if_pos hl]
   exact divd_line hW hH hx hy hl hlt ho
  ·rw [if_neg hl]
   by_cases hc : rw ≤ rh
   ·rw [if_pos hc]
    have hk : nx l % (rh - 1) < rh - 1 := Nat.mod_lt _ (by omega)
    have hp : nx l.tail % rw < rw := Nat.mod_lt _ (by omega)
    simp only
    generalize nx l % (rh - 1) = k at *
    generalize nx l.tail % rw = p at *
    have hlt1 : closeL (fun i => sG W H (y + k) (x + i)) p rw o < 2 ^ gapsN W H := closeL_lt hlt fun i hi => (sG_facts hW hH (by omega) (by omega)).1
    have d2 := divN_main hW hH f x y rw (k + 1) l.tail.tail _ (c + 1) h1 (by omega) (by omega) hx (by omega) hlt1 (fun g hg => open_row1 hW hH hx hy (by omega) ho g (.inl hg))
    have d3 := divN_main hW hH f x (y + k + 1) rw (rh - k - 1) (divN W H f x y rw (k + 1) l.tail.tail (closeL (fun i => sG W H (y + k) (x + i)) p rw o) (c + 1)).2.2 _ (divN W H f x y rw (k + 1) l.tail.tail (closeL (fun i => sG W H (y + k) (x + i)) p rw o) (c + 1)).2.1 h1 (by omega) (by omega) hx (by omega) d2.lt
     (fun g hg => by rw [apart_row hW hH hx hy (by omega) d2 g hg]; exact open_row1 hW hH hx hy (by omega) ho g (.inr hg))
    exact divd_row hW hH hx hy (by omega) hp ho d2 d3
   ·rw [if_neg hc]
    have hk : nx l % (rw - 1) < rw - 1 := Nat.mod_lt _ (by omega)
    have hp : nx l.tail % rh < rh := Nat.mod_lt _ (by omega)
    simp only
    generalize nx l % (rw - 1) = k at *
    generalize nx l.tail % rh = p at *
    have hlt1 : closeL (fun i => eG W (y + i) (x + k)) p rh o < 2 ^ gapsN W H := closeL_lt hlt fun i hi => (eG_facts hW hH (by omega) (by omega)).1
    have d2 := divN_main hW hH f x y (k + 1) rh l.tail.tail _ (c + 1) (by omega) h2 (by omega) (by omega) hy hlt1 (fun g hg => open_col1 hW hH hx hy (by omega) ho g (.inl hg))
    have d3 := divN_main hW hH f (x + k + 1) y (rw - k - 1) rh (divN W H f x y (k + 1) rh l.tail.tail (closeL (fun i => eG W (y + i) (x + k)) p rh o) (c + 1)).2.2 _ (divN W H f x y (k + 1) rh l.tail.tail (closeL (fun i => eG W (y + i) (x + k)) p rh o) (c + 1)).2.1 (by omega) h2 (by omega) (by omega) hy d2.lt
     (fun g hg => by rw [apart_col hW hH hx hy (by omega) d2 g hg]; exact open_col1 hW hH hx hy (by omega) ho g (.inr hg))
    exact divd_col hW hH hx hy (by omega) hp ho d2 d3
theorem full_bits {n g : Nat} (h : g < n) : (2 ^ n - 1).testBit g = true := by rw [Nat.testBit_two_pow_sub_one]; simpa using h
end Go.Proofs.Ytbeajmcjfhbcjaa.P
namespace Go.Proofs.YtbeajmcjfhbcjaaW.PrintWords
open Go.ChangeShapes Go.WideShapes
/-- A row's slice of whole numbers is no longer than its weight allows. -/
theorem sized_ints {H : Type} {enc : TypeId × Value → H} {P : Program} {W : World} {base : Nat} {spare : Nat → Bool} {held : Bool} {t e : TypeId} {k : IntKind} {a : Option Addr} {len cap : Nat} {d : DataW H} {ps : List MemPlace} {ts : List TypeId} {ds : List (DataW H)} {j : Nat}
    (hsz : (DataW.weightsEach P ts ds).all (· ≤ reachBytes) = true) (ht : ts[j]? = some t) (hd : ds[j]? = some d) (hu : P.underlying t = some (.slice e)) (he : P.underlying e = some (.int k)) (hc : P.cellsOf e = 1) {B : Nat} (hB : P.bytesOf e = B)
    (h : DataW.Trod enc P W base spare held t (.slice a len cap) d ps) : len * B ≤ 140737488351232 := by
  obtain ⟨fuel, hf⟩ := h
  rcases open_ints hu he hc hf with ⟨hcs, _⟩ | ⟨x, l, c, zs, hcs, _, hl, _, hz, hx, _, _⟩
  · simp [Value.cells] at hcs
    obtain ⟨rfl, rfl, rfl⟩ := hcs
    simp
  · simp [Value.cells] at hcs
    obtain ⟨rfl, rfl, rfl⟩ := hcs
    obtain ⟨hx, _⟩ := Prod.mk.inj hx
    subst hx
    have z := sized_slice hsz ht hd hu
    rw [hB] at z
    have hl2 : len ≤ zs.length := by
      rw [hz]
      split
      · exact hl
      · exact Nat.le_refl _
    have h1 : (lits (H := H) k (zs.take len)).length + (lits (H := H) k (zs.drop len)).length = zs.length := by
      simp [lits]
      omega
    rw [h1] at z
    exact Nat.le_trans (Nat.mul_le_mul_right _ hl2) z
end Go.Proofs.YtbeajmcjfhbcjaaW.PrintWords
