/- The statement FnExactEraseWay of the seat, out of its plain form (FnExactEraseWay_pure) and the walk of its Go function. Part 4 of 5: each Go function's walk, then the plain lemmas, then the row. No condition: it holds for every input. -/
import Derived.Test.YtejaglljnjdabaaBFnExactEraseWay3
import Derived.ChangeSlices
import Derived.SizedLaws
namespace Go.Proofs.Ytejaglljnjdabaa.P
open Go.RowKit Go.Proofs.YtejaglljnjdabaaW.PrintWords Go.Proofs.YtejaglljnjdabaaW.PrintLast Go.Proofs.YtejaglljnjdabaaW.PrintMore
attribute [local go_sem] max2_int min2_int max_two min_two max_three min_three max_four min_four   -- for this text's walks alone
set_option linter.unusedVariables false
set_option linter.unusedSimpArgs false

/-! ### laws_FnExactEraseWay: function 10 -/
mutual
def laws_FnExactEraseWay.j0 : Nat → Int → List Int → List Int → Bool → List Int → List Int → Bool → Bool → Int → Int → Int → Option (Bool)
  | 0, _, _, _, _, _, _, _, _, _, _, _ => none
  | k + 1, x1, x2, x7, x8, x9, x10, x11, x47, x102000, x102001, x102002 => if x47 = true then (some false) else ((laws_toIntS.f k x2).bind fun t123 => ((laws_eqIntS.f k x9 t123).bind fun t126 => (if t126 = true then ((laws_markIntS.f k x9 1).bind fun bt127 => (if bt127.1 < 0 then (laws_FnExactEraseWay.j1 k x1 x2 x7 x8 x10 true x102000 x102001 x102002) else ((laws_eqIntS.f k x10 x7).bind fun t129 => (if t129 = true then (laws_FnExactEraseWay.j1 k x1 x2 x7 x8 x10 (x11 != x8) x102000 x102001 x102002) else (laws_FnExactEraseWay.j1 k x1 x2 x7 x8 x10 true x102000 x102001 x102002))))) else (some false))))
def laws_FnExactEraseWay.j1 : Nat → Int → List Int → List Int → Bool → List Int → Bool → Int → Int → Int → Option (Bool)
  | 0, _, _, _, _, _, _, _, _, _ => none
  | k + 1, x1, x2, x7, x8, x10, x68, x102000, x102001, x102002 => if x68 = true then (some false) else ((laws_markIntS.f k x10 1).bind fun bt130 => ((laws_heldIntS.f k bt130.2 1).bind fun t132 => (if t132 < 0 then (some false) else (if t132 = bt130.1 then ((laws_toMaze.f x102000 x102001 x102002).bind fun bt133 => ((laws_toIntS.f k x2).bind fun t136 => ((impl_EraseWay.f k bt133.1 bt133.2.1 bt133.2.2 x1 t136).bind fun bt139 => ((laws_eqIntS.f k bt139.1 x7).bind fun t143 => (if t143 = true then (laws_FnExactEraseWay.j2 k bt130.2 bt130.1 (bt139.2 != x8)) else (laws_FnExactEraseWay.j2 k bt130.2 bt130.1 true)))))) else (some false)))))
def laws_FnExactEraseWay.j2 : Nat → List Int → Int → Bool → Option (Bool)
  | 0, _, _, _ => none
  | k + 1, x10, x13, x97 => if x97 = true then (some false) else ((laws_heldIntS.f k x10 1).bind fun t144 => (if t144 < 0 then (some false) else (if t144 = x13 then (some true) else (some false))))
end
def laws_FnExactEraseWay.f (k : Nat) (a0_0 : Int) (a0_1 : Int) (a0_2 : Int) (a1 : Int) (l2 : List Int) : Option (Bool) := if (l2.length : Int) > 1048576 then (some true) else ((laws_toMaze.f a0_0 a0_1 a0_2).bind fun bt102 => ((laws_toIntS.f k l2).bind fun t105 => ((spec_EraseWay.f k bt102.1 bt102.2.1 bt102.2.2 a1 t105).bind fun bt108 => ((laws_toIntS.f k l2).bind fun t112 => ((laws_toMaze.f a0_0 a0_1 a0_2).bind fun bt115 => ((impl_EraseWay.f k bt115.1 bt115.2.1 bt115.2.2 a1 t112).bind fun bt118 => ((laws_eqIntS.f k bt118.1 bt108.1).bind fun t122 => (if t122 = true then (laws_FnExactEraseWay.j0 k a1 l2 bt108.1 bt108.2 t112 bt118.1 bt118.2 (bt118.2 != bt108.2) a0_0 a0_1 a0_2) else (laws_FnExactEraseWay.j0 k a1 l2 bt108.1 bt108.2 t112 bt118.1 bt118.2 true a0_0 a0_1 a0_2)))))))))
theorem laws_FnExactEraseWay.mono_l : ∀ k, (∀ y0 y1 y2 y3 y4 y5 y6 y7 y8 y9 y10, LeO (laws_FnExactEraseWay.j0 k y0 y1 y2 y3 y4 y5 y6 y7 y8 y9 y10) (laws_FnExactEraseWay.j0 (k + 1) y0 y1 y2 y3 y4 y5 y6 y7 y8 y9 y10)) ∧ (∀ y0 y1 y2 y3 y4 y5 y6 y7 y8, LeO (laws_FnExactEraseWay.j1 k y0 y1 y2 y3 y4 y5 y6 y7 y8) (laws_FnExactEraseWay.j1 (k + 1) y0 y1 y2 y3 y4 y5 y6 y7 y8)) ∧ (∀ y0 y1 y2, LeO (laws_FnExactEraseWay.j2 k y0 y1 y2) (laws_FnExactEraseWay.j2 (k + 1) y0 y1 y2))
  | 0 => ⟨fun _ _ _ _ _ _ _ _ _ _ _ r h => by simp [laws_FnExactEraseWay.j0] at h, fun _ _ _ _ _ _ _ _ _ r h => by simp [laws_FnExactEraseWay.j1] at h, fun _ _ _ r h => by simp [laws_FnExactEraseWay.j2] at h⟩
  | k + 1 => by
    obtain ⟨ih0, ih1, ih2⟩ := laws_FnExactEraseWay.mono_l k
    refine ⟨?_, ?_, ?_⟩
    · intro y0 y1 y2 y3 y4 y5 y6 y7 y8 y9 y10
      unfold laws_FnExactEraseWay.j0
      repeat' first
      | (with_reducible exact ih0 _ _ _ _ _ _ _ _ _ _ _)
      | (with_reducible exact ih1 _ _ _ _ _ _ _ _ _)
      | (with_reducible exact ih2 _ _ _)
      | (with_reducible exact impl_EraseWay.mono _ _ _ _ _ _)
      | (with_reducible exact laws_eqIntS.mono _ _ _)
      | (with_reducible exact laws_heldIntS.mono _ _ _)
      | (with_reducible exact laws_markIntS.mono _ _ _)
      | (with_reducible exact laws_toIntS.mono _ _)
      | (with_reducible exact spec_EraseWay.mono _ _ _ _ _ _)
      | (with_reducible exact LeO.refl _)
      | (with_reducible exact LeO.none _)
      | (with_reducible refine LeO.ite ?_ ?_)
      | (with_reducible refine LeO.bind ?_ (fun _ => ?_))
    · intro y0 y1 y2 y3 y4 y5 y6 y7 y8
      unfold laws_FnExactEraseWay.j1
      repeat' first
      | (with_reducible exact ih0 _ _ _ _ _ _ _ _ _ _ _)
      | (with_reducible exact ih1 _ _ _ _ _ _ _ _ _)
      | (with_reducible exact ih2 _ _ _)
      | (with_reducible exact impl_EraseWay.mono _ _ _ _ _ _)
      | (with_reducible exact laws_eqIntS.mono _ _ _)
      | (with_reducible exact laws_heldIntS.mono _ _ _)
      | (with_reducible exact laws_markIntS.mono _ _ _)
      | (with_reducible exact laws_toIntS.mono _ _)
      | (with_reducible exact spec_EraseWay.mono _ _ _ _ _ _)
      | (with_reducible exact LeO.refl _)
      | (with_reducible exact LeO.none _)
      | (with_reducible refine LeO.ite ?_ ?_)
      | (with_reducible refine LeO.bind ?_ (fun _ => ?_))
    · intro y0 y1 y2
      unfold laws_FnExactEraseWay.j2
      repeat' first
      | (with_reducible exact ih0 _ _ _ _ _ _ _ _ _ _ _)
      | (with_reducible exact ih1 _ _ _ _ _ _ _ _ _)
      | (with_reducible exact ih2 _ _ _)
      | (with_reducible exact impl_EraseWay.mono _ _ _ _ _ _)
      | (with_reducible exact laws_eqIntS.mono _ _ _)
      | (with_reducible exact laws_heldIntS.mono _ _ _)
      | (with_reducible exact laws_markIntS.mono _ _ _)
      | (with_reducible exact laws_toIntS.mono _ _)
      | (with_reducible exact spec_EraseWay.mono _ _ _ _ _ _)
      | (with_reducible exact LeO.refl _)
      | (with_reducible exact LeO.none _)
      | (with_reducible refine LeO.ite ?_ ?_)
      | (with_reducible refine LeO.bind ?_ (fun _ => ?_))
theorem laws_FnExactEraseWay.mono : ∀ a0 a1 a2 a3 a4 k, LeO (laws_FnExactEraseWay.f k a0 a1 a2 a3 a4) (laws_FnExactEraseWay.f (k + 1) a0 a1 a2 a3 a4) := by
  intro a0 a1 a2 a3 a4 k
  obtain ⟨ih0, ih1, ih2⟩ := laws_FnExactEraseWay.mono_l k
  unfold laws_FnExactEraseWay.f
  repeat' first
      | (with_reducible exact ih0 _ _ _ _ _ _ _ _ _ _ _)
      | (with_reducible exact ih1 _ _ _ _ _ _ _ _ _)
      | (with_reducible exact ih2 _ _ _)
      | (with_reducible exact impl_EraseWay.mono _ _ _ _ _ _)
      | (with_reducible exact laws_eqIntS.mono _ _ _)
      | (with_reducible exact laws_heldIntS.mono _ _ _)
      | (with_reducible exact laws_markIntS.mono _ _ _)
      | (with_reducible exact laws_toIntS.mono _ _)
      | (with_reducible exact spec_EraseWay.mono _ _ _ _ _ _)
      | (with_reducible exact LeO.refl _)
      | (with_reducible exact LeO.none _)
      | (with_reducible refine LeO.ite ?_ ?_)
      | (with_reducible refine LeO.bind ?_ (fun _ => ?_))
set_option maxHeartbeats 8000000 in
set_option maxRecDepth 100000 in
theorem laws_FnExactEraseWay.calls (k : Nat) (a0_0 : Int) (a0_1 : Int) (a0_2 : Int) (a1 : Int) (A2 : Option Addr) (c2 : Nat) (l2 : List Int) (r : Bool) (w : World) (hr2 : Kd.C (Kd.int .i64) w A2 l2.length l2) (hc2 : l2.length ≤ c2) (h : laws_FnExactEraseWay.f k a0_0 a0_1 a0_2 a1 l2 = some r) :
    Calls Try.prog 10 #[.agg #[.int .i64 a0_0, .int .i64 a0_1, .int .i64 a0_2], .int .i64 a1, .slice A2 l2.length c2] w fun e w' => e = .returned (.bool r) ∧ Below w.heap.size w w' := by
  have hu25 := Try.underlying25
  have HR2 := Aside0.mk hr2
  have HC2 := Aside0.mk hc2
  clear hr2 hc2
  have HB := Aside0.mk (Below.refl w.heap.size w)
  have H : (if (l2.length : Int) > 1048576 then (some true) else ((laws_toMaze.f a0_0 a0_1 a0_2).bind fun bt102 => ((laws_toIntS.f k l2).bind fun t105 => ((spec_EraseWay.f k bt102.1 bt102.2.1 bt102.2.2 a1 t105).bind fun bt108 => ((laws_toIntS.f k l2).bind fun t112 => ((laws_toMaze.f a0_0 a0_1 a0_2).bind fun bt115 => ((impl_EraseWay.f k bt115.1 bt115.2.1 bt115.2.2 a1 t112).bind fun bt118 => ((laws_eqIntS.f k bt118.1 bt108.1).bind fun t122 => (if t122 = true then (laws_FnExactEraseWay.j0 k a1 l2 bt108.1 bt108.2 t112 bt118.1 bt118.2 (bt118.2 != bt108.2) a0_0 a0_1 a0_2) else (laws_FnExactEraseWay.j0 k a1 l2 bt108.1 bt108.2 t112 bt118.1 bt118.2 true a0_0 a0_1 a0_2)))))))))) = some r := h
  clear h
  by_cases c4 : (l2.length : Int) > 1048576
  · rw [if_pos c4] at H
    have c4b0 : decide (1048576 < (l2.length : Int)) = true := decide_eq_true c4
    have c4b1 : decide (1048576 < l2.length) = true := decide_eq_true (by omega)
    clear c4
    obtain rfl := Option.some.inj H
    go_enter Try.func10, Try.ntmps10
    go_wp2_with (first | ((with_reducible refine gate_dst (N := 3) rfl ?_); refine box_event ?hg (N := 3) ?hd (cs := #[.int .i64 a0_0, .int .i64 a0_1, .int .i64 a0_2]) (t := 25) ?hr ?_; (case hd => rfl); (case hg => rfl); (case hr => first | (go_simp; done) | (go_simp; rfl)); intro gb101 hg w5 hbox hb; have n0_ := Aside0.mk (below_step (by repeat first | exact HB.1 | apply bA_ | apply bB_ | apply bC_) hb); have n1_ := Aside0.mk (hbox); have n2_ := Aside0.mk ((by rw [hg]; exact (below_size (by repeat first | exact HB.1 | apply bA_ | apply bB_ | apply bC_)) : w.heap.size ≤ gb101)); have n3_ := n2_; clear HB; have HB := n0_; have BK101 := n1_; have GW101 := n2_; have GE101 := n3_; clear n0_ n1_ n2_ n3_; clear hb hbox hg))
    go_ret
    exact ⟨by first | rfl | (simp [errW_none, errW_some] <;> rfl) | (simp [*, errW_none, errW_some] <;> rfl), by repeat (first | (with_reducible first | exact HB.out | apply below_alloc | apply pw_below_drewN | apply below_drew1 | refine below_set ?_ GE101.out) | exact HB.out)⟩
  · rw [if_neg c4] at H
    have c4b0 : decide (1048576 < (l2.length : Int)) = false := decide_eq_false c4
    have c4b1 : decide (1048576 < l2.length) = false := decide_eq_false (by omega)
    clear c4
    obtain ⟨⟨t102, t103, t104⟩, A60, H⟩ := Option.bind_eq_some_iff.mp H
    (try dsimp only at H); have A6 := Aside0.mk A60; clear A60
    obtain ⟨t105, A70, H⟩ := Option.bind_eq_some_iff.mp H
    (try dsimp only at H); have A7 := Aside0.mk A70; clear A70
    obtain ⟨⟨t108, t111⟩, A80, H⟩ := Option.bind_eq_some_iff.mp H
    (try dsimp only at H); have A8 := Aside0.mk A80; clear A80
    obtain ⟨t112, A90, H⟩ := Option.bind_eq_some_iff.mp H
    (try dsimp only at H); have A9 := Aside0.mk A90; clear A90
    obtain ⟨⟨t115, t116, t117⟩, A100, H⟩ := Option.bind_eq_some_iff.mp H
    (try dsimp only at H); have A10 := Aside0.mk A100; clear A100
    obtain ⟨⟨t118, t121⟩, A110, H⟩ := Option.bind_eq_some_iff.mp H
    (try dsimp only at H); have A11 := Aside0.mk A110; clear A110
    have HC12 := Aside0.mk H
    clear H
    go_enter Try.func10, Try.ntmps10
    go_upto_region 6 with (first | ((with_reducible refine gate_dst (N := 3) rfl ?_); refine box_event ?hg (N := 3) ?hd (cs := #[.int .i64 a0_0, .int .i64 a0_1, .int .i64 a0_2]) (t := 25) ?hr ?_; (case hd => rfl); (case hg => rfl); (case hr => first | (go_simp; done) | (go_simp; rfl)); intro gb101 hg w13 hbox hb; have n0_ := Aside0.mk (below_step (by repeat first | exact HB.1 | apply bA_ | apply bB_ | apply bC_) hb); have n1_ := Aside0.mk (hbox); have n2_ := Aside0.mk ((by rw [hg]; exact (below_size (by repeat first | exact HB.1 | apply bA_ | apply bB_ | apply bC_)) : w.heap.size ≤ gb101)); have n3_ := n2_; clear HB; have HB := n0_; have BK101 := n1_; have GW101 := n2_; have GE101 := n3_; clear n0_ n1_ n2_ n3_; clear hb hbox hg; obtain ⟨hcz14_0, hcz14_1, hcz14_2⟩ := kk3_ BK101.1; have hfz14_0 := blk_frozen BK101.out 0; have hfz14_1 := blk_frozen BK101.out 1; have hfz14_2 := blk_frozen BK101.out 2) | ((with_reducible refine gate_callee (f := 16) rfl ?_); refine goesL_ (some 22) rfl rfl Try.func16 (by kernel_rfl) rfl #[.agg #[.int .i64 a0_0, .int .i64 a0_1, .int .i64 a0_2]] rfl (by (try simp only [M3_]); first | done | rfl | (simp only [List.length_drop, List.length_take]; rfl)) ?_; (with_reducible refine (laws_toMaze.calls a0_0 a0_1 a0_2 t102 t103 t104 _ A6.out).mono ?_); rintro e w15 ⟨rfl, hb⟩; clear A6; refine ⟨_, rfl, ?_⟩; have n0_ := Aside0.mk (blk_below (g := gb101) (o := .cells #[.int .i64 a0_0, .int .i64 a0_1, .int .i64 a0_2] 25 (0, 0)) (by (with_reducible repeat first | refine cA_ ?_ _ | refine cB_ ?_ | refine cC_ ?_ _); exact BK101.1) hb); have n1_ := Aside0.mk (below_step (by repeat first | exact HB.1 | apply bA_ | apply bB_ | apply bC_ | refine below_set ?_ GE101.out) hb); clear BK101; clear HB; have BK101 := n0_; have HB := n1_; clear n0_ n1_; (try clear hb); (try clear hb2); (try clear hk); (try clear hi)) | ((with_reducible refine gate_callee (f := 32) rfl ?_); refine goesL_ (some 25) rfl rfl Try.func32 (by kernel_rfl) rfl #[.slice A2 l2.length c2] rfl (by (try simp only [M3_]); first | done | rfl | (simp only [List.length_drop, List.length_take]; rfl)) ?_; (with_reducible refine (laws_toIntS.calls k _ _ l2 t105 _ ?side1 ?side2 A7.out).mono ?_); (case side1 => repeat (first | exact (Kd.C_below HR2.out HB.out) | (with_reducible refine Kd.C_alloc ?_ _) | (with_reducible refine Kd.C_drewN ?_ _) | (with_reducible refine Kd.C_drew ?_))); (case side2 => exact HC2.out); rintro e w16 ⟨v106, rfl, ho0, hb⟩; clear A7; refine ⟨_, rfl, ?_⟩; have n0_ := Aside0.mk (Kd.R_lower ho0 (below_size (by repeat first | exact HB.1 | apply bA_ | apply bB_ | apply bC_ | refine below_set ?_ GE101.out))); have n1_ := Aside0.mk (blk_below (g := gb101) (o := .cells #[.int .i64 a0_0, .int .i64 a0_1, .int .i64 a0_2] 25 (0, 0)) (by (with_reducible repeat first | refine cA_ ?_ _ | refine cB_ ?_ | refine cC_ ?_ _); exact BK101.1) hb); have n2_ := Aside0.mk (below_step (by repeat first | exact HB.1 | apply bA_ | apply bB_ | apply bC_ | refine below_set ?_ GE101.out) hb); clear BK101; clear HB; have HO107 := n0_; have BK101 := n1_; have HB := n2_; clear n0_ n1_ n2_; (try clear hb); (try clear hb2); (try clear hk); (try clear hi); (try clear ho0); obtain ⟨Ao17, co17, eo17⟩ := Kd.R_slice HO107.out; subst eo17) | ((with_reducible refine gate_callee (f := 41) rfl ?_); refine goesL_ (some 26) rfl rfl Try.func41 (by kernel_rfl) rfl #[.agg #[.int .i64 t102, .int .i64 t103, .int .i64 t104], .int .i64 a1, .slice Ao17 t105.length co17] rfl (by (try simp only [M3_]); first | done | rfl | (simp only [List.length_drop, List.length_take]; rfl)) ?_; (with_reducible refine (spec_EraseWay.calls k t102 t103 t104 a1 _ _ t105 t108 t111 _ ?side1 ?side2 A8.out).mono ?_); (case side1 => repeat (first | exact (Kd.R_reads' HO107.out).2.2 | (with_reducible refine Kd.C_alloc ?_ _) | (with_reducible refine Kd.C_drewN ?_ _) | (with_reducible refine Kd.C_drew ?_))); (case side2 => exact (Kd.R_reads' HO107.out).2.1); rintro e w18 ⟨v109, rfl, ho0, hb⟩; clear A8; refine ⟨_, rfl, ?_⟩; have n0_ := Aside0.mk (Kd.R_elder' (by (with_reducible repeat (first | apply Kd.R_alloc | apply Kd.R_drewN | apply Kd.R_drew)); exact HO107.out) (Kd.R_base ho0) hb); have n1_ := Aside0.mk (Kd.R_lower (Kd.R_new' ho0 (Kd.R_lt (by (with_reducible repeat (first | apply Kd.R_alloc | apply Kd.R_drewN | apply Kd.R_drew)); exact HO107.out))) (below_size (by repeat first | exact HB.1 | apply bA_ | apply bB_ | apply bC_ | refine below_set ?_ GE101.out))); have n2_ := Aside0.mk (blk_below (g := gb101) (o := .cells #[.int .i64 a0_0, .int .i64 a0_1, .int .i64 a0_2] 25 (0, 0)) (by (with_reducible repeat first | refine cA_ ?_ _ | refine cB_ ?_ | refine cC_ ?_ _); exact BK101.1) hb); have n3_ := Aside0.mk (below_step (by repeat first | exact HB.1 | apply bA_ | apply bB_ | apply bC_ | refine below_set ?_ GE101.out) hb); clear HO107; clear BK101; clear HB; have HO107 := n0_; have HO110 := n1_; have BK101 := n2_; have HB := n3_; clear n0_ n1_ n2_ n3_; (try clear hb); (try clear hb2); (try clear hk); (try clear hi); (try clear ho0)) | ((with_reducible refine gate_callee (f := 32) rfl ?_); refine goesL_ (some 30) rfl rfl Try.func32 (by kernel_rfl) rfl #[.slice A2 l2.length c2] rfl (by (try simp only [M3_]); first | done | rfl | (simp only [List.length_drop, List.length_take]; rfl)) ?_; (with_reducible refine (laws_toIntS.calls k _ _ l2 t112 _ ?side1 ?side2 A9.out).mono ?_); (case side1 => repeat (first | exact (Kd.C_below HR2.out HB.out) | (with_reducible refine Kd.C_alloc ?_ _) | (with_reducible refine Kd.C_drewN ?_ _) | (with_reducible refine Kd.C_drew ?_))); (case side2 => exact HC2.out); rintro e w19 ⟨v113, rfl, ho0, hb⟩; clear A9; refine ⟨_, rfl, ?_⟩; have n0_ := Aside0.mk (Kd.R_elder' (by (with_reducible repeat (first | apply Kd.R_alloc | apply Kd.R_drewN | apply Kd.R_drew)); exact HO107.out) (Kd.R_base ho0) hb); have n1_ := Aside0.mk (Kd.R_elder' (by (with_reducible repeat (first | apply Kd.R_alloc | apply Kd.R_drewN | apply Kd.R_drew)); exact HO110.out) (Kd.R_base ho0) hb); have n2_ := Aside0.mk (Kd.R_lower (Kd.R_new' (Kd.R_new' ho0 (Kd.R_lt (by (with_reducible repeat (first | apply Kd.R_alloc | apply Kd.R_drewN | apply Kd.R_drew)); exact HO107.out))) (Kd.R_lt (by (with_reducible repeat (first | apply Kd.R_alloc | apply Kd.R_drewN | apply Kd.R_drew)); exact HO110.out))) (below_size (by repeat first | exact HB.1 | apply bA_ | apply bB_ | apply bC_ | refine below_set ?_ GE101.out))); have n3_ := Aside0.mk (blk_below (g := gb101) (o := .cells #[.int .i64 a0_0, .int .i64 a0_1, .int .i64 a0_2] 25 (0, 0)) (by (with_reducible repeat first | refine cA_ ?_ _ | refine cB_ ?_ | refine cC_ ?_ _); exact BK101.1) hb); have n4_ := Aside0.mk (below_step (by repeat first | exact HB.1 | apply bA_ | apply bB_ | apply bC_ | refine below_set ?_ GE101.out) hb); clear HO107; clear HO110; clear BK101; clear HB; have HO107 := n0_; have HO110 := n1_; have HO114 := n2_; have BK101 := n3_; have HB := n4_; clear n0_ n1_ n2_ n3_ n4_; (try clear hb); (try clear hb2); (try clear hk); (try clear hi); (try clear ho0); obtain ⟨hcz20_0, hcz20_1, hcz20_2⟩ := kk3_ BK101.1; have hfz20_0 := blk_frozen BK101.out 0; have hfz20_1 := blk_frozen BK101.out 1; have hfz20_2 := blk_frozen BK101.out 2) | ((with_reducible refine gate_callee (f := 16) rfl ?_); refine goesL_ (some 33) rfl rfl Try.func16 (by kernel_rfl) rfl #[.agg #[.int .i64 a0_0, .int .i64 a0_1, .int .i64 a0_2]] rfl (by (try simp only [M3_]); first | done | rfl | (simp only [List.length_drop, List.length_take]; rfl)) ?_; (with_reducible refine (laws_toMaze.calls a0_0 a0_1 a0_2 t115 t116 t117 _ A10.out).mono ?_); rintro e w21 ⟨rfl, hb⟩; clear A10; refine ⟨_, rfl, ?_⟩; have n0_ := Aside0.mk (Kd.R_below (by (with_reducible repeat (first | apply Kd.R_alloc | apply Kd.R_drewN | apply Kd.R_drew)); exact HO107.out) hb); have n1_ := Aside0.mk (Kd.R_below (by (with_reducible repeat (first | apply Kd.R_alloc | apply Kd.R_drewN | apply Kd.R_drew)); exact HO110.out) hb); have n2_ := Aside0.mk (Kd.R_below (by (with_reducible repeat (first | apply Kd.R_alloc | apply Kd.R_drewN | apply Kd.R_drew)); exact HO114.out) hb); have n3_ := Aside0.mk (blk_below (g := gb101) (o := .cells #[.int .i64 a0_0, .int .i64 a0_1, .int .i64 a0_2] 25 (0, 0)) (by (with_reducible repeat first | refine cA_ ?_ _ | refine cB_ ?_ | refine cC_ ?_ _); exact BK101.1) hb); have n4_ := Aside0.mk (below_step (by repeat first | exact HB.1 | apply bA_ | apply bB_ | apply bC_ | refine below_set ?_ GE101.out) hb); clear HO107; clear HO110; clear HO114; clear BK101; clear HB; have HO107 := n0_; have HO110 := n1_; have HO114 := n2_; have BK101 := n3_; have HB := n4_; clear n0_ n1_ n2_ n3_ n4_; (try clear hb); (try clear hb2); (try clear hk); (try clear hi); obtain ⟨Ao22, co22, eo22⟩ := Kd.R_slice HO114.out; subst eo22) | ((with_reducible refine gate_callee (f := 42) rfl ?_); refine goesL_ (some 36) rfl rfl Try.func42 (by kernel_rfl) rfl #[.agg #[.int .i64 t115, .int .i64 t116, .int .i64 t117], .int .i64 a1, .slice Ao22 t112.length co22] rfl (by (try simp only [M3_]); first | done | rfl | (simp only [List.length_drop, List.length_take]; rfl)) ?_; (with_reducible refine (impl_EraseWay.calls k t115 t116 t117 a1 _ _ t112 t118 t121 _ ?side1 ?side2 A11.out).mono ?_); (case side1 => repeat (first | exact (Kd.R_reads' HO114.out).2.2 | (with_reducible refine Kd.C_alloc ?_ _) | (with_reducible refine Kd.C_drewN ?_ _) | (with_reducible refine Kd.C_drew ?_))); (case side2 => exact (Kd.R_reads' HO114.out).2.1); rintro e w23 ⟨v119, rfl, ho0, hb⟩; clear A11; refine ⟨_, rfl, ?_⟩; have n0_ := Aside0.mk (Kd.R_elder' (by (with_reducible repeat (first | apply Kd.R_alloc | apply Kd.R_drewN | apply Kd.R_drew)); exact HO107.out) (Kd.R_base ho0) hb); have n1_ := Aside0.mk (Kd.R_elder' (by (with_reducible repeat (first | apply Kd.R_alloc | apply Kd.R_drewN | apply Kd.R_drew)); exact HO110.out) (Kd.R_base ho0) hb); have n2_ := Aside0.mk (Kd.R_elder' (by (with_reducible repeat (first | apply Kd.R_alloc | apply Kd.R_drewN | apply Kd.R_drew)); exact HO114.out) (Kd.R_base ho0) hb); have n3_ := Aside0.mk (Kd.R_lower (Kd.R_new' (Kd.R_new' (Kd.R_new' ho0 (Kd.R_lt (by (with_reducible repeat (first | apply Kd.R_alloc | apply Kd.R_drewN | apply Kd.R_drew)); exact HO107.out))) (Kd.R_lt (by (with_reducible repeat (first | apply Kd.R_alloc | apply Kd.R_drewN | apply Kd.R_drew)); exact HO110.out))) (Kd.R_lt (by (with_reducible repeat (first | apply Kd.R_alloc | apply Kd.R_drewN | apply Kd.R_drew)); exact HO114.out))) (below_size (by repeat first | exact HB.1 | apply bA_ | apply bB_ | apply bC_ | refine below_set ?_ GE101.out))); have n4_ := Aside0.mk (blk_below (g := gb101) (o := .cells #[.int .i64 a0_0, .int .i64 a0_1, .int .i64 a0_2] 25 (0, 0)) (by (with_reducible repeat first | refine cA_ ?_ _ | refine cB_ ?_ | refine cC_ ?_ _); exact BK101.1) hb); have n5_ := Aside0.mk (below_step (by repeat first | exact HB.1 | apply bA_ | apply bB_ | apply bC_ | refine below_set ?_ GE101.out) hb); clear HO107; clear HO110; clear HO114; clear BK101; clear HB; have HO107 := n0_; have HO110 := n1_; have HO114 := n2_; have HO120 := n3_; have BK101 := n4_; have HB := n5_; clear n0_ n1_ n2_ n3_ n4_ n5_; (try clear hb); (try clear hb2); (try clear hk); (try clear hi); (try clear ho0)))
    (try simp only [Act.put, List.setIfInBounds_toArray, List.set_cons_zero, List.set_cons_succ])
    go_cut [47] (fun v47 wc => ∃ (kq : Nat) (x47_11 : Bool), v47 = .bool x47_11 ∧ Aside0 (laws_FnExactEraseWay.j0 kq a1 l2 t108 t111 t112 t118 t121 x47_11 a0_0 a0_1 a0_2 = some r) ∧ Aside0 (kq ≤ k) ∧ Aside0 (Kd.R (Kd.int .i64) 3 wc w.heap.size (fun k_ => some k_ ≠ ((.slice Ao22 t112.length co22) : Value).ownBlock ∧ some k_ ≠ (v119 : Value).ownBlock) v109 t108) ∧ Aside0 (Kd.R (Kd.int .i64) 3 wc w.heap.size (fun k_ => some k_ ≠ (v109 : Value).ownBlock ∧ some k_ ≠ (v119 : Value).ownBlock) (.slice Ao22 t112.length co22) t112) ∧ Aside0 (Kd.R (Kd.int .i64) 3 wc w.heap.size (fun k_ => some k_ ≠ (v109 : Value).ownBlock ∧ some k_ ≠ ((.slice Ao22 t112.length co22) : Value).ownBlock) v119 t118) ∧ Aside0 (wc.heap[gb101]? = some (.cells #[.int .i64 a0_0, .int .i64 a0_1, .int .i64 a0_2] 25 (0, 0))) ∧ Aside0 (Below w.heap.size w wc))
    case first =>
      have H := HC12.out
      clear HC12
      obtain ⟨t122, A240, H⟩ := Option.bind_eq_some_iff.mp H
      (try dsimp only at H); have A24 := Aside0.mk A240; clear A240
      by_cases c25 : t122 = true
      · subst c25
        rw [if_pos rfl] at H
        have H' := Aside0.mk H
        clear H
        obtain ⟨Ao26, co26, eo26⟩ := Kd.R_slice HO120.out
        subst eo26
        obtain ⟨Ao27, co27, eo27⟩ := Kd.R_slice HO110.out
        subst eo27
        go_wp2_with (first | ((with_reducible refine gate_callee (f := 34) rfl ?_); refine goesL_ (some 41) rfl rfl Try.func34 (by kernel_rfl) rfl #[.slice Ao26 t118.length co26, .slice Ao27 t108.length co27] rfl (by (try simp only [M3_]); first | done | rfl | (simp only [List.length_drop, List.length_take]; rfl)) ?_; (with_reducible refine (laws_eqIntS.calls k _ _ t118 _ _ t108 true _ ?side1 ?side2 ?side3 ?side4 A24.out).mono ?_); (case side1 => repeat (first | exact (Kd.R_reads' HO120.out).2.2 | (with_reducible refine Kd.C_alloc ?_ _) | (with_reducible refine Kd.C_drewN ?_ _) | (with_reducible refine Kd.C_drew ?_))); (case side2 => exact (Kd.R_reads' HO120.out).2.1); (case side3 => repeat (first | exact (Kd.R_reads' HO110.out).2.2 | (with_reducible refine Kd.C_alloc ?_ _) | (with_reducible refine Kd.C_drewN ?_ _) | (with_reducible refine Kd.C_drew ?_))); (case side4 => exact (Kd.R_reads' HO110.out).2.1); rintro e w' ⟨rfl, ⟨nd, rfl⟩⟩; clear A24; refine ⟨_, rfl, ?_⟩))
        go_meet
        case rel => exact ⟨_, ((t121 != t111)), (by first | rfl | (simp; done) | (simp [*]; done)), H', ⟨by first | omega | exact Nat.le_refl _⟩, ⟨by (with_reducible repeat (first | apply Kd.R_alloc | apply Kd.R_drewN | apply Kd.R_drew)); exact Kd.R_mono HO110.out (fun _ hk => ⟨hk.1.2, hk.2⟩)⟩, ⟨by (with_reducible repeat (first | apply Kd.R_alloc | apply Kd.R_drewN | apply Kd.R_drew)); exact Kd.R_mono HO114.out (fun _ hk => ⟨hk.1.2, hk.2⟩)⟩, ⟨by (with_reducible repeat (first | apply Kd.R_alloc | apply Kd.R_drewN | apply Kd.R_drew)); exact Kd.R_mono HO120.out (fun _ hk => ⟨hk.1.2, hk.2⟩)⟩, ⟨by (with_reducible repeat (first | refine blk_drewN ?_ _ | refine blk_drew ?_ | refine blk_alloc ?_ _)); exact BK101.out⟩, ⟨by repeat (first | (with_reducible first | exact HB.out | apply below_alloc | apply pw_below_drewN | apply below_drew1 | refine below_set ?_ GE101.out) | exact HB.out)⟩⟩
      · replace c25 := Bool.eq_false_iff.mpr c25
        subst c25
        have H1 : (laws_FnExactEraseWay.j0 k a1 l2 t108 t111 t112 t118 t121 true a0_0 a0_1 a0_2) = some r := by rw [if_neg (show ¬ (false = true) by decide)] at H; exact H
        clear H
        have H := H1
        clear H1
        have H' := Aside0.mk H
        clear H
        obtain ⟨Ao28, co28, eo28⟩ := Kd.R_slice HO120.out
        subst eo28
        obtain ⟨Ao29, co29, eo29⟩ := Kd.R_slice HO110.out
        subst eo29
        go_wp2_with (first | ((with_reducible refine gate_callee (f := 34) rfl ?_); refine goesL_ (some 41) rfl rfl Try.func34 (by kernel_rfl) rfl #[.slice Ao28 t118.length co28, .slice Ao29 t108.length co29] rfl (by (try simp only [M3_]); first | done | rfl | (simp only [List.length_drop, List.length_take]; rfl)) ?_; (with_reducible refine (laws_eqIntS.calls k _ _ t118 _ _ t108 false _ ?side1 ?side2 ?side3 ?side4 A24.out).mono ?_); (case side1 => repeat (first | exact (Kd.R_reads' HO120.out).2.2 | (with_reducible refine Kd.C_alloc ?_ _) | (with_reducible refine Kd.C_drewN ?_ _) | (with_reducible refine Kd.C_drew ?_))); (case side2 => exact (Kd.R_reads' HO120.out).2.1); (case side3 => repeat (first | exact (Kd.R_reads' HO110.out).2.2 | (with_reducible refine Kd.C_alloc ?_ _) | (with_reducible refine Kd.C_drewN ?_ _) | (with_reducible refine Kd.C_drew ?_))); (case side4 => exact (Kd.R_reads' HO110.out).2.1); rintro e w' ⟨rfl, ⟨nd, rfl⟩⟩; clear A24; refine ⟨_, rfl, ?_⟩))
        go_meet
        case rel => exact ⟨_, (true), (by first | rfl | (simp; done) | (simp [*]; done)), H', ⟨by first | omega | exact Nat.le_refl _⟩, ⟨by (with_reducible repeat (first | apply Kd.R_alloc | apply Kd.R_drewN | apply Kd.R_drew)); exact Kd.R_mono HO110.out (fun _ hk => ⟨hk.1.2, hk.2⟩)⟩, ⟨by (with_reducible repeat (first | apply Kd.R_alloc | apply Kd.R_drewN | apply Kd.R_drew)); exact Kd.R_mono HO114.out (fun _ hk => ⟨hk.1.2, hk.2⟩)⟩, ⟨by (with_reducible repeat (first | apply Kd.R_alloc | apply Kd.R_drewN | apply Kd.R_drew)); exact Kd.R_mono HO120.out (fun _ hk => ⟨hk.1.2, hk.2⟩)⟩, ⟨by (with_reducible repeat (first | refine blk_drewN ?_ _ | refine blk_drew ?_ | refine blk_alloc ?_ _)); exact BK101.out⟩, ⟨by repeat (first | (with_reducible first | exact HB.out | apply below_alloc | apply pw_below_drewN | apply below_drew1 | refine below_set ?_ GE101.out) | exact HB.out)⟩⟩
    case rest =>
      clear HC12; try clear c1; try clear c2; try clear p2; try clear c3; try clear c4; try clear c4b0; try clear c4b1; try clear c10; try clear c16; try clear c25; try clear hcz14_0; try clear hcz14_1; try clear hcz14_2; try clear hcz20_0; try clear hcz20_1; try clear hcz20_2; try clear hfz14_0; try clear hfz14_1; try clear hfz14_2; try clear hfz20_0; try clear hfz20_1; try clear hfz20_2
      obtain ⟨kq, x47_11, rfl, HA, HJ11, HO_7, HO_9, HO_10, BK101, HB⟩ := hcut
      cases kq with
      | zero => exact absurd HA.out (by simp [laws_FnExactEraseWay.j0])
      | succ kj11 =>
        have H := HA.out
        clear HA
        simp only [laws_FnExactEraseWay.j0] at H
        by_cases c30 : x47_11 = true
        · subst c30
          rw [if_pos rfl] at H
          obtain rfl := Option.some.inj H
          go_wp2
          go_ret
          exact ⟨by first | rfl | (simp [errW_none, errW_some] <;> rfl) | (simp [*, errW_none, errW_some] <;> rfl), by repeat (first | (with_reducible first | exact HB.out | apply below_alloc | apply pw_below_drewN | apply below_drew1 | refine below_set ?_ GE101.out) | exact HB.out)⟩
        · replace c30 := Bool.eq_false_iff.mpr c30
          subst c30
          have H1 : ((laws_toIntS.f kj11 l2).bind fun t123 => ((laws_eqIntS.f kj11 t112 t123).bind fun t126 => (if t126 = true then ((laws_markIntS.f kj11 t112 1).bind fun bt127 => (if bt127.1 < 0 then (laws_FnExactEraseWay.j1 kj11 a1 l2 t108 t111 t118 true a0_0 a0_1 a0_2) else ((laws_eqIntS.f kj11 t118 t108).bind fun t129 => (if t129 = true then (laws_FnExactEraseWay.j1 kj11 a1 l2 t108 t111 t118 (t121 != t111) a0_0 a0_1 a0_2) else (laws_FnExactEraseWay.j1 kj11 a1 l2 t108 t111 t118 true a0_0 a0_1 a0_2))))) else (some false)))) = some r := by rw [if_neg (show ¬ (false = true) by decide)] at H; exact H
          clear H
          have H := H1
          clear H1
          obtain ⟨t123, A310, H⟩ := Option.bind_eq_some_iff.mp H
          (try dsimp only at H); have A31 := Aside0.mk A310; clear A310
          obtain ⟨t126, A320, H⟩ := Option.bind_eq_some_iff.mp H
          (try dsimp only at H); have A32 := Aside0.mk A320; clear A320
          by_cases c33 : t126 = true
          · subst c33
            rw [if_pos rfl] at H
            obtain ⟨⟨t127, t128⟩, A340, H⟩ := Option.bind_eq_some_iff.mp H
            (try dsimp only at H); have A34 := Aside0.mk A340; clear A340
            have HC35 := Aside0.mk H
            clear H
            go_upto_region 12 with (first | ((with_reducible refine gate_callee (f := 32) rfl ?_); refine goesL_ (some 50) rfl rfl Try.func32 (by kernel_rfl) rfl #[.slice A2 l2.length c2] rfl (by (try simp only [M3_]); first | done | rfl | (simp only [List.length_drop, List.length_take]; rfl)) ?_; (with_reducible refine (laws_toIntS.calls kj11 _ _ l2 t123 _ ?side1 ?side2 A31.out).mono ?_); (case side1 => repeat (first | exact (Kd.C_below HR2.out HB.out) | (with_reducible refine Kd.C_alloc ?_ _) | (with_reducible refine Kd.C_drewN ?_ _) | (with_reducible refine Kd.C_drew ?_))); (case side2 => exact HC2.out); rintro e w36 ⟨v124, rfl, ho0, hb⟩; clear A31; refine ⟨_, rfl, ?_⟩; have n0_ := Aside0.mk (Kd.R_elder' (by (with_reducible repeat (first | apply Kd.R_alloc | apply Kd.R_drewN | apply Kd.R_drew)); exact HO_7.out) (Kd.R_base ho0) hb); have n1_ := Aside0.mk (Kd.R_elder' (by (with_reducible repeat (first | apply Kd.R_alloc | apply Kd.R_drewN | apply Kd.R_drew)); exact HO_9.out) (Kd.R_base ho0) hb); have n2_ := Aside0.mk (Kd.R_elder' (by (with_reducible repeat (first | apply Kd.R_alloc | apply Kd.R_drewN | apply Kd.R_drew)); exact HO_10.out) (Kd.R_base ho0) hb); have n3_ := Aside0.mk (Kd.R_lower (Kd.R_new' (Kd.R_new' (Kd.R_new' ho0 (Kd.R_lt (by (with_reducible repeat (first | apply Kd.R_alloc | apply Kd.R_drewN | apply Kd.R_drew)); exact HO_7.out))) (Kd.R_lt (by (with_reducible repeat (first | apply Kd.R_alloc | apply Kd.R_drewN | apply Kd.R_drew)); exact HO_9.out))) (Kd.R_lt (by (with_reducible repeat (first | apply Kd.R_alloc | apply Kd.R_drewN | apply Kd.R_drew)); exact HO_10.out))) (below_size (by repeat first | exact HB.1 | apply bA_ | apply bB_ | apply bC_ | refine below_set ?_ GE101.out))); have n4_ := Aside0.mk (blk_below (g := gb101) (o := .cells #[.int .i64 a0_0, .int .i64 a0_1, .int .i64 a0_2] 25 (0, 0)) (by (with_reducible repeat first | refine cA_ ?_ _ | refine cB_ ?_ | refine cC_ ?_ _); exact BK101.1) hb); have n5_ := Aside0.mk (below_step (by repeat first | exact HB.1 | apply bA_ | apply bB_ | apply bC_ | refine below_set ?_ GE101.out) hb); clear HO_7; clear HO_9; clear HO_10; clear BK101; clear HB; have HO_7 := n0_; have HO_9 := n1_; have HO_10 := n2_; have HO125 := n3_; have BK101 := n4_; have HB := n5_; clear n0_ n1_ n2_ n3_ n4_ n5_; (try clear hb); (try clear hb2); (try clear hk); (try clear hi); (try clear ho0); obtain ⟨Ao37, co37, eo37⟩ := Kd.R_slice HO125.out; subst eo37) | ((with_reducible refine gate_callee (f := 34) rfl ?_); refine goesL_ (some 51) rfl rfl Try.func34 (by kernel_rfl) rfl #[.slice Ao22 t112.length co22, .slice Ao37 t123.length co37] rfl (by (try simp only [M3_]); first | done | rfl | (simp only [List.length_drop, List.length_take]; rfl)) ?_; (with_reducible refine (laws_eqIntS.calls kj11 _ _ t112 _ _ t123 true _ ?side1 ?side2 ?side3 ?side4 A32.out).mono ?_); (case side1 => repeat (first | exact (Kd.R_reads' HO_9.out).2.2 | (with_reducible refine Kd.C_alloc ?_ _) | (with_reducible refine Kd.C_drewN ?_ _) | (with_reducible refine Kd.C_drew ?_))); (case side2 => exact (Kd.R_reads' HO_9.out).2.1); (case side3 => repeat (first | exact (Kd.R_reads' HO125.out).2.2 | (with_reducible refine Kd.C_alloc ?_ _) | (with_reducible refine Kd.C_drewN ?_ _) | (with_reducible refine Kd.C_drew ?_))); (case side4 => exact (Kd.R_reads' HO125.out).2.1); rintro e w' ⟨rfl, ⟨nd, rfl⟩⟩; clear A32; refine ⟨_, rfl, ?_⟩) | ((with_reducible refine gate_callee (f := 43) rfl ?_); refine goesL_ (some 55) rfl rfl Try.func43 (by kernel_rfl) rfl #[.slice Ao22 t112.length co22, .int .i64 1] rfl (by (try simp only [M3_]); first | done | rfl | (simp only [List.length_drop, List.length_take]; rfl)) ?_; (with_reducible refine (laws_markIntS.calls kj11 (fun k_ => some k_ = (.slice Ao22 t112.length co22 : Value).ownBlock) (.slice Ao22 t112.length co22) t112 1 t127 t128 w _ ?side1 ?side2 A34.out).mono ?_); (case side1 => repeat (first | (with_reducible first | exact HB.out | apply below_alloc | apply pw_below_drewN | apply below_drew1 | refine below_set ?_ GE101.out) | exact HB.out)); (case side2 => exact Kd.R_tight rfl HO_9.out); rintro e w38 ⟨rfl, hy0, hb, hkp⟩; clear A34; refine ⟨_, rfl, ?_⟩; have n0_ := Aside0.mk (Kd.R_mono (ok' := fun k_ => some k_ ≠ (.slice Ao22 t112.length co22 : Value).ownBlock ∧ some k_ ≠ (v119 : Value).ownBlock ∧ some k_ ≠ (.slice Ao37 t123.length co37 : Value).ownBlock) (Kd.R_keptB (HO_7.out) hkp (fun k_ hk_ hs_ => (hk_.1.1) hs_)) (fun k_ hk_ => ⟨hk_.1.1.1, hk_.1.1.2, hk_.1.2⟩)); have n1_ := Aside0.mk (Kd.R_reok rfl hy0 (fun k_ e_ => HO_9.out.1 k_ e_)); have n2_ := Aside0.mk (Kd.R_mono (ok' := fun k_ => some k_ ≠ (v109 : Value).ownBlock ∧ some k_ ≠ (.slice Ao22 t112.length co22 : Value).ownBlock ∧ some k_ ≠ (.slice Ao37 t123.length co37 : Value).ownBlock) (Kd.R_keptB (HO_10.out) hkp (fun k_ hk_ hs_ => (hk_.1.2) hs_)) (fun k_ hk_ => ⟨hk_.1.1.1, hk_.1.1.2, hk_.1.2⟩)); have n3_ := Aside0.mk (blk_kept (by (with_reducible repeat first | refine cA_ ?_ _ | refine cB_ ?_ | refine cC_ ?_ _); exact BK101.1) hkp (fun hs_ => (fun e_ => (Kd.R_ne HO_9.out BK101.out (by decide)) e_) hs_)); have n4_ := Aside0.mk (Kd.R_mono (ok' := fun k_ => some k_ ≠ (v109 : Value).ownBlock ∧ some k_ ≠ (.slice Ao22 t112.length co22 : Value).ownBlock ∧ some k_ ≠ (v119 : Value).ownBlock) (Kd.R_keptB (HO125.out) hkp (fun k_ hk_ hs_ => (hk_.1.2) hs_)) (fun k_ hk_ => ⟨hk_.1.1.1.2, hk_.1.1.2, hk_.1.2⟩)); have n5_ := Aside0.mk (hb); clear HO_7; clear HO_9; clear HO_10; clear BK101; clear HO125; clear HB; have HO_7 := n0_; have HO_9 := n1_; have HO_10 := n2_; have BK101 := n3_; have HO125 := n4_; have HB := n5_; clear n0_ n1_ n2_ n3_ n4_ n5_; (try clear hb); (try clear hkp); (try clear hy0)))
            (try simp only [Act.put, List.setIfInBounds_toArray, List.set_cons_zero, List.set_cons_succ])
            go_cut [68] (fun v68 wc => ∃ (kq : Nat) (x68_34 : Bool), v68 = .bool x68_34 ∧ Aside0 (laws_FnExactEraseWay.j1 kq a1 l2 t108 t111 t118 x68_34 a0_0 a0_1 a0_2 = some r) ∧ Aside0 (kq ≤ kj11) ∧ Aside0 (Kd.R (Kd.int .i64) 3 wc w.heap.size (fun k_ => some k_ ≠ (v119 : Value).ownBlock) v109 t108) ∧ Aside0 (Kd.R (Kd.int .i64) 3 wc w.heap.size (fun k_ => some k_ ≠ (v109 : Value).ownBlock) v119 t118) ∧ Aside0 (wc.heap[gb101]? = some (.cells #[.int .i64 a0_0, .int .i64 a0_1, .int .i64 a0_2] 25 (0, 0))) ∧ Aside0 (Below w.heap.size w wc))
            case first =>
              have H := HC35.out
              clear HC35
              by_cases c39 : t127 < 0
              · rw [if_pos c39] at H
                have c39b0 : decide (t127 < 0) = true := decide_eq_true c39
                clear c39
                (first | rw [c39b0] | (simp only [i64_w, i32_w]; rw [c39b0]) | skip)
                have H' := Aside0.mk H
                clear H
                go_wp2
                go_meet
                case rel => exact ⟨_, (true), (by first | rfl | (simp; done) | (simp [*]; done)), H', ⟨by have := HJ11.out; first | omega | exact Nat.le_refl _⟩, ⟨by (with_reducible repeat (first | apply Kd.R_alloc | apply Kd.R_drewN | apply Kd.R_drew)); exact Kd.R_mono HO_7.out (fun _ hk => hk.2.1)⟩, ⟨by (with_reducible repeat (first | apply Kd.R_alloc | apply Kd.R_drewN | apply Kd.R_drew)); exact Kd.R_mono HO_10.out (fun _ hk => hk.1)⟩, ⟨by (with_reducible repeat (first | refine blk_drewN ?_ _ | refine blk_drew ?_ | refine blk_alloc ?_ _)); exact BK101.out⟩, ⟨by repeat (first | (with_reducible first | exact HB.out | apply below_alloc | apply pw_below_drewN | apply below_drew1 | refine below_set ?_ GE101.out) | exact HB.out)⟩⟩
              · rw [if_neg c39] at H
                have c39b0 : decide (t127 < 0) = false := decide_eq_false c39
                clear c39
                (first | rw [c39b0] | (simp only [i64_w, i32_w]; rw [c39b0]) | skip)
                obtain ⟨t129, A400, H⟩ := Option.bind_eq_some_iff.mp H
                (try dsimp only at H); have A40 := Aside0.mk A400; clear A400
                by_cases c41 : t129 = true
                · subst c41
                  rw [if_pos rfl] at H
                  have H' := Aside0.mk H
                  clear H
                  obtain ⟨Ao42, co42, eo42⟩ := Kd.R_slice HO_10.out
                  subst eo42
                  obtain ⟨Ao43, co43, eo43⟩ := Kd.R_slice HO_7.out
                  subst eo43
                  go_wp2_with (first | (go_at_call 34; (with_reducible refine (laws_eqIntS.calls kj11 _ _ t118 _ _ t108 true _ ?side1 ?side2 ?side3 ?side4 A40.out).mono ?_); (case side1 => repeat (first | exact (Kd.R_reads' HO_10.out).2.2 | (with_reducible refine Kd.C_alloc ?_ _) | (with_reducible refine Kd.C_drewN ?_ _) | (with_reducible refine Kd.C_drew ?_))); (case side2 => exact (Kd.R_reads' HO_10.out).2.1); (case side3 => repeat (first | exact (Kd.R_reads' HO_7.out).2.2 | (with_reducible refine Kd.C_alloc ?_ _) | (with_reducible refine Kd.C_drewN ?_ _) | (with_reducible refine Kd.C_drew ?_))); (case side4 => exact (Kd.R_reads' HO_7.out).2.1); rintro e w' ⟨rfl, ⟨nd, rfl⟩⟩))
                  go_meet
                  case rel => exact ⟨_, ((t121 != t111)), (by first | rfl | (simp; done) | (simp [*]; done)), H', ⟨by have := HJ11.out; first | omega | exact Nat.le_refl _⟩, ⟨by (with_reducible repeat (first | apply Kd.R_alloc | apply Kd.R_drewN | apply Kd.R_drew)); exact Kd.R_mono HO_7.out (fun _ hk => hk.2.1)⟩, ⟨by (with_reducible repeat (first | apply Kd.R_alloc | apply Kd.R_drewN | apply Kd.R_drew)); exact Kd.R_mono HO_10.out (fun _ hk => hk.1)⟩, ⟨by (with_reducible repeat (first | refine blk_drewN ?_ _ | refine blk_drew ?_ | refine blk_alloc ?_ _)); exact BK101.out⟩, ⟨by repeat (first | (with_reducible first | exact HB.out | apply below_alloc | apply pw_below_drewN | apply below_drew1 | refine below_set ?_ GE101.out) | exact HB.out)⟩⟩
                · replace c41 := Bool.eq_false_iff.mpr c41
                  subst c41
                  have H1 : (laws_FnExactEraseWay.j1 kj11 a1 l2 t108 t111 t118 true a0_0 a0_1 a0_2) = some r := by rw [if_neg (show ¬ (false = true) by decide)] at H; exact H
                  clear H
                  have H := H1
                  clear H1
                  have H' := Aside0.mk H
                  clear H
                  obtain ⟨Ao44, co44, eo44⟩ := Kd.R_slice HO_10.out
                  subst eo44
                  obtain ⟨Ao45, co45, eo45⟩ := Kd.R_slice HO_7.out
                  subst eo45
                  go_wp2_with (first | (go_at_call 34; (with_reducible refine (laws_eqIntS.calls kj11 _ _ t118 _ _ t108 false _ ?side1 ?side2 ?side3 ?side4 A40.out).mono ?_); (case side1 => repeat (first | exact (Kd.R_reads' HO_10.out).2.2 | (with_reducible refine Kd.C_alloc ?_ _) | (with_reducible refine Kd.C_drewN ?_ _) | (with_reducible refine Kd.C_drew ?_))); (case side2 => exact (Kd.R_reads' HO_10.out).2.1); (case side3 => repeat (first | exact (Kd.R_reads' HO_7.out).2.2 | (with_reducible refine Kd.C_alloc ?_ _) | (with_reducible refine Kd.C_drewN ?_ _) | (with_reducible refine Kd.C_drew ?_))); (case side4 => exact (Kd.R_reads' HO_7.out).2.1); rintro e w' ⟨rfl, ⟨nd, rfl⟩⟩))
                  go_meet
                  case rel => exact ⟨_, (true), (by first | rfl | (simp; done) | (simp [*]; done)), H', ⟨by have := HJ11.out; first | omega | exact Nat.le_refl _⟩, ⟨by (with_reducible repeat (first | apply Kd.R_alloc | apply Kd.R_drewN | apply Kd.R_drew)); exact Kd.R_mono HO_7.out (fun _ hk => hk.2.1)⟩, ⟨by (with_reducible repeat (first | apply Kd.R_alloc | apply Kd.R_drewN | apply Kd.R_drew)); exact Kd.R_mono HO_10.out (fun _ hk => hk.1)⟩, ⟨by (with_reducible repeat (first | refine blk_drewN ?_ _ | refine blk_drew ?_ | refine blk_alloc ?_ _)); exact BK101.out⟩, ⟨by repeat (first | (with_reducible first | exact HB.out | apply below_alloc | apply pw_below_drewN | apply below_drew1 | refine below_set ?_ GE101.out) | exact HB.out)⟩⟩
            case rest =>
              clear HC35; try clear c1; try clear c2; try clear p2; try clear c3; try clear c4; try clear c4b0; try clear c4b1; try clear c10; try clear c16; try clear c25; try clear c30; try clear c32; try clear c33; try clear c34; try clear c39; try clear c39b0; try clear c41; try clear c42; try clear c43; try clear hcz14_0; try clear hcz14_1; try clear hcz14_2; try clear hcz20_0; try clear hcz20_1; try clear hcz20_2; try clear hfz14_0; try clear hfz14_1; try clear hfz14_2; try clear hfz20_0; try clear hfz20_1; try clear hfz20_2; try clear p2
              obtain ⟨kq, x68_34, rfl, HA, HJ34, HO_7, HO_10, BK101, HB⟩ := hcut
              cases kq with
              | zero => exact absurd HA.out (by simp [laws_FnExactEraseWay.j1])
              | succ kj34 =>
                have H := HA.out
                clear HA
                simp only [laws_FnExactEraseWay.j1] at H
                by_cases c46 : x68_34 = true
                · subst c46
                  rw [if_pos rfl] at H
                  obtain rfl := Option.some.inj H
                  go_wp2
                  go_ret
                  exact ⟨by first | rfl | (simp [errW_none, errW_some] <;> rfl) | (simp [*, errW_none, errW_some] <;> rfl), by repeat (first | (with_reducible first | exact HB.out | apply below_alloc | apply pw_below_drewN | apply below_drew1 | refine below_set ?_ GE101.out) | exact HB.out)⟩
                · replace c46 := Bool.eq_false_iff.mpr c46
                  subst c46
                  have H1 : ((laws_markIntS.f kj34 t118 1).bind fun bt130 => ((laws_heldIntS.f kj34 bt130.2 1).bind fun t132 => (if t132 < 0 then (some false) else (if t132 = bt130.1 then ((laws_toMaze.f a0_0 a0_1 a0_2).bind fun bt133 => ((laws_toIntS.f kj34 l2).bind fun t136 => ((impl_EraseWay.f kj34 bt133.1 bt133.2.1 bt133.2.2 a1 t136).bind fun bt139 => ((laws_eqIntS.f kj34 bt139.1 t108).bind fun t143 => (if t143 = true then (laws_FnExactEraseWay.j2 kj34 bt130.2 bt130.1 (bt139.2 != t111)) else (laws_FnExactEraseWay.j2 kj34 bt130.2 bt130.1 true)))))) else (some false))))) = some r := by rw [if_neg (show ¬ (false = true) by decide)] at H; exact H
                  clear H
                  have H := H1
                  clear H1
                  obtain ⟨⟨t130, t131⟩, A470, H⟩ := Option.bind_eq_some_iff.mp H
                  (try dsimp only at H); have A47 := Aside0.mk A470; clear A470
                  obtain ⟨t132, A480, H⟩ := Option.bind_eq_some_iff.mp H
                  (try dsimp only at H); have A48 := Aside0.mk A480; clear A480
                  by_cases c49 : t132 < 0
                  · rw [if_pos c49] at H
                    have c49b0 : decide (t132 < 0) = true := decide_eq_true c49
                    clear c49
                    obtain rfl := Option.some.inj H
                    obtain ⟨Ao50, co50, eo50⟩ := Kd.R_slice HO_10.out
                    subst eo50
                    go_wp2_with (first | ((with_reducible refine gate_callee (f := 43) rfl ?_); refine goesL_ (some 71) rfl rfl Try.func43 (by kernel_rfl) rfl #[.slice Ao50 t118.length co50, .int .i64 1] rfl (by (try simp only [M3_]); first | done | rfl | (simp only [List.length_drop, List.length_take]; rfl)) ?_; (with_reducible refine (laws_markIntS.calls kj34 (fun k_ => some k_ = (.slice Ao50 t118.length co50 : Value).ownBlock) (.slice Ao50 t118.length co50) t118 1 t130 t131 w _ ?side1 ?side2 A47.out).mono ?_); (case side1 => repeat (first | (with_reducible first | exact HB.out | apply below_alloc | apply pw_below_drewN | apply below_drew1 | refine below_set ?_ GE101.out) | exact HB.out)); (case side2 => exact Kd.R_tight rfl HO_10.out); rintro e w51 ⟨rfl, hy0, hb, hkp⟩; clear A47; refine ⟨_, rfl, ?_⟩; have n0_ := Aside0.mk (Kd.R_mono (ok' := fun k_ => some k_ ≠ (.slice Ao50 t118.length co50 : Value).ownBlock) (Kd.R_keptB (HO_7.out) hkp (fun k_ hk_ hs_ => (hk_) hs_)) (fun k_ hk_ => hk_.1)); have n1_ := Aside0.mk (Kd.R_reok rfl hy0 (fun k_ e_ => HO_10.out.1 k_ e_)); have n2_ := Aside0.mk (blk_kept (by (with_reducible repeat first | refine cA_ ?_ _ | refine cB_ ?_ | refine cC_ ?_ _); exact BK101.1) hkp (fun hs_ => (fun e_ => (Kd.R_ne HO_10.out BK101.out (by decide)) e_) hs_)); have n3_ := Aside0.mk (hb); clear HO_7; clear HO_10; clear BK101; clear HB; have HO_7 := n0_; have HO_10 := n1_; have BK101 := n2_; have HB := n3_; clear n0_ n1_ n2_ n3_; (try clear hb); (try clear hkp); (try clear hy0)) | ((with_reducible refine gate_callee (f := 44) rfl ?_); refine goesL_ (some 74) rfl rfl Try.func44 (by kernel_rfl) rfl #[.slice Ao50 t131.length co50, .int .i64 1] rfl (by (try simp only [List.map_toArray, List.map_cons, List.map_nil]); first | done | (rw [show t131.length = t118.length from (Kd.R_reads' HO_10.out).1.symm] <;> rfl) | rfl | (simp only [List.length_drop, List.length_take]; rfl)) ?_; (with_reducible refine (laws_heldIntS.calls kj34 _ _ t131 1 t132 _ ?side1 ?side2 A48.out).mono ?_); (case side1 => repeat (first | exact (Kd.R_reads' HO_10.out).2.2 | (with_reducible refine Kd.C_alloc ?_ _) | (with_reducible refine Kd.C_drewN ?_ _) | (with_reducible refine Kd.C_drew ?_))); (case side2 => rw [show t131.length = t118.length from (Kd.R_reads' HO_10.out).1.symm]; exact (Kd.R_reads' HO_10.out).2.1); rintro e w' ⟨rfl, ⟨nd, rfl⟩⟩; clear A48; refine ⟨_, rfl, ?_⟩))
                    go_ret
                    exact ⟨by first | rfl | (simp [errW_none, errW_some] <;> rfl) | (simp [*, errW_none, errW_some] <;> rfl), by repeat (first | (with_reducible first | exact HB.out | apply below_alloc | apply pw_below_drewN | apply below_drew1 | refine below_set ?_ GE101.out) | exact HB.out)⟩
                  · rw [if_neg c49] at H
                    have c49b0 : decide (t132 < 0) = false := decide_eq_false c49
                    clear c49
                    by_cases c52 : t132 = t130
                    · rw [if_pos c52] at H
                      have c52b0 : (t132 == t130) = true := beq_iff_eq.mpr c52
                      have c52b1 : (t132 != t130) = false := bne_eq_false_iff_eq.mpr c52
                      clear c52
                      obtain ⟨⟨t133, t134, t135⟩, A530, H⟩ := Option.bind_eq_some_iff.mp H
                      (try dsimp only at H); have A53 := Aside0.mk A530; clear A530
                      obtain ⟨t136, A540, H⟩ := Option.bind_eq_some_iff.mp H
                      (try dsimp only at H); have A54 := Aside0.mk A540; clear A540
                      obtain ⟨⟨t139, t142⟩, A550, H⟩ := Option.bind_eq_some_iff.mp H
                      (try dsimp only at H); have A55 := Aside0.mk A550; clear A550
                      have HC56 := Aside0.mk H
                      clear H
                      obtain ⟨Ao57, co57, eo57⟩ := Kd.R_slice HO_10.out
                      subst eo57
                      go_upto_region 23 with (first | ((with_reducible refine gate_callee (f := 43) rfl ?_); refine goesL_ (some 71) rfl rfl Try.func43 (by kernel_rfl) rfl #[.slice Ao57 t118.length co57, .int .i64 1] rfl (by (try simp only [M3_]); first | done | rfl | (simp only [List.length_drop, List.length_take]; rfl)) ?_; (with_reducible refine (laws_markIntS.calls kj34 (fun k_ => some k_ = (.slice Ao57 t118.length co57 : Value).ownBlock) (.slice Ao57 t118.length co57) t118 1 t130 t131 w _ ?side1 ?side2 A47.out).mono ?_); (case side1 => repeat (first | (with_reducible first | exact HB.out | apply below_alloc | apply pw_below_drewN | apply below_drew1 | refine below_set ?_ GE101.out) | exact HB.out)); (case side2 => exact Kd.R_tight rfl HO_10.out); rintro e w58 ⟨rfl, hy0, hb, hkp⟩; clear A47; refine ⟨_, rfl, ?_⟩; have n0_ := Aside0.mk (Kd.R_mono (ok' := fun k_ => some k_ ≠ (.slice Ao57 t118.length co57 : Value).ownBlock) (Kd.R_keptB (HO_7.out) hkp (fun k_ hk_ hs_ => (hk_) hs_)) (fun k_ hk_ => hk_.1)); have n1_ := Aside0.mk (Kd.R_reok rfl hy0 (fun k_ e_ => HO_10.out.1 k_ e_)); have n2_ := Aside0.mk (blk_kept (by (with_reducible repeat first | refine cA_ ?_ _ | refine cB_ ?_ | refine cC_ ?_ _); exact BK101.1) hkp (fun hs_ => (fun e_ => (Kd.R_ne HO_10.out BK101.out (by decide)) e_) hs_)); have n3_ := Aside0.mk (hb); clear HO_7; clear HO_10; clear BK101; clear HB; have HO_7 := n0_; have HO_10 := n1_; have BK101 := n2_; have HB := n3_; clear n0_ n1_ n2_ n3_; (try clear hb); (try clear hkp); (try clear hy0)) | ((with_reducible refine gate_callee (f := 44) rfl ?_); refine goesL_ (some 74) rfl rfl Try.func44 (by kernel_rfl) rfl #[.slice Ao57 t131.length co57, .int .i64 1] rfl (by (try simp only [List.map_toArray, List.map_cons, List.map_nil]); first | done | (rw [show t131.length = t118.length from (Kd.R_reads' HO_10.out).1.symm] <;> rfl) | rfl | (simp only [List.length_drop, List.length_take]; rfl)) ?_; (with_reducible refine (laws_heldIntS.calls kj34 _ _ t131 1 t132 _ ?side1 ?side2 A48.out).mono ?_); (case side1 => repeat (first | exact (Kd.R_reads' HO_10.out).2.2 | (with_reducible refine Kd.C_alloc ?_ _) | (with_reducible refine Kd.C_drewN ?_ _) | (with_reducible refine Kd.C_drew ?_))); (case side2 => rw [show t131.length = t118.length from (Kd.R_reads' HO_10.out).1.symm]; exact (Kd.R_reads' HO_10.out).2.1); rintro e w' ⟨rfl, ⟨nd, rfl⟩⟩; clear A48; refine ⟨_, rfl, ?_⟩; obtain ⟨hcz59_0, hcz59_1, hcz59_2⟩ := kk3_ BK101.1; have hfz59_0 := blk_frozen BK101.out 0; have hfz59_1 := blk_frozen BK101.out 1; have hfz59_2 := blk_frozen BK101.out 2) | ((with_reducible refine gate_callee (f := 16) rfl ?_); refine goesL_ (some 82) rfl rfl Try.func16 (by kernel_rfl) rfl #[.agg #[.int .i64 a0_0, .int .i64 a0_1, .int .i64 a0_2]] rfl (by (try simp only [M3_]); first | done | rfl | (simp only [List.length_drop, List.length_take]; rfl)) ?_; (with_reducible refine (laws_toMaze.calls a0_0 a0_1 a0_2 t133 t134 t135 _ A53.out).mono ?_); rintro e w60 ⟨rfl, hb⟩; clear A53; refine ⟨_, rfl, ?_⟩; have n0_ := Aside0.mk (Kd.R_below (by (with_reducible repeat (first | apply Kd.R_alloc | apply Kd.R_drewN | apply Kd.R_drew)); exact HO_7.out) hb); have n1_ := Aside0.mk (Kd.R_below (by (with_reducible repeat (first | apply Kd.R_alloc | apply Kd.R_drewN | apply Kd.R_drew)); exact HO_10.out) hb); have n2_ := Aside0.mk (blk_below (g := gb101) (o := .cells #[.int .i64 a0_0, .int .i64 a0_1, .int .i64 a0_2] 25 (0, 0)) (by (with_reducible repeat first | refine cA_ ?_ _ | refine cB_ ?_ | refine cC_ ?_ _); exact BK101.1) hb); have n3_ := Aside0.mk (below_step (by repeat first | exact HB.1 | apply bA_ | apply bB_ | apply bC_ | refine below_set ?_ GE101.out) hb); clear HO_7; clear HO_10; clear BK101; clear HB; have HO_7 := n0_; have HO_10 := n1_; have BK101 := n2_; have HB := n3_; clear n0_ n1_ n2_ n3_; (try clear hb); (try clear hb2); (try clear hk); (try clear hi)) | ((with_reducible refine gate_callee (f := 32) rfl ?_); refine goesL_ (some 85) rfl rfl Try.func32 (by kernel_rfl) rfl #[.slice A2 l2.length c2] rfl (by (try simp only [M3_]); first | done | rfl | (simp only [List.length_drop, List.length_take]; rfl)) ?_; (with_reducible refine (laws_toIntS.calls kj34 _ _ l2 t136 _ ?side1 ?side2 A54.out).mono ?_); (case side1 => repeat (first | exact (Kd.C_below HR2.out HB.out) | (with_reducible refine Kd.C_alloc ?_ _) | (with_reducible refine Kd.C_drewN ?_ _) | (with_reducible refine Kd.C_drew ?_))); (case side2 => exact HC2.out); rintro e w61 ⟨v137, rfl, ho0, hb⟩; clear A54; refine ⟨_, rfl, ?_⟩; have n0_ := Aside0.mk (Kd.R_elder' (by (with_reducible repeat (first | apply Kd.R_alloc | apply Kd.R_drewN | apply Kd.R_drew)); exact HO_7.out) (Kd.R_base ho0) hb); have n1_ := Aside0.mk (Kd.R_elder' (by (with_reducible repeat (first | apply Kd.R_alloc | apply Kd.R_drewN | apply Kd.R_drew)); exact HO_10.out) (Kd.R_base ho0) hb); have n2_ := Aside0.mk (Kd.R_lower (Kd.R_new' (Kd.R_new' ho0 (Kd.R_lt (by (with_reducible repeat (first | apply Kd.R_alloc | apply Kd.R_drewN | apply Kd.R_drew)); exact HO_7.out))) (Kd.R_lt (by (with_reducible repeat (first | apply Kd.R_alloc | apply Kd.R_drewN | apply Kd.R_drew)); exact HO_10.out))) (below_size (by repeat first | exact HB.1 | apply bA_ | apply bB_ | apply bC_ | refine below_set ?_ GE101.out))); have n3_ := Aside0.mk (blk_below (g := gb101) (o := .cells #[.int .i64 a0_0, .int .i64 a0_1, .int .i64 a0_2] 25 (0, 0)) (by (with_reducible repeat first | refine cA_ ?_ _ | refine cB_ ?_ | refine cC_ ?_ _); exact BK101.1) hb); have n4_ := Aside0.mk (below_step (by repeat first | exact HB.1 | apply bA_ | apply bB_ | apply bC_ | refine below_set ?_ GE101.out) hb); clear HO_7; clear HO_10; clear BK101; clear HB; have HO_7 := n0_; have HO_10 := n1_; have HO138 := n2_; have BK101 := n3_; have HB := n4_; clear n0_ n1_ n2_ n3_ n4_; (try clear hb); (try clear hb2); (try clear hk); (try clear hi); (try clear ho0); obtain ⟨Ao62, co62, eo62⟩ := Kd.R_slice HO138.out; subst eo62) | ((with_reducible refine gate_callee (f := 42) rfl ?_); refine goesL_ (some 86) rfl rfl Try.func42 (by kernel_rfl) rfl #[.agg #[.int .i64 t133, .int .i64 t134, .int .i64 t135], .int .i64 a1, .slice Ao62 t136.length co62] rfl (by (try simp only [M3_]); first | done | rfl | (simp only [List.length_drop, List.length_take]; rfl)) ?_; (with_reducible refine (impl_EraseWay.calls kj34 t133 t134 t135 a1 _ _ t136 t139 t142 _ ?side1 ?side2 A55.out).mono ?_); (case side1 => repeat (first | exact (Kd.R_reads' HO138.out).2.2 | (with_reducible refine Kd.C_alloc ?_ _) | (with_reducible refine Kd.C_drewN ?_ _) | (with_reducible refine Kd.C_drew ?_))); (case side2 => exact (Kd.R_reads' HO138.out).2.1); rintro e w63 ⟨v140, rfl, ho0, hb⟩; clear A55; refine ⟨_, rfl, ?_⟩; have n0_ := Aside0.mk (Kd.R_elder' (by (with_reducible repeat (first | apply Kd.R_alloc | apply Kd.R_drewN | apply Kd.R_drew)); exact HO_7.out) (Kd.R_base ho0) hb); have n1_ := Aside0.mk (Kd.R_elder' (by (with_reducible repeat (first | apply Kd.R_alloc | apply Kd.R_drewN | apply Kd.R_drew)); exact HO_10.out) (Kd.R_base ho0) hb); have n2_ := Aside0.mk (Kd.R_elder' (by (with_reducible repeat (first | apply Kd.R_alloc | apply Kd.R_drewN | apply Kd.R_drew)); exact HO138.out) (Kd.R_base ho0) hb); have n3_ := Aside0.mk (Kd.R_lower (Kd.R_new' (Kd.R_new' (Kd.R_new' ho0 (Kd.R_lt (by (with_reducible repeat (first | apply Kd.R_alloc | apply Kd.R_drewN | apply Kd.R_drew)); exact HO_7.out))) (Kd.R_lt (by (with_reducible repeat (first | apply Kd.R_alloc | apply Kd.R_drewN | apply Kd.R_drew)); exact HO_10.out))) (Kd.R_lt (by (with_reducible repeat (first | apply Kd.R_alloc | apply Kd.R_drewN | apply Kd.R_drew)); exact HO138.out))) (below_size (by repeat first | exact HB.1 | apply bA_ | apply bB_ | apply bC_ | refine below_set ?_ GE101.out))); have n4_ := Aside0.mk (blk_below (g := gb101) (o := .cells #[.int .i64 a0_0, .int .i64 a0_1, .int .i64 a0_2] 25 (0, 0)) (by (with_reducible repeat first | refine cA_ ?_ _ | refine cB_ ?_ | refine cC_ ?_ _); exact BK101.1) hb); have n5_ := Aside0.mk (below_step (by repeat first | exact HB.1 | apply bA_ | apply bB_ | apply bC_ | refine below_set ?_ GE101.out) hb); clear HO_7; clear HO_10; clear HO138; clear BK101; clear HB; have HO_7 := n0_; have HO_10 := n1_; have HO138 := n2_; have HO141 := n3_; have BK101 := n4_; have HB := n5_; clear n0_ n1_ n2_ n3_ n4_ n5_; (try clear hb); (try clear hb2); (try clear hk); (try clear hi); (try clear ho0)))
                      (try simp only [Act.put, List.setIfInBounds_toArray, List.set_cons_zero, List.set_cons_succ])
                      go_cut [97] (fun v97 wc => ∃ (kq : Nat) (x97_55 : Bool), v97 = .bool x97_55 ∧ Aside0 (laws_FnExactEraseWay.j2 kq t131 t130 x97_55 = some r) ∧ Aside0 (kq ≤ kj34) ∧ Aside0 (Kd.R (Kd.int .i64) 3 wc w.heap.size (fun _ => True) (.slice Ao57 t118.length co57) t131) ∧ Aside0 (wc.heap[gb101]? = some (.cells #[.int .i64 a0_0, .int .i64 a0_1, .int .i64 a0_2] 25 (0, 0))) ∧ Aside0 (Below w.heap.size w wc))
                      case first =>
                        have H := HC56.out
                        clear HC56
                        obtain ⟨t143, A640, H⟩ := Option.bind_eq_some_iff.mp H
                        (try dsimp only at H); have A64 := Aside0.mk A640; clear A640
                        by_cases c65 : t143 = true
                        · subst c65
                          rw [if_pos rfl] at H
                          have H' := Aside0.mk H
                          clear H
                          obtain ⟨Ao66, co66, eo66⟩ := Kd.R_slice HO141.out
                          subst eo66
                          obtain ⟨Ao67, co67, eo67⟩ := Kd.R_slice HO_7.out
                          subst eo67
                          go_wp2_with (first | ((with_reducible refine gate_callee (f := 34) rfl ?_); refine goesL_ (some 91) rfl rfl Try.func34 (by kernel_rfl) rfl #[.slice Ao66 t139.length co66, .slice Ao67 t108.length co67] rfl (by (try simp only [M3_]); first | done | rfl | (simp only [List.length_drop, List.length_take]; rfl)) ?_; (with_reducible refine (laws_eqIntS.calls kj34 _ _ t139 _ _ t108 true _ ?side1 ?side2 ?side3 ?side4 A64.out).mono ?_); (case side1 => repeat (first | exact (Kd.R_reads' HO141.out).2.2 | (with_reducible refine Kd.C_alloc ?_ _) | (with_reducible refine Kd.C_drewN ?_ _) | (with_reducible refine Kd.C_drew ?_))); (case side2 => exact (Kd.R_reads' HO141.out).2.1); (case side3 => repeat (first | exact (Kd.R_reads' HO_7.out).2.2 | (with_reducible refine Kd.C_alloc ?_ _) | (with_reducible refine Kd.C_drewN ?_ _) | (with_reducible refine Kd.C_drew ?_))); (case side4 => exact (Kd.R_reads' HO_7.out).2.1); rintro e w' ⟨rfl, ⟨nd, rfl⟩⟩; clear A64; refine ⟨_, rfl, ?_⟩))
                          go_meet
                          case rel => exact ⟨_, ((t142 != t111)), (by first | rfl | (simp; done) | (simp [*]; done)), H', ⟨by have := HJ11.out; have := HJ34.out; first | omega | exact Nat.le_refl _⟩, ⟨by (with_reducible repeat (first | apply Kd.R_alloc | apply Kd.R_drewN | apply Kd.R_drew)); exact Kd.R_mono HO_10.out (fun _ hk => trivial)⟩, ⟨by (with_reducible repeat (first | refine blk_drewN ?_ _ | refine blk_drew ?_ | refine blk_alloc ?_ _)); exact BK101.out⟩, ⟨by repeat (first | (with_reducible first | exact HB.out | apply below_alloc | apply pw_below_drewN | apply below_drew1 | refine below_set ?_ GE101.out) | exact HB.out)⟩⟩
                        · replace c65 := Bool.eq_false_iff.mpr c65
                          subst c65
                          have H1 : (laws_FnExactEraseWay.j2 kj34 t131 t130 true) = some r := by rw [if_neg (show ¬ (false = true) by decide)] at H; exact H
                          clear H
                          have H := H1
                          clear H1
                          have H' := Aside0.mk H
                          clear H
                          obtain ⟨Ao68, co68, eo68⟩ := Kd.R_slice HO141.out
                          subst eo68
                          obtain ⟨Ao69, co69, eo69⟩ := Kd.R_slice HO_7.out
                          subst eo69
                          go_wp2_with (first | ((with_reducible refine gate_callee (f := 34) rfl ?_); refine goesL_ (some 91) rfl rfl Try.func34 (by kernel_rfl) rfl #[.slice Ao68 t139.length co68, .slice Ao69 t108.length co69] rfl (by (try simp only [M3_]); first | done | rfl | (simp only [List.length_drop, List.length_take]; rfl)) ?_; (with_reducible refine (laws_eqIntS.calls kj34 _ _ t139 _ _ t108 false _ ?side1 ?side2 ?side3 ?side4 A64.out).mono ?_); (case side1 => repeat (first | exact (Kd.R_reads' HO141.out).2.2 | (with_reducible refine Kd.C_alloc ?_ _) | (with_reducible refine Kd.C_drewN ?_ _) | (with_reducible refine Kd.C_drew ?_))); (case side2 => exact (Kd.R_reads' HO141.out).2.1); (case side3 => repeat (first | exact (Kd.R_reads' HO_7.out).2.2 | (with_reducible refine Kd.C_alloc ?_ _) | (with_reducible refine Kd.C_drewN ?_ _) | (with_reducible refine Kd.C_drew ?_))); (case side4 => exact (Kd.R_reads' HO_7.out).2.1); rintro e w' ⟨rfl, ⟨nd, rfl⟩⟩; clear A64; refine ⟨_, rfl, ?_⟩))
                          go_meet
                          case rel => exact ⟨_, (true), (by first | rfl | (simp; done) | (simp [*]; done)), H', ⟨by have := HJ11.out; have := HJ34.out; first | omega | exact Nat.le_refl _⟩, ⟨by (with_reducible repeat (first | apply Kd.R_alloc | apply Kd.R_drewN | apply Kd.R_drew)); exact Kd.R_mono HO_10.out (fun _ hk => trivial)⟩, ⟨by (with_reducible repeat (first | refine blk_drewN ?_ _ | refine blk_drew ?_ | refine blk_alloc ?_ _)); exact BK101.out⟩, ⟨by repeat (first | (with_reducible first | exact HB.out | apply below_alloc | apply pw_below_drewN | apply below_drew1 | refine below_set ?_ GE101.out) | exact HB.out)⟩⟩
                      case rest =>
                        clear HC56; try clear c1; try clear c2; try clear p2; try clear c3; try clear c4; try clear c4b0; try clear c4b1; try clear c5; try clear c6; try clear c10; try clear c16; try clear c25; try clear c30; try clear c32; try clear c33; try clear c34; try clear c39; try clear c39b0; try clear c41; try clear c42; try clear c43; try clear c44; try clear c46; try clear c49; try clear c49b0; try clear c52; try clear c52b0; try clear c52b1; try clear c65; try clear hcz14_0; try clear hcz14_1; try clear hcz14_2; try clear hcz20_0; try clear hcz20_1; try clear hcz20_2; try clear hcz59_0; try clear hcz59_1; try clear hcz59_2; try clear hfz14_0; try clear hfz14_1; try clear hfz14_2; try clear hfz20_0; try clear hfz20_1; try clear hfz20_2; try clear hfz59_0; try clear hfz59_1; try clear hfz59_2; try clear p2
                        obtain ⟨kq, x97_55, rfl, HA, HJ55, HO_10, BK101, HB⟩ := hcut
                        have hl10_55 := (Kd.R_reads' HO_10.out).1
                        rw [hl10_55] at HO_10
                        (try simp only [hl10_55])
                        (try simp only [hl10_55] at BK101)
                        cases kq with
                        | zero => exact absurd HA.out (by simp [laws_FnExactEraseWay.j2])
                        | succ kj55 =>
                          have H := HA.out
                          clear HA
                          simp only [laws_FnExactEraseWay.j2] at H
                          by_cases c70 : x97_55 = true
                          · subst c70
                            rw [if_pos rfl] at H
                            obtain rfl := Option.some.inj H
                            go_wp2
                            go_ret
                            exact ⟨by first | rfl | (simp [errW_none, errW_some] <;> rfl) | (simp [*, errW_none, errW_some] <;> rfl), by repeat (first | (with_reducible first | exact HB.out | apply below_alloc | apply pw_below_drewN | apply below_drew1 | refine below_set ?_ GE101.out) | exact HB.out)⟩
                          · replace c70 := Bool.eq_false_iff.mpr c70
                            subst c70
                            have H1 : ((laws_heldIntS.f kj55 t131 1).bind fun t144 => (if t144 < 0 then (some false) else (if t144 = t130 then (some true) else (some false)))) = some r := by rw [if_neg (show ¬ (false = true) by decide)] at H; exact H
                            clear H
                            have H := H1
                            clear H1
                            obtain ⟨t144, A710, H⟩ := Option.bind_eq_some_iff.mp H
                            (try dsimp only at H); have A71 := Aside0.mk A710; clear A710
                            by_cases c72 : t144 < 0
                            · rw [if_pos c72] at H
                              have c72b0 : decide (t144 < 0) = true := decide_eq_true c72
                              clear c72
                              obtain rfl := Option.some.inj H
                              go_wp2_with (first | ((with_reducible refine gate_callee (f := 44) rfl ?_); refine goesL_ (some 100) rfl rfl Try.func44 (by kernel_rfl) rfl #[.slice Ao57 t131.length co57, .int .i64 1] rfl (by (try simp only [M3_]); first | done | rfl | (simp only [List.length_drop, List.length_take]; rfl)) ?_; (with_reducible refine (laws_heldIntS.calls kj55 _ _ t131 1 t144 _ ?side1 ?side2 A71.out).mono ?_); (case side1 => repeat (first | exact (Kd.R_reads' HO_10.out).2.2 | (with_reducible refine Kd.C_alloc ?_ _) | (with_reducible refine Kd.C_drewN ?_ _) | (with_reducible refine Kd.C_drew ?_))); (case side2 => exact (Kd.R_reads' HO_10.out).2.1); rintro e w' ⟨rfl, ⟨nd, rfl⟩⟩; clear A71; refine ⟨_, rfl, ?_⟩))
                              go_ret
                              exact ⟨by first | rfl | (simp [errW_none, errW_some] <;> rfl) | (simp [*, errW_none, errW_some] <;> rfl), by repeat (first | (with_reducible first | exact HB.out | apply below_alloc | apply pw_below_drewN | apply below_drew1 | refine below_set ?_ GE101.out) | exact HB.out)⟩
                            · rw [if_neg c72] at H
                              have c72b0 : decide (t144 < 0) = false := decide_eq_false c72
                              clear c72
                              by_cases c73 : t144 = t130
                              · rw [if_pos c73] at H
                                have c73b0 : (t144 == t130) = true := beq_iff_eq.mpr c73
                                have c73b1 : (t144 != t130) = false := bne_eq_false_iff_eq.mpr c73
                                clear c73
                                obtain rfl := Option.some.inj H
                                go_wp2_with (first | ((with_reducible refine gate_callee (f := 44) rfl ?_); refine goesL_ (some 100) rfl rfl Try.func44 (by kernel_rfl) rfl #[.slice Ao57 t131.length co57, .int .i64 1] rfl (by (try simp only [M3_]); first | done | rfl | (simp only [List.length_drop, List.length_take]; rfl)) ?_; (with_reducible refine (laws_heldIntS.calls kj55 _ _ t131 1 t144 _ ?side1 ?side2 A71.out).mono ?_); (case side1 => repeat (first | exact (Kd.R_reads' HO_10.out).2.2 | (with_reducible refine Kd.C_alloc ?_ _) | (with_reducible refine Kd.C_drewN ?_ _) | (with_reducible refine Kd.C_drew ?_))); (case side2 => exact (Kd.R_reads' HO_10.out).2.1); rintro e w' ⟨rfl, ⟨nd, rfl⟩⟩; clear A71; refine ⟨_, rfl, ?_⟩))
                                go_ret
                                exact ⟨by first | rfl | (simp [errW_none, errW_some] <;> rfl) | (simp [*, errW_none, errW_some] <;> rfl), by repeat (first | (with_reducible first | exact HB.out | apply below_alloc | apply pw_below_drewN | apply below_drew1 | refine below_set ?_ GE101.out) | exact HB.out)⟩
                              · rw [if_neg c73] at H
                                have c73b0 : (t144 == t130) = false := beq_eq_false_iff_ne.mpr c73
                                have c73b1 : (t144 != t130) = true := bne_iff_ne.mpr c73
                                obtain rfl := Option.some.inj H
                                go_wp2_with (first | ((with_reducible refine gate_callee (f := 44) rfl ?_); refine goesL_ (some 100) rfl rfl Try.func44 (by kernel_rfl) rfl #[.slice Ao57 t131.length co57, .int .i64 1] rfl (by (try simp only [M3_]); first | done | rfl | (simp only [List.length_drop, List.length_take]; rfl)) ?_; (with_reducible refine (laws_heldIntS.calls kj55 _ _ t131 1 t144 _ ?side1 ?side2 A71.out).mono ?_); (case side1 => repeat (first | exact (Kd.R_reads' HO_10.out).2.2 | (with_reducible refine Kd.C_alloc ?_ _) | (with_reducible refine Kd.C_drewN ?_ _) | (with_reducible refine Kd.C_drew ?_))); (case side2 => exact (Kd.R_reads' HO_10.out).2.1); rintro e w' ⟨rfl, ⟨nd, rfl⟩⟩; clear A71; refine ⟨_, rfl, ?_⟩))
                                go_ret
                                exact ⟨by first | rfl | (simp [errW_none, errW_some] <;> rfl) | (simp [*, errW_none, errW_some] <;> rfl), by repeat (first | (with_reducible first | exact HB.out | apply below_alloc | apply pw_below_drewN | apply below_drew1 | refine below_set ?_ GE101.out) | exact HB.out)⟩
                    · rw [if_neg c52] at H
                      have c52b0 : (t132 == t130) = false := beq_eq_false_iff_ne.mpr c52
                      have c52b1 : (t132 != t130) = true := bne_iff_ne.mpr c52
                      obtain rfl := Option.some.inj H
                      obtain ⟨Ao74, co74, eo74⟩ := Kd.R_slice HO_10.out
                      subst eo74
                      go_wp2_with (first | ((with_reducible refine gate_callee (f := 43) rfl ?_); refine goesL_ (some 71) rfl rfl Try.func43 (by kernel_rfl) rfl #[.slice Ao74 t118.length co74, .int .i64 1] rfl (by (try simp only [M3_]); first | done | rfl | (simp only [List.length_drop, List.length_take]; rfl)) ?_; (with_reducible refine (laws_markIntS.calls kj34 (fun k_ => some k_ = (.slice Ao74 t118.length co74 : Value).ownBlock) (.slice Ao74 t118.length co74) t118 1 t130 t131 w _ ?side1 ?side2 A47.out).mono ?_); (case side1 => repeat (first | (with_reducible first | exact HB.out | apply below_alloc | apply pw_below_drewN | apply below_drew1 | refine below_set ?_ GE101.out) | exact HB.out)); (case side2 => exact Kd.R_tight rfl HO_10.out); rintro e w75 ⟨rfl, hy0, hb, hkp⟩; clear A47; refine ⟨_, rfl, ?_⟩; have n0_ := Aside0.mk (Kd.R_mono (ok' := fun k_ => some k_ ≠ (.slice Ao74 t118.length co74 : Value).ownBlock) (Kd.R_keptB (HO_7.out) hkp (fun k_ hk_ hs_ => (hk_) hs_)) (fun k_ hk_ => hk_.1)); have n1_ := Aside0.mk (Kd.R_reok rfl hy0 (fun k_ e_ => HO_10.out.1 k_ e_)); have n2_ := Aside0.mk (blk_kept (by (with_reducible repeat first | refine cA_ ?_ _ | refine cB_ ?_ | refine cC_ ?_ _); exact BK101.1) hkp (fun hs_ => (fun e_ => (Kd.R_ne HO_10.out BK101.out (by decide)) e_) hs_)); have n3_ := Aside0.mk (hb); clear HO_7; clear HO_10; clear BK101; clear HB; have HO_7 := n0_; have HO_10 := n1_; have BK101 := n2_; have HB := n3_; clear n0_ n1_ n2_ n3_; (try clear hb); (try clear hkp); (try clear hy0)) | ((with_reducible refine gate_callee (f := 44) rfl ?_); refine goesL_ (some 74) rfl rfl Try.func44 (by kernel_rfl) rfl #[.slice Ao74 t131.length co74, .int .i64 1] rfl (by (try simp only [List.map_toArray, List.map_cons, List.map_nil]); first | done | (rw [show t131.length = t118.length from (Kd.R_reads' HO_10.out).1.symm] <;> rfl) | rfl | (simp only [List.length_drop, List.length_take]; rfl)) ?_; (with_reducible refine (laws_heldIntS.calls kj34 _ _ t131 1 t132 _ ?side1 ?side2 A48.out).mono ?_); (case side1 => repeat (first | exact (Kd.R_reads' HO_10.out).2.2 | (with_reducible refine Kd.C_alloc ?_ _) | (with_reducible refine Kd.C_drewN ?_ _) | (with_reducible refine Kd.C_drew ?_))); (case side2 => rw [show t131.length = t118.length from (Kd.R_reads' HO_10.out).1.symm]; exact (Kd.R_reads' HO_10.out).2.1); rintro e w' ⟨rfl, ⟨nd, rfl⟩⟩; clear A48; refine ⟨_, rfl, ?_⟩))
                      go_ret
                      exact ⟨by first | rfl | (simp [errW_none, errW_some] <;> rfl) | (simp [*, errW_none, errW_some] <;> rfl), by repeat (first | (with_reducible first | exact HB.out | apply below_alloc | apply pw_below_drewN | apply below_drew1 | refine below_set ?_ GE101.out) | exact HB.out)⟩
          · replace c33 := Bool.eq_false_iff.mpr c33
            subst c33
            have H1 : (some false) = some r := by rw [if_neg (show ¬ (false = true) by decide)] at H; exact H
            clear H
            have H := H1
            clear H1
            obtain rfl := Option.some.inj H
            go_wp2_with (first | ((with_reducible refine gate_callee (f := 32) rfl ?_); refine goesL_ (some 50) rfl rfl Try.func32 (by kernel_rfl) rfl #[.slice A2 l2.length c2] rfl (by (try simp only [M3_]); first | done | rfl | (simp only [List.length_drop, List.length_take]; rfl)) ?_; (with_reducible refine (laws_toIntS.calls kj11 _ _ l2 t123 _ ?side1 ?side2 A31.out).mono ?_); (case side1 => repeat (first | exact (Kd.C_below HR2.out HB.out) | (with_reducible refine Kd.C_alloc ?_ _) | (with_reducible refine Kd.C_drewN ?_ _) | (with_reducible refine Kd.C_drew ?_))); (case side2 => exact HC2.out); rintro e w76 ⟨v124, rfl, ho0, hb⟩; clear A31; refine ⟨_, rfl, ?_⟩; have n0_ := Aside0.mk (Kd.R_elder' (by (with_reducible repeat (first | apply Kd.R_alloc | apply Kd.R_drewN | apply Kd.R_drew)); exact HO_7.out) (Kd.R_base ho0) hb); have n1_ := Aside0.mk (Kd.R_elder' (by (with_reducible repeat (first | apply Kd.R_alloc | apply Kd.R_drewN | apply Kd.R_drew)); exact HO_9.out) (Kd.R_base ho0) hb); have n2_ := Aside0.mk (Kd.R_elder' (by (with_reducible repeat (first | apply Kd.R_alloc | apply Kd.R_drewN | apply Kd.R_drew)); exact HO_10.out) (Kd.R_base ho0) hb); have n3_ := Aside0.mk (Kd.R_lower (Kd.R_new' (Kd.R_new' (Kd.R_new' ho0 (Kd.R_lt (by (with_reducible repeat (first | apply Kd.R_alloc | apply Kd.R_drewN | apply Kd.R_drew)); exact HO_7.out))) (Kd.R_lt (by (with_reducible repeat (first | apply Kd.R_alloc | apply Kd.R_drewN | apply Kd.R_drew)); exact HO_9.out))) (Kd.R_lt (by (with_reducible repeat (first | apply Kd.R_alloc | apply Kd.R_drewN | apply Kd.R_drew)); exact HO_10.out))) (below_size (by repeat first | exact HB.1 | apply bA_ | apply bB_ | apply bC_ | refine below_set ?_ GE101.out))); have n4_ := Aside0.mk (blk_below (g := gb101) (o := .cells #[.int .i64 a0_0, .int .i64 a0_1, .int .i64 a0_2] 25 (0, 0)) (by (with_reducible repeat first | refine cA_ ?_ _ | refine cB_ ?_ | refine cC_ ?_ _); exact BK101.1) hb); have n5_ := Aside0.mk (below_step (by repeat first | exact HB.1 | apply bA_ | apply bB_ | apply bC_ | refine below_set ?_ GE101.out) hb); clear HO_7; clear HO_9; clear HO_10; clear BK101; clear HB; have HO_7 := n0_; have HO_9 := n1_; have HO_10 := n2_; have HO125 := n3_; have BK101 := n4_; have HB := n5_; clear n0_ n1_ n2_ n3_ n4_ n5_; (try clear hb); (try clear hb2); (try clear hk); (try clear hi); (try clear ho0); obtain ⟨Ao77, co77, eo77⟩ := Kd.R_slice HO125.out; subst eo77) | ((with_reducible refine gate_callee (f := 34) rfl ?_); refine goesL_ (some 51) rfl rfl Try.func34 (by kernel_rfl) rfl #[.slice Ao22 t112.length co22, .slice Ao77 t123.length co77] rfl (by (try simp only [M3_]); first | done | rfl | (simp only [List.length_drop, List.length_take]; rfl)) ?_; (with_reducible refine (laws_eqIntS.calls kj11 _ _ t112 _ _ t123 false _ ?side1 ?side2 ?side3 ?side4 A32.out).mono ?_); (case side1 => repeat (first | exact (Kd.R_reads' HO_9.out).2.2 | (with_reducible refine Kd.C_alloc ?_ _) | (with_reducible refine Kd.C_drewN ?_ _) | (with_reducible refine Kd.C_drew ?_))); (case side2 => exact (Kd.R_reads' HO_9.out).2.1); (case side3 => repeat (first | exact (Kd.R_reads' HO125.out).2.2 | (with_reducible refine Kd.C_alloc ?_ _) | (with_reducible refine Kd.C_drewN ?_ _) | (with_reducible refine Kd.C_drew ?_))); (case side4 => exact (Kd.R_reads' HO125.out).2.1); rintro e w' ⟨rfl, ⟨nd, rfl⟩⟩; clear A32; refine ⟨_, rfl, ?_⟩))
            go_ret
            exact ⟨by first | rfl | (simp [errW_none, errW_some] <;> rfl) | (simp [*, errW_none, errW_some] <;> rfl), by repeat (first | (with_reducible first | exact HB.out | apply below_alloc | apply pw_below_drewN | apply below_drew1 | refine below_set ?_ GE101.out) | exact HB.out)⟩

end Go.Proofs.Ytejaglljnjdabaa.P
namespace Go.Proofs.Ytejaglljnjdabaa.P
open Go.RowKit Go.Proofs.YtejaglljnjdabaaW.PrintWords
set_option linter.unusedVariables false
set_option linter.unusedSimpArgs false
section
variable {α β : Type}
theorem Ev.tt {c : Prop} [Decidable c] {g f : Nat → Option α} {r : α} (h : c) (e : Ev g r) : Ev (fun k => if c then g k else f k) r := by simpa only [if_pos h] using e
theorem Ev.ff {c : Prop} [Decidable c] {g f : Nat → Option α} {r : α} (h : ¬ c) (e : Ev f r) : Ev (fun k => if c then g k else f k) r := by simpa only [if_neg h] using e
theorem Ev.ite {c : Prop} [Decidable c] {g f : Nat → Option α} {r : α} (e1 : c → Ev g r) (e2 : ¬ c → Ev f r) : Ev (fun k => if c then g k else f k) r := by
  by_cases h : c
  · exact Ev.tt h (e1 h)
  · exact Ev.ff h (e2 h)
theorem Ev.bnd0 {o : Option α} {f : Nat → α → Option β} {a : α} {r : β} (h : o = some a) (k : Ev (fun n => f n a) r) : Ev (fun n => o.bind (f n)) r := by subst h; exact k
theorem Ev.ret {a r : α} (h : a = r) : Ev (fun _ => some a) r := ⟨0, fun _ _ => by rw [h]⟩
theorem Ev.eq {g : Nat → Option α} {r r' : α} (h : Ev g r) (e : r = r') : Ev g r' := e ▸ h
end
theorem wrap64_id {x : Int} (h0 : -9223372036854775808 ≤ x) (h1 : x ≤ 9223372036854775807) : wrap64 x = x := by unfold wrap64; omega
theorem wsucc {i : Nat} (h : i < 4611686018427387904) : wrap64 ((i : Int) + 1) = ((i + 1 : Nat) : Int) := by unfold wrap64; omega
theorem rd_nat (l : List Int) (i : Nat) : rd l (i : Int) = l.getD i 0 := rfl
theorem rd_get {l : List Int} {i : Nat} (h : i < l.length) : rd l (i : Int) = l[i] := by simp [rd_nat, List.getD_eq_getElem?_getD, List.getElem?_eq_getElem h]
end Go.Proofs.Ytejaglljnjdabaa.P
namespace Go.Proofs.Ytejaglljnjdabaa.P
open Go Go.RowKit Go.Proofs.YtejaglljnjdabaaW.PrintWords
set_option linter.unusedVariables false
set_option linter.unusedSimpArgs false

theorem bits_and {a b : Nat} (ha : a < 4611686018427387904) (hb : b < 4611686018427387904) : Go.bits .and .i64 a b = ((a &&& b : Nat) : Int) :=
  (bits_nat .i64 62 (by decide) (fun n h0 h1 => by rw [IntKind.wrap_i64]; omega) a b (by simpa using ha) (by simpa using hb)).1
theorem shr_nat {m : Nat} (hm : m < 4611686018427387904) (k : Nat) : shr .i64 (m : Int) (k : Int) = ((m / 2 ^ k : Nat) : Int) := by
  unfold shr
  by_cases h : k ≤ 64
  · rw [show min (k : Int).toNat IntKind.i64.bits = k by simp [IntKind.bits]; omega]
    simp
  · rw [show min (k : Int).toNat IntKind.i64.bits = 64 by simp [IntKind.bits]; omega]
    have h1 : m / 2 ^ k = 0 := Nat.div_eq_of_lt (Nat.lt_of_lt_of_le (by simpa using hm : m < 2 ^ 62) (Nat.pow_le_pow_right (by decide) (by omega)))
    rw [h1]
    have : (m : Int) / 2 ^ 64 = ((m / 2 ^ 64 : Nat) : Int) := by simp
    rw [this, Nat.div_eq_of_lt (by omega)]
/-- The test of a bit, as the program and the reference make it. -/
theorem bit_test {m : Nat} (hm : m < 4611686018427387904) (k : Nat) (c : Int) : (Go.bits .and .i64 (shr .i64 (m : Int) (k : Int)) 1 == c) = (((m.testBit k).toNat : Int) == c) := by
  rw [shr_nat hm, show (1 : Int) = ((1 : Nat) : Int) from rfl, bits_and (Nat.lt_of_le_of_lt (Nat.div_le_self _ _) hm) (by decide)]
  congr 2
  rw [Nat.testBit_eq_decide_div_mod_eq, Nat.and_one_is_mod]
  have := Nat.mod_two_eq_zero_or_one (m / 2 ^ k)
  rcases this with h | h <;> simp [h]
theorem bit_one {m : Nat} (hm : m < 4611686018427387904) (k : Nat) : (Go.bits .and .i64 (shr .i64 (m : Int) (k : Int)) 1 == 1) = m.testBit k := by
  rw [bit_test hm]
  cases m.testBit k <;> rfl
end Go.Proofs.Ytejaglljnjdabaa.P
namespace Go.Proofs.Ytejaglljnjdabaa.P
open Go.RowKit Go.Proofs.YtejaglljnjdabaaW.PrintWords
set_option linter.unusedVariables false
set_option linter.unusedSimpArgs false

/-- A valid grid. -/
def gridOk (w h : Int) : Bool := decide (1 ≤ w ∧ w ≤ 4 ∧ 1 ≤ h ∧ h ≤ 4)
theorem gridOk_iff {w h : Int} : gridOk w h = true ↔ 1 ≤ w ∧ w ≤ 4 ∧ 1 ≤ h ∧ h ≤ 4 := by simp [gridOk]
/-- The sixteen grids. -/
theorem grid_cases {w h : Int} (hg : gridOk w h = true) : (w = 1 ∨ w = 2 ∨ w = 3 ∨ w = 4) ∧ (h = 1 ∨ h = 2 ∨ h = 3 ∨ h = 4) := by
  rw [gridOk_iff] at hg
  omega
def cellsOf (w h : Int) : Int := if gridOk w h then w * h else 0
def eastOf (w h : Int) : Int := (w - 1) * h
def gapsOf (w h : Int) : Int := if gridOk w h then (w - 1) * h + w * (h - 1) else 0
theorem cellsOf_range (w h : Int) : 0 ≤ cellsOf w h ∧ cellsOf w h ≤ 16 := by
  unfold cellsOf
  split
  · rename_i hg
    obtain ⟨h1 | h1 | h1 | h1, h2 | h2 | h2 | h2⟩ := grid_cases hg <;> subst h1 <;> subst h2 <;> decide
  · omega
theorem gapsOf_range (w h : Int) : 0 ≤ gapsOf w h ∧ gapsOf w h ≤ 24 := by
  unfold gapsOf
  split
  · rename_i hg
    obtain ⟨h1 | h1 | h1 | h1, h2 | h2 | h2 | h2⟩ := grid_cases hg <;> subst h1 <;> subst h2 <;> decide
  · omega
theorem pow_le {n : Int} (h0 : 0 ≤ n) (h1 : n ≤ 24) : (1 : Int) ≤ 2 ^ n.toNat ∧ (2 : Int) ^ n.toNat ≤ 16777216 := by
  obtain ⟨m, rfl⟩ := Int.eq_ofNat_of_zero_le h0
  have : m ≤ 24 := by omega
  clear h0 h1
  revert m
  decide +kernel
def isCellI (w h c : Int) : Bool := decide (0 ≤ c ∧ c < cellsOf w h)
/-- The neighbor of a cell in a direction. -/
def nbI (w h c d : Int) : Int :=
  if 0 ≤ c ∧ c < cellsOf w h then
    (if d = 0 ∧ 0 < c / w then c - w else if d = 1 ∧ c % w < w - 1 then c + 1 else if d = 2 ∧ c / w < h - 1 then c + w else if d = 3 ∧ 0 < c % w then c - 1 else -1)
  else -1
theorem cellsOf_valid {w h c : Int} (h1 : 0 ≤ c) (h2 : c < cellsOf w h) : gridOk w h = true ∧ cellsOf w h = w * h := by
  unfold cellsOf at *
  by_cases hg : gridOk w h = true
  · exact ⟨hg, if_pos hg⟩
  · rw [if_neg hg] at h2; omega
/-- The number of gaps, as a natural number. -/
def gapsN (w h : Int) : Nat := (gapsOf w h).toNat
theorem gapsN_le (w h : Int) : gapsN w h ≤ 24 := by have := gapsOf_range w h; unfold gapsN; omega
theorem gapsN_cast (w h : Int) : ((gapsN w h : Nat) : Int) = gapsOf w h := by have := gapsOf_range w h; unfold gapsN; omega
/-- A valid maze. -/
def mazeOk (w h o : Int) : Bool := gridOk w h && decide (0 ≤ o ∧ o < 2 ^ gapsN w h)
theorem mazeOk_iff {w h o : Int} : mazeOk w h o = true ↔ gridOk w h = true ∧ ∃ n : Nat, o = (n : Int) ∧ n < 2 ^ gapsN w h := by
  unfold mazeOk
  simp only [Bool.and_eq_true, decide_eq_true_eq]
  constructor
  · rintro ⟨h1, h2, h3⟩
    obtain ⟨n, rfl⟩ := Int.eq_ofNat_of_zero_le h2
    exact ⟨h1, n, rfl, by exact_mod_cast h3⟩
  · rintro ⟨h1, n, rfl, h3⟩
    exact ⟨h1, by omega, by exact_mod_cast h3⟩
theorem open_small {w h : Int} {n : Nat} (hn : n < 2 ^ gapsN w h) : n < 16777216 := Nat.lt_of_lt_of_le hn (Nat.pow_le_pow_right (by decide) (gapsN_le w h))
/-- Is a gap open? -/
def openI (n : Nat) (g : Int) : Bool := decide (0 ≤ g) && n.testBit g.toNat
def isGapI (w h g : Int) : Bool := decide (0 ≤ g ∧ g < gapsOf w h)
theorem open_isGap {w h g : Int} {n : Nat} (hn : n < 2 ^ gapsN w h) (ho : openI n g = true) : isGapI w h g = true := by
  unfold openI isGapI at *
  simp only [Bool.and_eq_true, decide_eq_true_eq] at *
  have : g.toNat < gapsN w h := by
    rcases Nat.lt_or_ge g.toNat (gapsN w h) with h1 | h1
    · exact h1
    · rw [Nat.testBit_lt_two_pow (Nat.lt_of_lt_of_le hn (Nat.pow_le_pow_right (by decide) h1))] at ho
      exact absurd ho.2 (by decide)
  have := gapsN_cast w h
  omega
/-- The gap between a cell and its neighbor. -/
def gapI (w h c d : Int) : Int :=
  if nbI w h c d < 0 then -1 else if d = 1 ∨ d = 3 then (min c (nbI w h c d)) / w * (w - 1) + (min c (nbI w h c d)) % w else (w - 1) * h + min c (nbI w h c d)
/-- The ends of a gap. -/
def endsI (w h g : Int) : Int × Int :=
  if 0 ≤ g ∧ g < gapsOf w h then (if g < (w - 1) * h then (g / (w - 1) * w + g % (w - 1), g / (w - 1) * w + g % (w - 1) + 1) else (g - (w - 1) * h, g - (w - 1) * h + w)) else (-1, -1)
theorem nb_dir {w h c d : Int} (hn : 0 ≤ nbI w h c d) : (d = 0 ∨ d = 1 ∨ d = 2 ∨ d = 3) ∧ 0 ≤ c ∧ c < cellsOf w h := by
  unfold nbI at hn
  by_cases hc : 0 ≤ c ∧ c < cellsOf w h
  · rw [if_pos hc] at hn
    refine ⟨?_, hc⟩
    repeat' split at hn
    all_goals omega
  · rw [if_neg hc] at hn
    omega
theorem grid_nat {w h : Int} (hg : gridOk w h = true) : ∃ W H : Nat, w = W ∧ h = H ∧ 1 ≤ W ∧ W < 5 ∧ 1 ≤ H ∧ H < 5 := by
  have := gridOk_iff.1 hg
  exact ⟨w.toNat, h.toNat, by omega, by omega, by omega, by omega, by omega, by omega⟩
/-- What is to be known of a step: the other cell, the gap, and the way back. -/
def StepFacts (w h c d : Int) : Prop :=
  nbI w h c d = -1 ∧ gapI w h c d = -1 ∨
  (0 ≤ nbI w h c d ∧ nbI w h c d < cellsOf w h ∧ nbI w h c d ≠ c ∧ 0 ≤ gapI w h c d ∧ gapI w h c d < gapsOf w h ∧
    endsI w h (gapI w h c d) = (min c (nbI w h c d), max c (nbI w h c d)) ∧ nbI w h (nbI w h c d) ((d + 2) % 4) = c ∧ gapI w h (nbI w h c d) ((d + 2) % 4) = gapI w h c d)
instance (w h c d : Int) : Decidable (StepFacts w h c d) := by unfold StepFacts; infer_instance
theorem step_facts_all : ∀ W : Nat, W < 5 → ∀ H : Nat, H < 5 → ∀ c : Nat, c < 16 → ∀ d : Nat, d < 4 → StepFacts W H c d := by decide +kernel
theorem step_facts (w h c d : Int) : StepFacts w h c d := by
  by_cases hn : 0 ≤ nbI w h c d
  · obtain ⟨hd, h0, h1⟩ := nb_dir hn
    obtain ⟨hg, hcw⟩ := cellsOf_valid h0 h1
    obtain ⟨W, H, rfl, rfl, hW1, hW2, hH1, hH2⟩ := grid_nat hg
    have hcr := cellsOf_range (W : Int) (H : Int)
    have := step_facts_all W hW2 H hH2 c.toNat (by omega) d.toNat (by omega)
    rwa [show ((c.toNat : Nat) : Int) = c by omega, show ((d.toNat : Nat) : Int) = d by omega] at this
  · have hm : nbI w h c d = -1 := by
      unfold nbI at *
      by_cases hc : 0 ≤ c ∧ c < cellsOf w h
      · rw [if_pos hc] at *
        obtain ⟨hg, hcw⟩ := cellsOf_valid hc.1 hc.2
        have hgr := gridOk_iff.1 hg
        have hyw : c / w * w + c % w = c := by rw [Int.mul_comm]; exact Int.mul_ediv_add_emod c w
        have hx0 : 0 ≤ c % w := Int.emod_nonneg _ (by omega)
        repeat' split
        · rename_i hh
          rw [if_pos hh] at hn
          have : w ≤ c := by
            have : w * 1 ≤ w * (c / w) := Int.mul_le_mul_of_nonneg_left (by omega) (by omega)
            rw [Int.mul_comm (c / w)] at hyw
            omega
          omega
        · rename_i h1 hh
          rw [if_neg h1, if_pos hh] at hn
          omega
        · rename_i h1 h2 hh
          rw [if_neg h1, if_neg h2, if_pos hh] at hn
          omega
        · rename_i h1 h2 h3 hh
          rw [if_neg h1, if_neg h2, if_neg h3, if_pos hh] at hn
          have : 1 ≤ c := by
            have : 0 ≤ c / w * w := Int.mul_nonneg (Int.ediv_nonneg hc.1 (by omega)) (by omega)
            omega
          omega
        · rfl
      · rw [if_neg hc]
    refine .inl ⟨hm, ?_⟩
    unfold gapI
    rw [if_pos (by omega)]
def EndFacts (w h g : Int) : Prop :=
  0 ≤ g ∧ g < gapsOf w h → 0 ≤ (endsI w h g).1 ∧ (endsI w h g).1 < (endsI w h g).2 ∧ (endsI w h g).2 < cellsOf w h ∧
    (nbI w h (endsI w h g).1 1 = (endsI w h g).2 ∧ gapI w h (endsI w h g).1 1 = g ∨ nbI w h (endsI w h g).1 2 = (endsI w h g).2 ∧ gapI w h (endsI w h g).1 2 = g)
instance (w h g : Int) : Decidable (EndFacts w h g) := by unfold EndFacts; infer_instance
theorem nb_lt {w h c d : Int} : nbI w h c d = -1 ∨ 0 ≤ nbI w h c d ∧ nbI w h c d < cellsOf w h := by
  rcases step_facts w h c d with h1 | h1
  · exact .inl h1.1
  · exact .inr ⟨h1.1, h1.2.1⟩
/-- The cell behind an open gap, or -1. -/
def stepI (w h : Int) (n : Nat) (c d : Int) : Int := if openI n (gapI w h c d) then nbI w h c d else -1
/-- The direction from a to b. -/
def dirOf (w h a b : Int) : Nat := if nbI w h a 0 = b then 0 else if nbI w h a 1 = b then 1 else if nbI w h a 2 = b then 2 else 3
def fitsB (w h a b : Int) : Bool :=
  decide (0 ≤ a) && decide (0 ≤ b) && decide (nbI w h a (dirOf w h a b) = b) && (List.range 4).all (fun d => decide (nbI w h a d = b → d = dirOf w h a b)) && decide (0 ≤ gapI w h a (dirOf w h a b)) && decide (gapI w h a (dirOf w h a b) < gapsOf w h)
theorem dirOf_lt (w h a b : Int) : dirOf w h a b < 4 := by 
  unfold dirOf
  split
  · omega
  · split
    · omega
    · split <;> omega
theorem fits_iff {w h a b : Int} (hf : fitsB w h a b = true) : 0 ≤ a ∧ 0 ≤ b ∧ nbI w h a (dirOf w h a b) = b ∧ (∀ d : Nat, d < 4 → nbI w h a d = b → d = dirOf w h a b) ∧ 0 ≤ gapI w h a (dirOf w h a b) ∧ gapI w h a (dirOf w h a b) < gapsOf w h := by
  unfold fitsB at hf
  simp only [Bool.and_eq_true, List.all_eq_true, List.mem_range, decide_eq_true_eq] at hf
  exact ⟨hf.1.1.1.1.1, hf.1.1.1.1.2, hf.1.1.1.2, hf.1.1.2, hf.1.2, hf.2⟩
end Go.Proofs.Ytejaglljnjdabaa.P
namespace Go.Proofs.YtejaglljnjdabaaW.PrintWords
open Go.ChangeShapes Go.WideShapes
/-- A row's slice of whole numbers is no longer than its weight allows. -/
theorem sized_ints {H : Type} {enc : TypeId × Value → H} {P : Program} {W : World} {base : Nat} {spare : Nat → Bool} {held : Bool} {t e : TypeId} {k : IntKind} {a : Option Addr} {len cap : Nat} {d : DataW H} {ps : List MemPlace} {ts : List TypeId} {ds : List (DataW H)} {j : Nat}
    (hsz : (DataW.weightsEach P ts ds).all (· ≤ reachBytes) = true) (ht : ts[j]? = some t) (hd : ds[j]? = some d) (hu : P.underlying t = some (.slice e)) (he : P.underlying e = some (.int k)) (hc : P.cellsOf e = 1) {B : Nat} (hB : P.bytesOf e = B)
    (h : DataW.Trod enc P W base spare held t (.slice a len cap) d ps) : len * B ≤ 140737488351232 := by
  obtain ⟨fuel, hf⟩ := h
  rcases open_ints hu he hc hf with ⟨hcs, _⟩ | ⟨x, l, c, zs, hcs, _, hl, _, hz, hx, _, _⟩
  · simp [Value.cells] at hcs
    obtain ⟨rfl, rfl, rfl⟩ := hcs
    simp
  · simp [Value.cells] at hcs
    obtain ⟨rfl, rfl, rfl⟩ := hcs
    obtain ⟨hx, _⟩ := Prod.mk.inj hx
    subst hx
    have z := sized_slice hsz ht hd hu
    rw [hB] at z
    have hl2 : len ≤ zs.length := by
      rw [hz]
      split
      · exact hl
      · exact Nat.le_refl _
    have h1 : (lits (H := H) k (zs.take len)).length + (lits (H := H) k (zs.drop len)).length = zs.length := by
      simp [lits]
      omega
    rw [h1] at z
    exact Nat.le_trans (Nat.mul_le_mul_right _ hl2) z
end Go.Proofs.YtejaglljnjdabaaW.PrintWords
