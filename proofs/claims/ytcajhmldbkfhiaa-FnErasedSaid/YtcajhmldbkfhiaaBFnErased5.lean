/- The statement FnErased of the seat, out of its plain form (FnErased_pure) and the walk of its Go function. Part 5 of 6: each Go function's walk, then the plain lemmas, then the row. No condition: it holds for every input. -/
import Derived.Test.YtcajhmldbkfhiaaBFnErased4
import Derived.ChangeSlices
import Derived.SizedLaws
namespace Go.Proofs.Ytcajhmldbkfhiaa.P
open Go.RowKit Go.Proofs.YtcajhmldbkfhiaaW.PrintWords Go.Proofs.YtcajhmldbkfhiaaW.PrintLast Go.Proofs.YtcajhmldbkfhiaaW.PrintMore
attribute [local go_sem] max2_int min2_int max_two min_two max_three min_three max_four min_four   -- for this text's walks alone
set_option linter.unusedVariables false
set_option linter.unusedSimpArgs false

/-! ### laws_FnErased: function 8 -/
def laws_FnErased.j0 : Nat → Int → List Int → List Int → List Int → Bool → Int → Int → Int → Option (Bool)
  | 0, _, _, _, _, _, _, _, _ => none
  | k + 1, x4, x6, x7, x8, x88, x110000, x110001, x110002 => if x88 = true then (some false) else ((impl_WalkWay.f k x110000 x110001 x110002 x4 x8).bind fun bt126 => (if 0 ≤ (wrap64 ((x6.length : Int) - 1)) then (if (wrap64 ((x6.length : Int) - 1)) < (x6.length : Int) then ((spec_WayBetween.f k x110000 x110001 x110002 x4 (rd x6 (wrap64 ((x6.length : Int) - 1)))).bind fun bt129 => (if bt126.2 = true then (if bt126.1 = (rd x6 (wrap64 ((x6.length : Int) - 1))) then ((spec_IsPerfect.f k x110000 x110001 x110002).bind fun t134 => (if t134 = true then ((laws_sameInts.f k x8 bt129.1).bind fun t135 => (if t135 = true then ((impl_EraseLoops.f k x7).bind fun t136 => ((laws_sameInts.f k t136 x7).bind fun t139 => (some t139))) else (none))) else ((impl_EraseLoops.f k x7).bind fun t140 => ((laws_sameInts.f k t140 x7).bind fun t143 => (some t143))))) else (some false)) else (none))) else (none)) else (none)))
def laws_FnErased.f (k : Nat) (l0 : List Int) : Option (Bool) := (laws_big.f l0).bind fun t101 => (if t101 = true then (some true) else ((spec_DrawWalk.f k l0).bind fun bt102 => ((spec_CellsOn.f k bt102.1 bt102.2.1 bt102.2.2.1 bt102.2.2.2.1 bt102.2.2.2.2).bind fun t110 => ((impl_EraseLoops.f k t110).bind fun t113 => ((impl_EraseWay.f k bt102.1 bt102.2.1 bt102.2.2.1 bt102.2.2.2.1 bt102.2.2.2.2).bind fun bt116 => (if (t113.length : Int) = 0 then (laws_FnErased.j0 k bt102.2.2.2.1 t110 t113 bt116.1 true bt102.1 bt102.2.1 bt102.2.2.1) else (if bt116.2 = true then ((impl_IsSimple.f t113).bind fun t120 => (if t120 = true then (if 0 < (t113.length : Int) then (if 0 < (t110.length : Int) then (if (rd t113 0) = (rd t110 0) then (if 0 ≤ (wrap64 ((t113.length : Int) - 1)) then (if (wrap64 ((t113.length : Int) - 1)) < (t113.length : Int) then (if 0 ≤ (wrap64 ((t110.length : Int) - 1)) then (if (wrap64 ((t110.length : Int) - 1)) < (t110.length : Int) then (if (rd t113 (wrap64 ((t113.length : Int) - 1))) = (rd t110 (wrap64 ((t110.length : Int) - 1))) then ((impl_CountErased.f k t110).bind fun t125 => (if t125 = (wrap64 ((t110.length : Int) - (t113.length : Int))) then (laws_FnErased.j0 k bt102.2.2.2.1 t110 t113 bt116.1 ((bt116.1.length : Int) != (wrap64 ((t113.length : Int) - 1))) bt102.1 bt102.2.1 bt102.2.2.1) else (laws_FnErased.j0 k bt102.2.2.2.1 t110 t113 bt116.1 true bt102.1 bt102.2.1 bt102.2.2.1))) else (laws_FnErased.j0 k bt102.2.2.2.1 t110 t113 bt116.1 true bt102.1 bt102.2.1 bt102.2.2.1)) else (none)) else (none)) else (none)) else (none)) else (laws_FnErased.j0 k bt102.2.2.2.1 t110 t113 bt116.1 true bt102.1 bt102.2.1 bt102.2.2.1)) else (none)) else (none)) else (laws_FnErased.j0 k bt102.2.2.2.1 t110 t113 bt116.1 true bt102.1 bt102.2.1 bt102.2.2.1))) else (laws_FnErased.j0 k bt102.2.2.2.1 t110 t113 bt116.1 true bt102.1 bt102.2.1 bt102.2.2.1))))))))
def laws_FnErased.T7 : Bool × List (List Nat × List Nat) := (true, [([], []), ([0], [0]), ([1], [1]), ([2], [2]), ([3], [3]), ([4, 3], [3, 4]), ([3, 5], [3, 5]), ([6, 3], [6]), ([7], [7]), ([8, 7, 7], [7, 8]), ([9, 7], [7, 9]), ([7, 10], [7, 10]), ([11, 9], [11]), ([12], [12]), ([13, 12], [12, 13]), ([14, 12], [12, 14]), ([12], [12]), ([16, 12], [12, 16]), ([17, 12], [12, 17]), ([15, 18, 12], [12, 15, 18]), ([12, 19], [12, 19]), ([20, 12], [20]), ([21], [21]), ([21], [21]), ([23, 21], [21, 23]), ([24, 21], [21, 24]), ([22, 25, 21], [21, 22, 25]), ([26, 21], [21, 26]), ([21], [21]), ([21], [21]), ([29, 21], [21, 29]), ([30, 21], [21, 30]), ([28, 31, 21], [21, 28, 31]), ([32, 21], [21, 32]), ([27, 33, 21], [21, 27, 33]), ([21, 34], [21, 34]), ([35, 21], [35]), ([36], [36]), ([37, 36, 36], [36, 37]), ([36], [36]), ([39, 36], [36, 39]), ([36], [36]), ([41, 36], [36, 41]), ([40, 42, 36], [36, 40, 42]), ([38, 43, 36], [36, 38, 43]), ([36, 44], [36, 44]), ([45, 38], [45]), ([46], [46]), ([47, 46], [46, 47]), ([46], [46]), ([49, 46], [46, 49]), ([50, 46], [46, 50]), ([48, 51, 46], [46, 48, 51]), ([46, 52], [46, 52])])
def laws_FnErased.B7 : List Nat := [0, 1, 3, 7, 15, 31, 63, 127, 255, 511, 1023, 2047, 4095, 8191, 16383, 32767, 8191, 73727, 204799, 524287, 1048575, 2097151, 4194303, 4194303, 12582911, 29360127, 67108863, 134217727, 4194303, 4194303, 541065215, 1614807039, 4030726143, 8325693439, 17179869183, 34359738367, 68719476735, 137438953471, 274877906943, 137438953471, 687194767359, 137438953471, 2336462209023, 8383776161791, 17592186044415, 35184372088831, 70368744177663, 140737488355327, 281474976710655, 140737488355327, 703687441776639, 1829587348619263, 4503599627370495, 9007199254740991]
theorem laws_FnErased.tab7 : rtab .any (opsOf Try.f8 7) = laws_FnErased.T7 := by kernel_rfl
theorem laws_FnErased.bits7 : waitsOk laws_FnErased.T7.2 laws_FnErased.B7 = true := by kernel_rfl
def laws_FnErased.T10 : Bool × List (List Nat × List Nat) := (true, [([], []), ([], []), ([], []), ([], []), ([3], [3]), ([4], [4]), ([2, 5], [2, 5]), ([6], [6]), ([0, 1, 7], [0, 1, 7]), ([8], [8]), ([9], [9]), ([9], [9]), ([10, 8, 0, 1, 2, 3, 4, 5, 6, 7, 8, 9, 10], [10]), ([11, 12, 0, 1, 2, 3, 4, 5, 6, 7, 8, 9, 10, 11, 12], [11])])
def laws_FnErased.B10 : List Nat := [0, 0, 0, 0, 8, 24, 60, 124, 255, 511, 1023, 1023, 2047, 8191]
theorem laws_FnErased.tab10 : rtab .any (opsOf Try.f8 10) = laws_FnErased.T10 := by kernel_rfl
theorem laws_FnErased.bits10 : waitsOk laws_FnErased.T10.2 laws_FnErased.B10 = true := by kernel_rfl
set_option maxHeartbeats 8000000 in
set_option maxRecDepth 100000 in
theorem laws_FnErased.calls (k : Nat) (A0 : Option Addr) (c0 : Nat) (l0 : List Int) (r : Bool) (w : World) (hr0 : Kd.C (Kd.int .u8) w A0 l0.length l0) (hc0 : l0.length ≤ c0) (h : laws_FnErased.f k l0 = some r) :
    Calls Try.prog 8 #[.slice A0 l0.length c0] w fun e w' => e = .returned (.bool r) ∧ Below w.heap.size w w' := by
  have hu34 := Try.underlying34
  have HR0 := Aside0.mk hr0
  have HC0 := Aside0.mk hc0
  clear hr0 hc0
  have HB := Aside0.mk (Below.refl w.heap.size w)
  have H : ((laws_big.f l0).bind fun t101 => (if t101 = true then (some true) else ((spec_DrawWalk.f k l0).bind fun bt102 => ((spec_CellsOn.f k bt102.1 bt102.2.1 bt102.2.2.1 bt102.2.2.2.1 bt102.2.2.2.2).bind fun t110 => ((impl_EraseLoops.f k t110).bind fun t113 => ((impl_EraseWay.f k bt102.1 bt102.2.1 bt102.2.2.1 bt102.2.2.2.1 bt102.2.2.2.2).bind fun bt116 => (if (t113.length : Int) = 0 then (laws_FnErased.j0 k bt102.2.2.2.1 t110 t113 bt116.1 true bt102.1 bt102.2.1 bt102.2.2.1) else (if bt116.2 = true then ((impl_IsSimple.f t113).bind fun t120 => (if t120 = true then (if 0 < (t113.length : Int) then (if 0 < (t110.length : Int) then (if (rd t113 0) = (rd t110 0) then (if 0 ≤ (wrap64 ((t113.length : Int) - 1)) then (if (wrap64 ((t113.length : Int) - 1)) < (t113.length : Int) then (if 0 ≤ (wrap64 ((t110.length : Int) - 1)) then (if (wrap64 ((t110.length : Int) - 1)) < (t110.length : Int) then (if (rd t113 (wrap64 ((t113.length : Int) - 1))) = (rd t110 (wrap64 ((t110.length : Int) - 1))) then ((impl_CountErased.f k t110).bind fun t125 => (if t125 = (wrap64 ((t110.length : Int) - (t113.length : Int))) then (laws_FnErased.j0 k bt102.2.2.2.1 t110 t113 bt116.1 ((bt116.1.length : Int) != (wrap64 ((t113.length : Int) - 1))) bt102.1 bt102.2.1 bt102.2.2.1) else (laws_FnErased.j0 k bt102.2.2.2.1 t110 t113 bt116.1 true bt102.1 bt102.2.1 bt102.2.2.1))) else (laws_FnErased.j0 k bt102.2.2.2.1 t110 t113 bt116.1 true bt102.1 bt102.2.1 bt102.2.2.1)) else (none)) else (none)) else (none)) else (none)) else (laws_FnErased.j0 k bt102.2.2.2.1 t110 t113 bt116.1 true bt102.1 bt102.2.1 bt102.2.2.1)) else (none)) else (none)) else (laws_FnErased.j0 k bt102.2.2.2.1 t110 t113 bt116.1 true bt102.1 bt102.2.1 bt102.2.2.1))) else (laws_FnErased.j0 k bt102.2.2.2.1 t110 t113 bt116.1 true bt102.1 bt102.2.1 bt102.2.2.1))))))))) = some r := h
  clear h
  obtain ⟨t101, A20, H⟩ := Option.bind_eq_some_iff.mp H
  (try dsimp only at H); have A2 := Aside0.mk A20; clear A20
  by_cases c3 : t101 = true
  · subst c3
    rw [if_pos rfl] at H
    obtain rfl := Option.some.inj H
    go_enter Try.func8, Try.ntmps8
    go_wp2_with (first | ((with_reducible refine gate_callee (f := 23) rfl ?_); refine gl_ 15 Try.func23 #[.slice A0 l0.length c0] ?_; (with_reducible refine (laws_big.calls _ _ l0 true _ ?side1 ?side2 A2.out).mono ?_); (case side1 => repeat (first | exact HR0.out | (with_reducible refine Kd.C_alloc ?_ _) | (with_reducible refine Kd.C_drewN ?_ _) | (with_reducible refine Kd.C_drew ?_))); (case side2 => exact HC0.out); rintro e w' ⟨rfl, ⟨nd, rfl⟩⟩; (try clear A2); refine ⟨_, rfl, ?_⟩))
    go_ret
    exact ⟨by first | rfl | (simp [errW_none, errW_some] <;> rfl) | (simp [*, errW_none, errW_some] <;> rfl), by repeat (first | (with_reducible first | exact HB.out | apply below_alloc | apply pw_below_drewN | apply below_drew1) | exact HB.out)⟩
  · replace c3 := Bool.eq_false_iff.mpr c3
    subst c3
    have H1 : ((spec_DrawWalk.f k l0).bind fun bt102 => ((spec_CellsOn.f k bt102.1 bt102.2.1 bt102.2.2.1 bt102.2.2.2.1 bt102.2.2.2.2).bind fun t110 => ((impl_EraseLoops.f k t110).bind fun t113 => ((impl_EraseWay.f k bt102.1 bt102.2.1 bt102.2.2.1 bt102.2.2.2.1 bt102.2.2.2.2).bind fun bt116 => (if (t113.length : Int) = 0 then (laws_FnErased.j0 k bt102.2.2.2.1 t110 t113 bt116.1 true bt102.1 bt102.2.1 bt102.2.2.1) else (if bt116.2 = true then ((impl_IsSimple.f t113).bind fun t120 => (if t120 = true then (if 0 < (t113.length : Int) then (if 0 < (t110.length : Int) then (if (rd t113 0) = (rd t110 0) then (if 0 ≤ (wrap64 ((t113.length : Int) - 1)) then (if (wrap64 ((t113.length : Int) - 1)) < (t113.length : Int) then (if 0 ≤ (wrap64 ((t110.length : Int) - 1)) then (if (wrap64 ((t110.length : Int) - 1)) < (t110.length : Int) then (if (rd t113 (wrap64 ((t113.length : Int) - 1))) = (rd t110 (wrap64 ((t110.length : Int) - 1))) then ((impl_CountErased.f k t110).bind fun t125 => (if t125 = (wrap64 ((t110.length : Int) - (t113.length : Int))) then (laws_FnErased.j0 k bt102.2.2.2.1 t110 t113 bt116.1 ((bt116.1.length : Int) != (wrap64 ((t113.length : Int) - 1))) bt102.1 bt102.2.1 bt102.2.2.1) else (laws_FnErased.j0 k bt102.2.2.2.1 t110 t113 bt116.1 true bt102.1 bt102.2.1 bt102.2.2.1))) else (laws_FnErased.j0 k bt102.2.2.2.1 t110 t113 bt116.1 true bt102.1 bt102.2.1 bt102.2.2.1)) else (none)) else (none)) else (none)) else (none)) else (laws_FnErased.j0 k bt102.2.2.2.1 t110 t113 bt116.1 true bt102.1 bt102.2.1 bt102.2.2.1)) else (none)) else (none)) else (laws_FnErased.j0 k bt102.2.2.2.1 t110 t113 bt116.1 true bt102.1 bt102.2.1 bt102.2.2.1))) else (laws_FnErased.j0 k bt102.2.2.2.1 t110 t113 bt116.1 true bt102.1 bt102.2.1 bt102.2.2.1))))))) = some r := by rw [if_neg (show ¬ (false = true) by decide)] at H; exact H
    clear H
    have H := H1
    clear H1
    obtain ⟨⟨t102, t103, t104, t105, t106⟩, A40, H⟩ := Option.bind_eq_some_iff.mp H
    (try dsimp only at H); have A4 := Aside0.mk A40; clear A40
    obtain ⟨t110, A50, H⟩ := Option.bind_eq_some_iff.mp H
    (try dsimp only at H); have A5 := Aside0.mk A50; clear A50
    obtain ⟨t113, A60, H⟩ := Option.bind_eq_some_iff.mp H
    (try dsimp only at H); have A6 := Aside0.mk A60; clear A60
    obtain ⟨⟨t116, t119⟩, A70, H⟩ := Option.bind_eq_some_iff.mp H
    (try dsimp only at H); have A7 := Aside0.mk A70; clear A70
    have HC8 := Aside0.mk H
    clear H
    go_enter Try.func8, Try.ntmps8
    go_upto_region 7 with (first | ((with_reducible refine gate_callee (f := 23) rfl ?_); refine gl_ 15 Try.func23 #[.slice A0 l0.length c0] ?_; (with_reducible refine (laws_big.calls _ _ l0 false _ ?side1 ?side2 A2.out).mono ?_); (case side1 => repeat (first | exact HR0.out | (with_reducible refine Kd.C_alloc ?_ _) | (with_reducible refine Kd.C_drewN ?_ _) | (with_reducible refine Kd.C_drew ?_))); (case side2 => exact HC0.out); rintro e w' ⟨rfl, ⟨nd, rfl⟩⟩; (try clear A2); refine ⟨_, rfl, ?_⟩) | ((with_reducible refine gate_callee (f := 39) rfl ?_); refine gl_ 18 Try.func39 #[.slice A0 l0.length c0] ?_; (with_reducible refine (spec_DrawWalk.calls k _ _ l0 t102 t103 t104 t105 t106 _ ?side1 ?side2 A4.out).mono ?_); (case side1 => repeat (first | exact HR0.out | (with_reducible refine Kd.C_alloc ?_ _) | (with_reducible refine Kd.C_drewN ?_ _) | (with_reducible refine Kd.C_drew ?_))); (case side2 => exact HC0.out); rintro e w9 ⟨v107, rfl, ho0, hb⟩; (try clear A4); refine ⟨_, rfl, ?_⟩; have n0_ := Aside0.mk (Kd.R_lower ho0 (below_size (by repeat first | exact HB.1 | apply bA_ | apply bB_ | apply bC_))); have n1_ := Aside0.mk (below_step (by repeat first | exact HB.1 | apply bA_ | apply bB_ | apply bC_) hb); clear HB; have HO108 := n0_; have HB := n1_; clear n0_ n1_; (try clear hb); (try clear hb2); (try clear hk); (try clear hi); (try clear ho0)) | ((with_reducible refine gate_dst (N := 3) rfl ?_); (try (refine gate_guard (by rfl) ?_; dsimp only)); refine box_event ?hg (N := 3) ?hd (cs := #[.int .i64 0, .int .i64 0, .int .i64 0]) (t := 34) ?hr ?_; (case hd => rfl); (case hg => rfl); (case hr => first | (go_simp; done) | (go_simp; rfl)); intro gb109 hg w10 hbox hb; have n0_ := Aside0.mk (Kd.R_below (by (with_reducible repeat (first | apply Kd.R_alloc | apply Kd.R_drewN | apply Kd.R_drew)); exact HO108.out) hb); have n1_ := Aside0.mk (below_step (by repeat first | exact HB.1 | apply bA_ | apply bB_ | apply bC_) hb); have n2_ := Aside0.mk (hbox); have n3_ := Aside0.mk ((by rw [hg]; exact (below_size (by repeat first | exact HB.1 | apply bA_ | apply bB_ | apply bC_)) : w.heap.size ≤ gb109)); have n4_ := n3_; clear HO108; clear HB; have HO108 := n0_; have HB := n1_; have BK109 := n2_; have GW109 := n3_; have GE109 := n4_; clear n0_ n1_ n2_ n3_ n4_; clear hb hbox hg; obtain ⟨hcz11_0, hcz11_1, hcz11_2⟩ := kk3_ BK109.1; have hfz11_0 := blk_frozen BK109.out 0; have hfz11_1 := blk_frozen BK109.out 1; have hfz11_2 := blk_frozen BK109.out 2; obtain ⟨Ao12, co12, eo12⟩ := Kd.R_slice HO108.out; subst eo12) | ((with_reducible refine gate_callee (f := 40) rfl ?_); refine gl_ 25 Try.func40 #[.agg #[.int .i64 t102, .int .i64 t103, .int .i64 t104], .int .i64 t105, .slice Ao12 t106.length co12] ?_; (with_reducible refine (spec_CellsOn.calls k t102 t103 t104 t105 _ _ t106 t110 _ ?side1 ?side2 A5.out).mono ?_); (case side1 => refine (Kd.R_reads' (e := 3) (base := w.heap.size) (ok := fun k_ => True) (n := t106.length) (c := co12) ?_).2.2; exact (by (with_reducible repeat (first | apply Kd.R_alloc | apply Kd.R_drewN | apply Kd.R_drew)); exact (Kd.R_mono (Kd.R_far (p := ⟨gb109, 2, none⟩) (Kd.R_far (p := ⟨gb109, 1, none⟩) (Kd.R_far (p := ⟨gb109, 0, none⟩) (Kd.R_types HO108.out BK109.out (by decide)) (fun _ hk => hk.2) (.int .i64 t102)) (fun _ hk => hk.2) (.int .i64 t103)) (fun _ hk => hk.2) (.int .i64 t104)) (fun _ h_ => h_.1)))); (case side2 => exact (Kd.R_reads' HO108.out).2.1); rintro e w13 ⟨v111, rfl, ho0, hb⟩; (try clear A5); refine ⟨_, rfl, ?_⟩; have n0_ := Aside0.mk (Kd.R_elder' (by (with_reducible repeat (first | apply Kd.R_alloc | apply Kd.R_drewN | apply Kd.R_drew)); exact (Kd.R_mono (Kd.R_far (p := ⟨gb109, 2, none⟩) (Kd.R_far (p := ⟨gb109, 1, none⟩) (Kd.R_far (p := ⟨gb109, 0, none⟩) (Kd.R_types HO108.out BK109.out (by decide)) (fun _ hk => hk.2) (.int .i64 t102)) (fun _ hk => hk.2) (.int .i64 t103)) (fun _ hk => hk.2) (.int .i64 t104)) (fun _ h_ => h_.1))) (Kd.R_base ho0) hb); have n1_ := Aside0.mk (Kd.R_lower (Kd.R_new' ho0 (Kd.R_lt (by (with_reducible repeat (first | apply Kd.R_alloc | apply Kd.R_drewN | apply Kd.R_drew)); exact (Kd.R_mono (Kd.R_far (p := ⟨gb109, 2, none⟩) (Kd.R_far (p := ⟨gb109, 1, none⟩) (Kd.R_far (p := ⟨gb109, 0, none⟩) (Kd.R_types HO108.out BK109.out (by decide)) (fun _ hk => hk.2) (.int .i64 t102)) (fun _ hk => hk.2) (.int .i64 t103)) (fun _ hk => hk.2) (.int .i64 t104)) (fun _ h_ => h_.1))))) (below_size (by repeat first | exact HB.1 | apply bA_ | apply bB_ | apply bC_ | refine below_set ?_ GE109.out))); have n2_ := Aside0.mk (blk_below (g := gb109) (o := .cells #[.int .i64 t102, .int .i64 t103, .int .i64 t104] 34 (0, 0)) (by (with_reducible repeat (first | refine blk_drewN ?_ _ | refine blk_drew ?_ | refine blk_alloc ?_ _)); refine blk_put (cs := #[.int .i64 t102, .int .i64 t103, .int .i64 0]) ?_ 2 _ rfl; (with_reducible repeat (first | refine blk_drewN ?_ _ | refine blk_drew ?_ | refine blk_alloc ?_ _)); refine blk_put (cs := #[.int .i64 t102, .int .i64 0, .int .i64 0]) ?_ 1 _ rfl; (with_reducible repeat (first | refine blk_drewN ?_ _ | refine blk_drew ?_ | refine blk_alloc ?_ _)); refine blk_put (cs := #[.int .i64 0, .int .i64 0, .int .i64 0]) ?_ 0 _ rfl; (with_reducible repeat (first | refine blk_drewN ?_ _ | refine blk_drew ?_ | refine blk_alloc ?_ _)); exact BK109.out) hb); have n3_ := Aside0.mk (below_step (by repeat first | exact HB.1 | apply bA_ | apply bB_ | apply bC_ | refine below_set ?_ GE109.out) hb); clear HO108; clear BK109; clear HB; have HO108 := n0_; have HO112 := n1_; have BK109 := n2_; have HB := n3_; clear n0_ n1_ n2_ n3_; (try clear hb); (try clear hb2); (try clear hk); (try clear hi); (try clear ho0); obtain ⟨Ao14, co14, eo14⟩ := Kd.R_slice HO112.out; subst eo14) | ((with_reducible refine gate_callee (f := 41) rfl ?_); refine gl_ 27 Try.func41 #[.slice Ao14 t110.length co14] ?_; (with_reducible refine (impl_EraseLoops.calls k _ _ t110 t113 _ ?side1 ?side2 A6.out).mono ?_); (case side1 => repeat (first | exact (Kd.R_reads' HO112.out).2.2 | (with_reducible refine Kd.C_alloc ?_ _) | (with_reducible refine Kd.C_drewN ?_ _) | (with_reducible refine Kd.C_drew ?_))); (case side2 => exact (Kd.R_reads' HO112.out).2.1); rintro e w15 ⟨v114, rfl, ho0, hb⟩; (try clear A6); refine ⟨_, rfl, ?_⟩; have n0_ := Aside0.mk (Kd.R_elder' (by (with_reducible repeat (first | apply Kd.R_alloc | apply Kd.R_drewN | apply Kd.R_drew)); exact HO108.out) (Kd.R_base ho0) hb); have n1_ := Aside0.mk (Kd.R_elder' (by (with_reducible repeat (first | apply Kd.R_alloc | apply Kd.R_drewN | apply Kd.R_drew)); exact HO112.out) (Kd.R_base ho0) hb); have n2_ := Aside0.mk (Kd.R_lower (Kd.R_new' (Kd.R_new' ho0 (Kd.R_lt (by (with_reducible repeat (first | apply Kd.R_alloc | apply Kd.R_drewN | apply Kd.R_drew)); exact HO108.out))) (Kd.R_lt (by (with_reducible repeat (first | apply Kd.R_alloc | apply Kd.R_drewN | apply Kd.R_drew)); exact HO112.out))) (below_size (by repeat first | exact HB.1 | apply bA_ | apply bB_ | apply bC_ | refine below_set ?_ GE109.out))); have n3_ := Aside0.mk (blk_below (g := gb109) (o := .cells #[.int .i64 t102, .int .i64 t103, .int .i64 t104] 34 (0, 0)) (by (with_reducible repeat first | refine cA_ ?_ _ | refine cB_ ?_ | refine cC_ ?_ _); exact BK109.1) hb); have n4_ := Aside0.mk (below_step (by repeat first | exact HB.1 | apply bA_ | apply bB_ | apply bC_ | refine below_set ?_ GE109.out) hb); clear HO108; clear HO112; clear BK109; clear HB; have HO108 := n0_; have HO112 := n1_; have HO115 := n2_; have BK109 := n3_; have HB := n4_; clear n0_ n1_ n2_ n3_ n4_; (try clear hb); (try clear hb2); (try clear hk); (try clear hi); (try clear ho0); obtain ⟨hcz16_0, hcz16_1, hcz16_2⟩ := kk3_ BK109.1; have hfz16_0 := blk_frozen BK109.out 0; have hfz16_1 := blk_frozen BK109.out 1; have hfz16_2 := blk_frozen BK109.out 2) | ((with_reducible refine gate_callee (f := 42) rfl ?_); refine gl_ 32 Try.func42 #[.agg #[.int .i64 t102, .int .i64 t103, .int .i64 t104], .int .i64 t105, .slice Ao12 t106.length co12] ?_; (with_reducible refine (impl_EraseWay.calls k t102 t103 t104 t105 _ _ t106 t116 t119 _ ?side1 ?side2 A7.out).mono ?_); (case side1 => repeat (first | exact (Kd.R_reads' HO108.out).2.2 | (with_reducible refine Kd.C_alloc ?_ _) | (with_reducible refine Kd.C_drewN ?_ _) | (with_reducible refine Kd.C_drew ?_))); (case side2 => exact (Kd.R_reads' HO108.out).2.1); rintro e w17 ⟨v117, rfl, ho0, hb⟩; (try clear A7); refine ⟨_, rfl, ?_⟩; have n0_ := Aside0.mk (Kd.R_elder' (by (with_reducible repeat (first | apply Kd.R_alloc | apply Kd.R_drewN | apply Kd.R_drew)); exact HO108.out) (Kd.R_base ho0) hb); have n1_ := Aside0.mk (Kd.R_elder' (by (with_reducible repeat (first | apply Kd.R_alloc | apply Kd.R_drewN | apply Kd.R_drew)); exact HO112.out) (Kd.R_base ho0) hb); have n2_ := Aside0.mk (Kd.R_elder' (by (with_reducible repeat (first | apply Kd.R_alloc | apply Kd.R_drewN | apply Kd.R_drew)); exact HO115.out) (Kd.R_base ho0) hb); have n3_ := Aside0.mk (Kd.R_lower (Kd.R_new' (Kd.R_new' (Kd.R_new' ho0 (Kd.R_lt (by (with_reducible repeat (first | apply Kd.R_alloc | apply Kd.R_drewN | apply Kd.R_drew)); exact HO108.out))) (Kd.R_lt (by (with_reducible repeat (first | apply Kd.R_alloc | apply Kd.R_drewN | apply Kd.R_drew)); exact HO112.out))) (Kd.R_lt (by (with_reducible repeat (first | apply Kd.R_alloc | apply Kd.R_drewN | apply Kd.R_drew)); exact HO115.out))) (below_size (by repeat first | exact HB.1 | apply bA_ | apply bB_ | apply bC_ | refine below_set ?_ GE109.out))); have n4_ := Aside0.mk (blk_below (g := gb109) (o := .cells #[.int .i64 t102, .int .i64 t103, .int .i64 t104] 34 (0, 0)) (by (with_reducible repeat first | refine cA_ ?_ _ | refine cB_ ?_ | refine cC_ ?_ _); exact BK109.1) hb); have n5_ := Aside0.mk (below_step (by repeat first | exact HB.1 | apply bA_ | apply bB_ | apply bC_ | refine below_set ?_ GE109.out) hb); clear HO108; clear HO112; clear HO115; clear BK109; clear HB; have HO108 := n0_; have HO112 := n1_; have HO115 := n2_; have HO118 := n3_; have BK109 := n4_; have HB := n5_; clear n0_ n1_ n2_ n3_ n4_ n5_; (try clear hb); (try clear hb2); (try clear hk); (try clear hi); (try clear ho0)))
    (try simp only [Act.put, List.setIfInBounds_toArray, List.set_cons_zero, List.set_cons_succ])
    go_cut [88] (fun v88 wc => ∃ (kq : Nat) (x88_7 : Bool), v88 = .bool x88_7 ∧ Aside0 (laws_FnErased.j0 kq t105 t110 t113 t116 x88_7 t102 t103 t104 = some r) ∧ Aside0 (kq ≤ k) ∧ Aside0 (Kd.R (Kd.int .i64) 3 wc w.heap.size (fun k_ => some k_ ≠ (v114 : Value).ownBlock ∧ some k_ ≠ (v117 : Value).ownBlock) (.slice Ao14 t110.length co14) t110) ∧ Aside0 (Kd.R (Kd.int .i64) 3 wc w.heap.size (fun k_ => some k_ ≠ ((.slice Ao14 t110.length co14) : Value).ownBlock ∧ some k_ ≠ (v117 : Value).ownBlock) v114 t113) ∧ Aside0 (Kd.R (Kd.int .i64) 3 wc w.heap.size (fun k_ => some k_ ≠ ((.slice Ao14 t110.length co14) : Value).ownBlock ∧ some k_ ≠ (v114 : Value).ownBlock) v117 t116) ∧ Aside0 (wc.heap[gb109]? = some (.cells #[.int .i64 t102, .int .i64 t103, .int .i64 t104] 34 (0, 0))) ∧ Aside0 (Below w.heap.size w wc))
    case first =>
      have H := HC8.out
      clear HC8
      by_cases c18 : (t113.length : Int) = 0
      · rw [if_pos c18] at H
        have c18b0 : ((t113.length : Int) == 0) = true := beq_iff_eq.mpr c18
        have c18b1 : ((t113.length : Int) != 0) = false := bne_eq_false_iff_eq.mpr c18
        clear c18
        (first | rw [c18b0] | (simp only [i64_w, i32_w]; rw [c18b0]) | skip)
        have H' := Aside0.mk H
        clear H
        try go_wp2
        have n0_ := Aside0.mk (Kd.R_drew HO108.out)
        have n1_ := Aside0.mk (Kd.R_drew HO112.out)
        have n2_ := Aside0.mk (Kd.R_drew HO115.out)
        have n3_ := Aside0.mk (Kd.R_drew HO118.out)
        have n4_ := Aside0.mk (blk_drew BK109.out); have n5_ := Aside0.mk (below_drew1 HB.out); clear HO108; clear HO112; clear HO115; clear HO118; clear BK109; clear HB; have HO108 := n0_; have HO112 := n1_; have HO115 := n2_; have HO118 := n3_; have BK109 := n4_; have HB := n5_; clear n0_ n1_ n2_ n3_ n4_ n5_
        obtain ⟨Ao20, co20, eo20⟩ := Kd.R_slice HO115.out
        (first | subst eo20 | (injection eo20 with f1_ f2_ f3_; have f4_ := f1_.symm; have f5_ := f3_.symm; clear f1_ f2_ f3_; subst f4_; subst f5_))
        refine start_ (n := 54) (S := fun w' => True) (ds := []) #[false, false, false, false, false, false, false, false, false, false, false, false, false, false, false, false, false, false, false, false, false, false, false, false, false, false, false, false, false, false, false, false, false, false, false, false, false, false, false, false, false, false, false, false, false, false, false, false, false, false, false, false, false, false] (by kernel_rfl) rfl rfl trivial (fun hHeld => ?_); refine with_tabW laws_FnErased.tab7 laws_FnErased.bits7 (fun HT_ HW_ => ?_)
        generalize w17.drew = w19 at HO108 HO112 HO115 HO118 BK109 HB hHeld ⊢; refine pv_ 0 35 HT_ ?_; refine pv_ 1 36 HT_ ?_; refine pv_ 2 37 HT_ ?_; refine pv_ 3 38 HT_ ?_; refine pw_ 4 39 HT_ ?_; refine pw_ 5 40 HT_ ?_; refine pv_ 6 41 HT_ ?_; refine pv_ 7 42 HT_ ?_; refine pw_ 8 43 HT_ ?_; refine pw_ 9 44 HT_ ?_; refine pw_ 10 45 HT_ ?_; refine pv_ 11 46 HT_ ?_; refine pv_ 12 47 HT_ ?_; refine pw_ 13 48 HT_ ?_; refine pw_ 14 49 HT_ ?_; refine pw_ 15 50 HT_ ?_; refine pw_ 16 51 HT_ ?_; refine pw_ 17 52 HT_ ?_; refine pw_ 18 53 HT_ ?_; refine pw_ 19 54 HT_ ?_; refine pv_ 20 55 HT_ ?_; refine pv_ 21 56 HT_ ?_; refine pw_ 22 57 HT_ ?_; refine pw_ 23 58 HT_ ?_; refine pw_ 24 59 HT_ ?_; refine pw_ 25 60 HT_ ?_; refine pw_ 26 61 HT_ ?_; refine pw_ 27 62 HT_ ?_; refine pw_ 28 63 HT_ ?_; refine pw_ 29 64 HT_ ?_; refine pw_ 30 65 HT_ ?_; refine pw_ 31 66 HT_ ?_; refine pw_ 32 67 HT_ ?_; refine pw_ 33 68 HT_ ?_; refine pw_ 34 69 HT_ ?_; refine pv_ 35 70 HT_ ?_; refine pv_ 36 71 HT_ ?_; refine pw_ 37 72 HT_ ?_; refine pw_ 38 73 HT_ ?_; refine pw_ 39 74 HT_ ?_; refine pw_ 40 75 HT_ ?_; refine pw_ 41 76 HT_ ?_; refine pw_ 42 77 HT_ ?_; refine pw_ 43 78 HT_ ?_; refine pw_ 44 79 HT_ ?_; refine pv_ 45 80 HT_ ?_; refine pv_ 46 81 HT_ ?_; refine pw_ 47 82 HT_ ?_; refine pw_ 48 83 HT_ ?_; refine pw_ 49 84 HT_ ?_; refine pw_ 50 85 HT_ ?_; refine pw_ 51 86 HT_ ?_; refine pw_ 52 87 HT_ ?_; refine pv_ 53 88 HT_ ?_
        refine done_ (done_of HT_.out (by kernel_rfl)) ?_
        try go_wp2
        go_meet
        case rel => exact ⟨_, (true), (by first | rfl | (simp; done) | (simp [*]; done)), H', ⟨by first | omega | exact Nat.le_refl _⟩, ⟨by (with_reducible repeat (first | apply Kd.R_alloc | apply Kd.R_drewN | apply Kd.R_drew)); exact Kd.R_mono HO112.out (fun _ hk => ⟨hk.1.2, hk.2⟩)⟩, ⟨by (with_reducible repeat (first | apply Kd.R_alloc | apply Kd.R_drewN | apply Kd.R_drew)); exact Kd.R_mono HO115.out (fun _ hk => ⟨hk.1.2, hk.2⟩)⟩, ⟨by (with_reducible repeat (first | apply Kd.R_alloc | apply Kd.R_drewN | apply Kd.R_drew)); exact Kd.R_mono HO118.out (fun _ hk => ⟨hk.1.2, hk.2⟩)⟩, ⟨by (with_reducible repeat (first | refine blk_drewN ?_ _ | refine blk_drew ?_ | refine blk_alloc ?_ _)); exact BK109.out⟩, ⟨by repeat (first | (with_reducible first | exact HB.out | apply below_alloc | apply pw_below_drewN | apply below_drew1 | refine below_set ?_ GE109.out) | exact HB.out)⟩⟩
      · rw [if_neg c18] at H
        have c18b0 : ((t113.length : Int) == 0) = false := beq_eq_false_iff_ne.mpr c18
        have c18b1 : ((t113.length : Int) != 0) = true := bne_iff_ne.mpr c18
        have c18b2 : ¬ (t113 = []) := fun h_ => c18 (by rw [h_]; rfl)
        (first | rw [c18b0] | (simp only [i64_w, i32_w]; rw [c18b0]) | skip)
        by_cases c21 : t119 = true
        · subst c21
          rw [if_pos rfl] at H
          obtain ⟨t120, A220, H⟩ := Option.bind_eq_some_iff.mp H
          (try dsimp only at H); have A22 := Aside0.mk A220; clear A220
          by_cases c23 : t120 = true
          · subst c23
            rw [if_pos rfl] at H
            replace H := iN_ H; obtain ⟨c24, H⟩ := H
            have c24b0 : decide (0 < (t113.length : Int)) = true := decide_eq_true c24
            have c24b1 : decide (0 < t113.length) = true := decide_eq_true (by omega)
            clear c24
            replace H := iN_ H; obtain ⟨c25, H⟩ := H
            have c25b0 : decide (0 < (t110.length : Int)) = true := decide_eq_true c25
            have c25b1 : decide (0 < t110.length) = true := decide_eq_true (by omega)
            clear c25
            by_cases c26 : (rd t113 0) = (rd t110 0)
            · rw [if_pos c26] at H
              have c26b0 : ((rd t113 0) == (rd t110 0)) = true := beq_iff_eq.mpr c26
              have c26b1 : ((rd t113 0) != (rd t110 0)) = false := bne_eq_false_iff_eq.mpr c26
              clear c26
              obtain ⟨ji27, hji27⟩ : ∃ j_ : Int, (wrap64 ((t113.length : Int) - 1)) = j_ := ⟨_, rfl⟩
              replace H : (if 0 ≤ (ji27) then (if (ji27) < (t113.length : Int) then (if 0 ≤ (wrap64 ((t110.length : Int) - 1)) then (if (wrap64 ((t110.length : Int) - 1)) < (t110.length : Int) then (if (rd t113 (ji27)) = (rd t110 (wrap64 ((t110.length : Int) - 1))) then ((impl_CountErased.f k t110).bind fun t125 => (if t125 = (wrap64 ((t110.length : Int) - (t113.length : Int))) then (laws_FnErased.j0 k t105 t110 t113 t116 ((t116.length : Int) != (ji27)) t102 t103 t104) else (laws_FnErased.j0 k t105 t110 t113 t116 true t102 t103 t104))) else (laws_FnErased.j0 k t105 t110 t113 t116 true t102 t103 t104)) else (none)) else (none)) else (none)) else (none)) = some r := by first | (rw [hji27] at H; exact H) | (simp only [hji27] at H ⊢; exact H)
              (try rw [hji27] at A22)
              have hji27w : (IntKind.i64.wrap ((t113.length : Int) - 1)) = ji27 := (i64_w _).trans hji27
              replace H := iN_ H; obtain ⟨c28, H⟩ := H
              have c28b0 : decide (0 ≤ (ji27)) = true := decide_eq_true c28
              clear c28
              replace H := iN_ H; obtain ⟨c29, H⟩ := H
              have c29b0 : decide ((ji27) < (t113.length : Int)) = true := decide_eq_true c29
              clear c29
              obtain ⟨ji30, hji30⟩ : ∃ j_ : Int, (wrap64 ((t110.length : Int) - 1)) = j_ := ⟨_, rfl⟩
              replace H : (if 0 ≤ (ji30) then (if (ji30) < (t110.length : Int) then (if (rd t113 (ji27)) = (rd t110 (ji30)) then ((impl_CountErased.f k t110).bind fun t125 => (if t125 = (wrap64 ((t110.length : Int) - (t113.length : Int))) then (laws_FnErased.j0 k t105 t110 t113 t116 ((t116.length : Int) != (ji27)) t102 t103 t104) else (laws_FnErased.j0 k t105 t110 t113 t116 true t102 t103 t104))) else (laws_FnErased.j0 k t105 t110 t113 t116 true t102 t103 t104)) else (none)) else (none)) = some r := by first | (rw [hji30] at H; exact H) | (simp only [hji30] at H ⊢; exact H)
              (try rw [hji30] at A22)
              have hji30w : (IntKind.i64.wrap ((t110.length : Int) - 1)) = ji30 := (i64_w _).trans hji30
              replace H := iN_ H; obtain ⟨c31, H⟩ := H
              have c31b0 : decide (0 ≤ (ji30)) = true := decide_eq_true c31
              clear c31
              replace H := iN_ H; obtain ⟨c32, H⟩ := H
              have c32b0 : decide ((ji30) < (t110.length : Int)) = true := decide_eq_true c32
              clear c32
              by_cases c33 : (rd t113 (ji27)) = (rd t110 (ji30))
              · rw [if_pos c33] at H
                have c33b0 : ((rd t113 (ji27)) == (rd t110 (ji30))) = true := beq_iff_eq.mpr c33
                have c33b1 : ((rd t113 (ji27)) != (rd t110 (ji30))) = false := bne_eq_false_iff_eq.mpr c33
                clear c33
                obtain ⟨t125, A340, H⟩ := Option.bind_eq_some_iff.mp H
                (try dsimp only at H); have A34 := Aside0.mk A340; clear A340
                by_cases c35 : t125 = (wrap64 ((t110.length : Int) - (t113.length : Int)))
                · rw [if_pos c35] at H
                  have c35b0 : (t125 == (wrap64 ((t110.length : Int) - (t113.length : Int)))) = true := beq_iff_eq.mpr c35
                  have c35b1 : (t125 != (wrap64 ((t110.length : Int) - (t113.length : Int)))) = false := bne_eq_false_iff_eq.mpr c35
                  clear c35
                  have H' := Aside0.mk H
                  clear H
                  try go_wp2
                  have n0_ := Aside0.mk (Kd.R_drew HO108.out)
                  have n1_ := Aside0.mk (Kd.R_drew HO112.out)
                  have n2_ := Aside0.mk (Kd.R_drew HO115.out)
                  have n3_ := Aside0.mk (Kd.R_drew HO118.out)
                  have n4_ := Aside0.mk (blk_drew BK109.out); have n5_ := Aside0.mk (below_drew1 HB.out); clear HO108; clear HO112; clear HO115; clear HO118; clear BK109; clear HB; have HO108 := n0_; have HO112 := n1_; have HO115 := n2_; have HO118 := n3_; have BK109 := n4_; have HB := n5_; clear n0_ n1_ n2_ n3_ n4_ n5_
                  obtain ⟨Ao37, co37, eo37⟩ := Kd.R_slice HO115.out
                  (first | subst eo37 | (injection eo37 with f1_ f2_ f3_; have f4_ := f1_.symm; have f5_ := f3_.symm; clear f1_ f2_ f3_; subst f4_; subst f5_))
                  have p121 : 0 ≤ (0 : Int) := (by omega)
                  have q121 : 0 < (t113.length : Int) := of_decide_eq_true (by first | (with_reducible assumption) | assumption)
                  obtain ⟨ad121, e121, hx121_0⟩ := Kd.at_int (Kd.R_reads' HO115.out).2.2 0 p121 q121
                  cases e121
                  have qi121 : (0 < t113.length) = True := eq_true (by omega)
                  (try rw [show ((0 : Int)).toNat = 0 from rfl] at hx121_0)
                  (try rw [Addr.add_zero'] at hx121_0)
                  replace p121 := eq_true p121; replace q121 := eq_true q121
                  have p122 : 0 ≤ (0 : Int) := (by omega)
                  have q122 : 0 < (t110.length : Int) := of_decide_eq_true (by first | (with_reducible assumption) | assumption)
                  obtain ⟨ad122, e122, hx122_0⟩ := Kd.at_int (Kd.R_reads' HO112.out).2.2 0 p122 q122
                  cases e122
                  have qi122 : (0 < t110.length) = True := eq_true (by omega)
                  (try rw [show ((0 : Int)).toNat = 0 from rfl] at hx122_0)
                  (try rw [Addr.add_zero'] at hx122_0)
                  replace p122 := eq_true p122; replace q122 := eq_true q122
                  have p123 : 0 ≤ ((ji27) : Int) := of_decide_eq_true (by first | (with_reducible assumption) | assumption)
                  have q123 : (ji27) < (t113.length : Int) := of_decide_eq_true (by first | (with_reducible assumption) | assumption)
                  obtain ⟨ad123, e123, hx123_0⟩ := Kd.at_int (Kd.R_reads' HO115.out).2.2 (ji27) p123 q123
                  obtain rfl : ad121 = ad123 := (by injection e123)
                  replace p123 := eq_true p123; replace q123 := eq_true q123
                  have p124 : 0 ≤ ((ji30) : Int) := of_decide_eq_true (by first | (with_reducible assumption) | assumption)
                  have q124 : (ji30) < (t110.length : Int) := of_decide_eq_true (by first | (with_reducible assumption) | assumption)
                  obtain ⟨ad124, e124, hx124_0⟩ := Kd.at_int (Kd.R_reads' HO112.out).2.2 (ji30) p124 q124
                  obtain rfl : ad122 = ad124 := (by injection e124)
                  replace p124 := eq_true p124; replace q124 := eq_true q124
                  refine start_ (n := 54) (S := fun w' => w'.cell? ad121 = some (.int .i64 (rd t113 0)) ∧ w'.cell? ad122 = some (.int .i64 (rd t110 0)) ∧ w'.cell? (ad121.add ((ji27)).toNat) = some (.int .i64 (rd t113 (ji27))) ∧ w'.cell? (ad122.add ((ji30)).toNat) = some (.int .i64 (rd t110 (ji30)))) (ds := []) #[false, false, false, false, false, false, false, false, false, false, false, false, false, false, false, false, false, false, false, false, false, false, false, false, false, false, false, false, false, false, false, false, false, false, false, false, false, false, false, false, false, false, false, false, false, false, false, false, false, false, false, false, false, false] (by kernel_rfl) rfl rfl ⟨hx121_0, hx122_0, hx123_0, hx124_0⟩ (fun hHeld => ?_); refine with_tabW laws_FnErased.tab7 laws_FnErased.bits7 (fun HT_ HW_ => ?_)
                  generalize w17.drew = w36 at HO108 HO112 HO115 HO118 BK109 HB hx121_0 hx122_0 hx123_0 hx124_0 hHeld ⊢; refine pv_ 0 35 HT_ ?_; refine pv_ 1 36 HT_ ?_; refine pv_ 2 37 HT_ ?_; refine pv_ 3 38 HT_ ?_; refine pv_ 4 39 HT_ ?_; refine pv_ 5 40 HT_ ?_; refine pv_ 6 41 HT_ ?_; refine pv_ 7 42 HT_ ?_; refine pv_ 8 43 HT_ ?_
                  refine on_ 9 (some 44) rfl rfl HT_ (by kernel_rfl) (by decide) (fun K hK => ?_)
                  refine gs_ Try.func15 #[.slice _ t113.length _] ?_
                  with_reducible refine (impl_IsSimple.calls _ _ t113 true _ ?side1 ?side2 A22.out).mono ?_
                  (case side1 => repeat (first | exact (Kd.R_reads' HO115.out).2.2 | (with_reducible refine Kd.C_alloc ?_ _) | (with_reducible refine Kd.C_drewN ?_ _) | (with_reducible refine Kd.C_drew ?_)))
                  (case side2 => exact (Kd.R_reads' HO115.out).2.1)
                  rintro e w38 ⟨rfl, hb⟩
                  have HS0_ := (hb.cell (World.block_lt_of_cell? _ _ (hHeld.1))).trans (hHeld.1)
                  have HS1_ := (hb.cell (World.block_lt_of_cell? _ _ (hHeld.2.1))).trans (hHeld.2.1)
                  have HS2_ := (hb.cell (World.block_lt_of_cell? _ _ (hHeld.2.2.1))).trans (hHeld.2.2.1)
                  have HS3_ := (hb.cell (World.block_lt_of_cell? _ _ (hHeld.2.2.2))).trans (hHeld.2.2.2)
                  refine ⟨_, rfl, ?_⟩
                  have n0_ := Aside0.mk (Kd.R_below (by (with_reducible repeat (first | apply Kd.R_alloc | apply Kd.R_drewN | apply Kd.R_drew)); exact HO108.out) hb)
                  have n1_ := Aside0.mk (Kd.R_below (by (with_reducible repeat (first | apply Kd.R_alloc | apply Kd.R_drewN | apply Kd.R_drew)); exact HO112.out) hb)
                  have n2_ := Aside0.mk (Kd.R_below (by (with_reducible repeat (first | apply Kd.R_alloc | apply Kd.R_drewN | apply Kd.R_drew)); exact HO115.out) hb)
                  have n3_ := Aside0.mk (Kd.R_below (by (with_reducible repeat (first | apply Kd.R_alloc | apply Kd.R_drewN | apply Kd.R_drew)); exact HO118.out) hb)
                  have n4_ := Aside0.mk (blk_below (g := gb109) (o := .cells #[.int .i64 t102, .int .i64 t103, .int .i64 t104] 34 (0, 0)) (by (with_reducible repeat first | refine cA_ ?_ _ | refine cB_ ?_ | refine cC_ ?_ _); exact BK109.1) hb)
                  have n5_ := Aside0.mk (below_step (by repeat first | exact HB.1 | apply bA_ | apply bB_ | apply bC_ | refine below_set ?_ GE109.out) hb)
                  clear HO108; clear HO112; clear HO115; clear HO118; clear BK109; clear HB; have HO108 := n0_; have HO112 := n1_; have HO115 := n2_; have HO118 := n3_; have BK109 := n4_; have HB := n5_; clear n0_ n1_ n2_ n3_ n4_ n5_; (try clear hb); (try clear hb2); (try clear hk); (try clear hi)
                  refine hK.out _ _ ⟨HS0_, HS1_, HS2_, HS3_⟩ (fun hHeld => ?_)
                  clear hK K
                  refine norm_ (a' := ?_) ?_ ?_; rotate_left; (show Act.put _ (some 44) _ = _; simp only [P6_]; rfl)
                  refine pv_ 10 45 HT_ ?_; refine pv_ 11 46 HT_ ?_; refine pv_ 12 47 HT_ ?_; refine pv_ 13 48 HT_ ?_; refine pv_ 14 49 HT_ ?_; refine pv_ 16 51 HT_ ?_; refine pv_ 17 52 HT_ ?_; refine tv_ 15 50 rfl HT_ HW_ hHeld (by rintro w' ⟨s0, s1, s2, s3⟩; go_simp; with_reducible rfl) ?_
                  refine tv_ 18 53 rfl HT_ HW_ hHeld (by rintro w' ⟨s0, s1, s2, s3⟩; go_simp; with_reducible rfl) ?_
                  refine pv_ 19 54 HT_ ?_; refine pv_ 20 55 HT_ ?_; refine pv_ 21 56 HT_ ?_; refine pv_ 22 57 HT_ ?_; refine pv_ 23 58 HT_ ?_; refine pv_ 24 59 HT_ ?_; refine pv_ 25 60 HT_ ?_; refine pv_ 26 61 HT_ ?_; refine pv_ 28 63 HT_ ?_; refine pv_ 29 64 HT_ ?_; refine pv_ 30 65 HT_ ?_; refine pv_ 31 66 HT_ ?_; refine pv_ 32 67 HT_ ?_; refine tv_ 27 62 rfl HT_ HW_ hHeld (by rintro w' ⟨s0, s1, s2, s3⟩; go_simp; with_reducible rfl) ?_
                  refine tv_ 33 68 rfl HT_ HW_ hHeld (by rintro w' ⟨s0, s1, s2, s3⟩; go_simp; with_reducible rfl) ?_
                  refine pv_ 34 69 HT_ ?_; refine pv_ 35 70 HT_ ?_; refine pv_ 36 71 HT_ ?_; refine pv_ 37 72 HT_ ?_; refine pv_ 39 74 HT_ ?_; refine pv_ 40 75 HT_ ?_; refine pv_ 41 76 HT_ ?_; refine pv_ 42 77 HT_ ?_; refine pv_ 43 78 HT_ ?_
                  refine on_ 38 (some 73) rfl rfl HT_ (by kernel_rfl) (by decide) (fun K hK => ?_)
                  refine gs_ Try.func43 #[.slice (some ad122) t110.length co14] ?_
                  with_reducible refine (impl_CountErased.calls k _ _ t110 t125 _ ?side1 ?side2 A34.out).mono ?_
                  (case side1 => repeat (first | exact (Kd.R_reads' HO112.out).2.2 | (with_reducible refine Kd.C_alloc ?_ _) | (with_reducible refine Kd.C_drewN ?_ _) | (with_reducible refine Kd.C_drew ?_)))
                  (case side2 => exact (Kd.R_reads' HO112.out).2.1)
                  rintro e w39 ⟨rfl, hb⟩
                  have HS0_ := (hb.cell (World.block_lt_of_cell? _ _ (hHeld.1))).trans (hHeld.1)
                  have HS1_ := (hb.cell (World.block_lt_of_cell? _ _ (hHeld.2.1))).trans (hHeld.2.1)
                  have HS2_ := (hb.cell (World.block_lt_of_cell? _ _ (hHeld.2.2.1))).trans (hHeld.2.2.1)
                  have HS3_ := (hb.cell (World.block_lt_of_cell? _ _ (hHeld.2.2.2))).trans (hHeld.2.2.2)
                  refine ⟨_, rfl, ?_⟩
                  have n0_ := Aside0.mk (Kd.R_below (by (with_reducible repeat (first | apply Kd.R_alloc | apply Kd.R_drewN | apply Kd.R_drew)); exact HO108.out) hb)
                  have n1_ := Aside0.mk (Kd.R_below (by (with_reducible repeat (first | apply Kd.R_alloc | apply Kd.R_drewN | apply Kd.R_drew)); exact HO112.out) hb)
                  have n2_ := Aside0.mk (Kd.R_below (by (with_reducible repeat (first | apply Kd.R_alloc | apply Kd.R_drewN | apply Kd.R_drew)); exact HO115.out) hb)
                  have n3_ := Aside0.mk (Kd.R_below (by (with_reducible repeat (first | apply Kd.R_alloc | apply Kd.R_drewN | apply Kd.R_drew)); exact HO118.out) hb)
                  have n4_ := Aside0.mk (blk_below (g := gb109) (o := .cells #[.int .i64 t102, .int .i64 t103, .int .i64 t104] 34 (0, 0)) (by (with_reducible repeat first | refine cA_ ?_ _ | refine cB_ ?_ | refine cC_ ?_ _); exact BK109.1) hb)
                  have n5_ := Aside0.mk (below_step (by repeat first | exact HB.1 | apply bA_ | apply bB_ | apply bC_ | refine below_set ?_ GE109.out) hb)
                  clear HO108; clear HO112; clear HO115; clear HO118; clear BK109; clear HB; have HO108 := n0_; have HO112 := n1_; have HO115 := n2_; have HO118 := n3_; have BK109 := n4_; have HB := n5_; clear n0_ n1_ n2_ n3_ n4_ n5_; (try clear hb); (try clear hb2); (try clear hk); (try clear hi)
                  obtain ⟨Ao40, co40, eo40⟩ := Kd.R_slice HO118.out
                  (first | subst eo40 | (injection eo40 with f1_ f2_ f3_; have f4_ := f1_.symm; have f5_ := f3_.symm; clear f1_ f2_ f3_; subst f4_; subst f5_))
                  refine hK.out _ _ ⟨HS0_, HS1_, HS2_, HS3_⟩ (fun hHeld => ?_)
                  clear hK K
                  refine norm_ (a' := ?_) ?_ ?_; rotate_left; (show Act.put _ (some 73) _ = _; simp only [P6_]; rfl)
                  refine pv_ 44 79 HT_ ?_; refine pv_ 45 80 HT_ ?_; refine pv_ 46 81 HT_ ?_; refine pv_ 47 82 HT_ ?_; refine pv_ 48 83 HT_ ?_; refine pv_ 49 84 HT_ ?_; refine pv_ 50 85 HT_ ?_; refine pv_ 51 86 HT_ ?_; refine pv_ 52 87 HT_ ?_; refine pv_ 53 88 HT_ ?_
                  refine done_ (done_of HT_.out (by kernel_rfl)) ?_
                  try go_wp2
                  go_meet
                  case rel => exact ⟨_, (((t116.length : Int) != (ji27))), (by first | rfl | (simp; done) | (simp only [← hji27] <;> (first | rfl | simp)) | (simp [*]; done)), H', ⟨by first | omega | exact Nat.le_refl _⟩, ⟨by (with_reducible repeat (first | apply Kd.R_alloc | apply Kd.R_drewN | apply Kd.R_drew)); exact Kd.R_mono HO112.out (fun _ hk => ⟨hk.1.2, hk.2⟩)⟩, ⟨by (with_reducible repeat (first | apply Kd.R_alloc | apply Kd.R_drewN | apply Kd.R_drew)); exact Kd.R_mono HO115.out (fun _ hk => ⟨hk.1.2, hk.2⟩)⟩, ⟨by (with_reducible repeat (first | apply Kd.R_alloc | apply Kd.R_drewN | apply Kd.R_drew)); exact Kd.R_mono HO118.out (fun _ hk => ⟨hk.1.2, hk.2⟩)⟩, ⟨by (with_reducible repeat (first | refine blk_drewN ?_ _ | refine blk_drew ?_ | refine blk_alloc ?_ _)); exact BK109.out⟩, ⟨by repeat (first | (with_reducible first | exact HB.out | apply below_alloc | apply pw_below_drewN | apply below_drew1 | refine below_set ?_ GE109.out) | exact HB.out)⟩⟩
                · rw [if_neg c35] at H
                  have c35b0 : (t125 == (wrap64 ((t110.length : Int) - (t113.length : Int)))) = false := beq_eq_false_iff_ne.mpr c35
                  have c35b1 : (t125 != (wrap64 ((t110.length : Int) - (t113.length : Int)))) = true := bne_iff_ne.mpr c35
                  have H' := Aside0.mk H
                  clear H
                  try go_wp2
                  have n0_ := Aside0.mk (Kd.R_drew HO108.out)
                  have n1_ := Aside0.mk (Kd.R_drew HO112.out)
                  have n2_ := Aside0.mk (Kd.R_drew HO115.out)
                  have n3_ := Aside0.mk (Kd.R_drew HO118.out)
                  have n4_ := Aside0.mk (blk_drew BK109.out); have n5_ := Aside0.mk (below_drew1 HB.out); clear HO108; clear HO112; clear HO115; clear HO118; clear BK109; clear HB; have HO108 := n0_; have HO112 := n1_; have HO115 := n2_; have HO118 := n3_; have BK109 := n4_; have HB := n5_; clear n0_ n1_ n2_ n3_ n4_ n5_
                  obtain ⟨Ao42, co42, eo42⟩ := Kd.R_slice HO115.out
                  (first | subst eo42 | (injection eo42 with f1_ f2_ f3_; have f4_ := f1_.symm; have f5_ := f3_.symm; clear f1_ f2_ f3_; subst f4_; subst f5_))
                  have p121 : 0 ≤ (0 : Int) := (by omega)
                  have q121 : 0 < (t113.length : Int) := of_decide_eq_true (by first | (with_reducible assumption) | assumption)
                  obtain ⟨ad121, e121, hx121_0⟩ := Kd.at_int (Kd.R_reads' HO115.out).2.2 0 p121 q121
                  cases e121
                  have qi121 : (0 < t113.length) = True := eq_true (by omega)
                  (try rw [show ((0 : Int)).toNat = 0 from rfl] at hx121_0)
                  (try rw [Addr.add_zero'] at hx121_0)
                  replace p121 := eq_true p121; replace q121 := eq_true q121
                  have p122 : 0 ≤ (0 : Int) := (by omega)
                  have q122 : 0 < (t110.length : Int) := of_decide_eq_true (by first | (with_reducible assumption) | assumption)
                  obtain ⟨ad122, e122, hx122_0⟩ := Kd.at_int (Kd.R_reads' HO112.out).2.2 0 p122 q122
                  cases e122
                  have qi122 : (0 < t110.length) = True := eq_true (by omega)
                  (try rw [show ((0 : Int)).toNat = 0 from rfl] at hx122_0)
                  (try rw [Addr.add_zero'] at hx122_0)
                  replace p122 := eq_true p122; replace q122 := eq_true q122
                  have p123 : 0 ≤ ((ji27) : Int) := of_decide_eq_true (by first | (with_reducible assumption) | assumption)
                  have q123 : (ji27) < (t113.length : Int) := of_decide_eq_true (by first | (with_reducible assumption) | assumption)
                  obtain ⟨ad123, e123, hx123_0⟩ := Kd.at_int (Kd.R_reads' HO115.out).2.2 (ji27) p123 q123
                  obtain rfl : ad121 = ad123 := (by injection e123)
                  replace p123 := eq_true p123; replace q123 := eq_true q123
                  have p124 : 0 ≤ ((ji30) : Int) := of_decide_eq_true (by first | (with_reducible assumption) | assumption)
                  have q124 : (ji30) < (t110.length : Int) := of_decide_eq_true (by first | (with_reducible assumption) | assumption)
                  obtain ⟨ad124, e124, hx124_0⟩ := Kd.at_int (Kd.R_reads' HO112.out).2.2 (ji30) p124 q124
                  obtain rfl : ad122 = ad124 := (by injection e124)
                  replace p124 := eq_true p124; replace q124 := eq_true q124
                  refine start_ (n := 54) (S := fun w' => w'.cell? ad121 = some (.int .i64 (rd t113 0)) ∧ w'.cell? ad122 = some (.int .i64 (rd t110 0)) ∧ w'.cell? (ad121.add ((ji27)).toNat) = some (.int .i64 (rd t113 (ji27))) ∧ w'.cell? (ad122.add ((ji30)).toNat) = some (.int .i64 (rd t110 (ji30)))) (ds := []) #[false, false, false, false, false, false, false, false, false, false, false, false, false, false, false, false, false, false, false, false, false, false, false, false, false, false, false, false, false, false, false, false, false, false, false, false, false, false, false, false, false, false, false, false, false, false, false, false, false, false, false, false, false, false] (by kernel_rfl) rfl rfl ⟨hx121_0, hx122_0, hx123_0, hx124_0⟩ (fun hHeld => ?_); refine with_tabW laws_FnErased.tab7 laws_FnErased.bits7 (fun HT_ HW_ => ?_)
                  generalize w17.drew = w41 at HO108 HO112 HO115 HO118 BK109 HB hx121_0 hx122_0 hx123_0 hx124_0 hHeld ⊢; refine pv_ 0 35 HT_ ?_; refine pv_ 1 36 HT_ ?_; refine pv_ 2 37 HT_ ?_; refine pv_ 3 38 HT_ ?_; refine pv_ 4 39 HT_ ?_; refine pv_ 5 40 HT_ ?_; refine pv_ 6 41 HT_ ?_; refine pv_ 7 42 HT_ ?_; refine pv_ 8 43 HT_ ?_
                  refine on_ 9 (some 44) rfl rfl HT_ (by kernel_rfl) (by decide) (fun K hK => ?_)
                  refine gs_ Try.func15 #[.slice _ t113.length _] ?_
                  with_reducible refine (impl_IsSimple.calls _ _ t113 true _ ?side1 ?side2 A22.out).mono ?_
                  (case side1 => repeat (first | exact (Kd.R_reads' HO115.out).2.2 | (with_reducible refine Kd.C_alloc ?_ _) | (with_reducible refine Kd.C_drewN ?_ _) | (with_reducible refine Kd.C_drew ?_)))
                  (case side2 => exact (Kd.R_reads' HO115.out).2.1)
                  rintro e w43 ⟨rfl, hb⟩
                  have HS0_ := (hb.cell (World.block_lt_of_cell? _ _ (hHeld.1))).trans (hHeld.1)
                  have HS1_ := (hb.cell (World.block_lt_of_cell? _ _ (hHeld.2.1))).trans (hHeld.2.1)
                  have HS2_ := (hb.cell (World.block_lt_of_cell? _ _ (hHeld.2.2.1))).trans (hHeld.2.2.1)
                  have HS3_ := (hb.cell (World.block_lt_of_cell? _ _ (hHeld.2.2.2))).trans (hHeld.2.2.2)
                  refine ⟨_, rfl, ?_⟩
                  have n0_ := Aside0.mk (Kd.R_below (by (with_reducible repeat (first | apply Kd.R_alloc | apply Kd.R_drewN | apply Kd.R_drew)); exact HO108.out) hb)
                  have n1_ := Aside0.mk (Kd.R_below (by (with_reducible repeat (first | apply Kd.R_alloc | apply Kd.R_drewN | apply Kd.R_drew)); exact HO112.out) hb)
                  have n2_ := Aside0.mk (Kd.R_below (by (with_reducible repeat (first | apply Kd.R_alloc | apply Kd.R_drewN | apply Kd.R_drew)); exact HO115.out) hb)
                  have n3_ := Aside0.mk (Kd.R_below (by (with_reducible repeat (first | apply Kd.R_alloc | apply Kd.R_drewN | apply Kd.R_drew)); exact HO118.out) hb)
                  have n4_ := Aside0.mk (blk_below (g := gb109) (o := .cells #[.int .i64 t102, .int .i64 t103, .int .i64 t104] 34 (0, 0)) (by (with_reducible repeat first | refine cA_ ?_ _ | refine cB_ ?_ | refine cC_ ?_ _); exact BK109.1) hb)
                  have n5_ := Aside0.mk (below_step (by repeat first | exact HB.1 | apply bA_ | apply bB_ | apply bC_ | refine below_set ?_ GE109.out) hb)
                  clear HO108; clear HO112; clear HO115; clear HO118; clear BK109; clear HB; have HO108 := n0_; have HO112 := n1_; have HO115 := n2_; have HO118 := n3_; have BK109 := n4_; have HB := n5_; clear n0_ n1_ n2_ n3_ n4_ n5_; (try clear hb); (try clear hb2); (try clear hk); (try clear hi)
                  refine hK.out _ _ ⟨HS0_, HS1_, HS2_, HS3_⟩ (fun hHeld => ?_)
                  clear hK K
                  refine norm_ (a' := ?_) ?_ ?_; rotate_left; (show Act.put _ (some 44) _ = _; simp only [P6_]; rfl)
                  refine pv_ 10 45 HT_ ?_; refine pv_ 11 46 HT_ ?_; refine pv_ 12 47 HT_ ?_; refine pv_ 13 48 HT_ ?_; refine pv_ 14 49 HT_ ?_; refine pv_ 16 51 HT_ ?_; refine pv_ 17 52 HT_ ?_; refine tv_ 15 50 rfl HT_ HW_ hHeld (by rintro w' ⟨s0, s1, s2, s3⟩; go_simp; with_reducible rfl) ?_
                  refine tv_ 18 53 rfl HT_ HW_ hHeld (by rintro w' ⟨s0, s1, s2, s3⟩; go_simp; with_reducible rfl) ?_
                  refine pv_ 19 54 HT_ ?_; refine pv_ 20 55 HT_ ?_; refine pv_ 21 56 HT_ ?_; refine pv_ 22 57 HT_ ?_; refine pv_ 23 58 HT_ ?_; refine pv_ 24 59 HT_ ?_; refine pv_ 25 60 HT_ ?_; refine pv_ 26 61 HT_ ?_; refine pv_ 28 63 HT_ ?_; refine pv_ 29 64 HT_ ?_; refine pv_ 30 65 HT_ ?_; refine pv_ 31 66 HT_ ?_; refine pv_ 32 67 HT_ ?_; refine tv_ 27 62 rfl HT_ HW_ hHeld (by rintro w' ⟨s0, s1, s2, s3⟩; go_simp; with_reducible rfl) ?_
                  refine tv_ 33 68 rfl HT_ HW_ hHeld (by rintro w' ⟨s0, s1, s2, s3⟩; go_simp; with_reducible rfl) ?_
                  refine pv_ 34 69 HT_ ?_; refine pv_ 35 70 HT_ ?_; refine pv_ 36 71 HT_ ?_; refine pv_ 37 72 HT_ ?_; refine pv_ 39 74 HT_ ?_; refine pv_ 40 75 HT_ ?_; refine pv_ 41 76 HT_ ?_; refine pv_ 42 77 HT_ ?_; refine pv_ 43 78 HT_ ?_
                  refine on_ 38 (some 73) rfl rfl HT_ (by kernel_rfl) (by decide) (fun K hK => ?_)
                  refine gs_ Try.func43 #[.slice (some ad122) t110.length co14] ?_
                  with_reducible refine (impl_CountErased.calls k _ _ t110 t125 _ ?side1 ?side2 A34.out).mono ?_
                  (case side1 => repeat (first | exact (Kd.R_reads' HO112.out).2.2 | (with_reducible refine Kd.C_alloc ?_ _) | (with_reducible refine Kd.C_drewN ?_ _) | (with_reducible refine Kd.C_drew ?_)))
                  (case side2 => exact (Kd.R_reads' HO112.out).2.1)
                  rintro e w44 ⟨rfl, hb⟩
                  have HS0_ := (hb.cell (World.block_lt_of_cell? _ _ (hHeld.1))).trans (hHeld.1)
                  have HS1_ := (hb.cell (World.block_lt_of_cell? _ _ (hHeld.2.1))).trans (hHeld.2.1)
                  have HS2_ := (hb.cell (World.block_lt_of_cell? _ _ (hHeld.2.2.1))).trans (hHeld.2.2.1)
                  have HS3_ := (hb.cell (World.block_lt_of_cell? _ _ (hHeld.2.2.2))).trans (hHeld.2.2.2)
                  refine ⟨_, rfl, ?_⟩
                  have n0_ := Aside0.mk (Kd.R_below (by (with_reducible repeat (first | apply Kd.R_alloc | apply Kd.R_drewN | apply Kd.R_drew)); exact HO108.out) hb)
                  have n1_ := Aside0.mk (Kd.R_below (by (with_reducible repeat (first | apply Kd.R_alloc | apply Kd.R_drewN | apply Kd.R_drew)); exact HO112.out) hb)
                  have n2_ := Aside0.mk (Kd.R_below (by (with_reducible repeat (first | apply Kd.R_alloc | apply Kd.R_drewN | apply Kd.R_drew)); exact HO115.out) hb)
                  have n3_ := Aside0.mk (Kd.R_below (by (with_reducible repeat (first | apply Kd.R_alloc | apply Kd.R_drewN | apply Kd.R_drew)); exact HO118.out) hb)
                  have n4_ := Aside0.mk (blk_below (g := gb109) (o := .cells #[.int .i64 t102, .int .i64 t103, .int .i64 t104] 34 (0, 0)) (by (with_reducible repeat first | refine cA_ ?_ _ | refine cB_ ?_ | refine cC_ ?_ _); exact BK109.1) hb)
                  have n5_ := Aside0.mk (below_step (by repeat first | exact HB.1 | apply bA_ | apply bB_ | apply bC_ | refine below_set ?_ GE109.out) hb)
                  clear HO108; clear HO112; clear HO115; clear HO118; clear BK109; clear HB; have HO108 := n0_; have HO112 := n1_; have HO115 := n2_; have HO118 := n3_; have BK109 := n4_; have HB := n5_; clear n0_ n1_ n2_ n3_ n4_ n5_; (try clear hb); (try clear hb2); (try clear hk); (try clear hi)
                  refine hK.out _ _ ⟨HS0_, HS1_, HS2_, HS3_⟩ (fun hHeld => ?_)
                  clear hK K
                  refine norm_ (a' := ?_) ?_ ?_; rotate_left; (show Act.put _ (some 73) _ = _; simp only [P6_]; rfl)
                  refine pv_ 44 79 HT_ ?_; refine pv_ 45 80 HT_ ?_; refine pv_ 46 81 HT_ ?_; refine pw_ 47 82 HT_ ?_; refine pw_ 48 83 HT_ ?_; refine pw_ 49 84 HT_ ?_; refine pw_ 50 85 HT_ ?_; refine pw_ 51 86 HT_ ?_; refine pw_ 52 87 HT_ ?_; refine pv_ 53 88 HT_ ?_
                  refine done_ (done_of HT_.out (by kernel_rfl)) ?_
                  try go_wp2
                  go_meet
                  case rel => exact ⟨_, (true), (by first | rfl | (simp; done) | (simp [*]; done)), H', ⟨by first | omega | exact Nat.le_refl _⟩, ⟨by (with_reducible repeat (first | apply Kd.R_alloc | apply Kd.R_drewN | apply Kd.R_drew)); exact Kd.R_mono HO112.out (fun _ hk => ⟨hk.1.2, hk.2⟩)⟩, ⟨by (with_reducible repeat (first | apply Kd.R_alloc | apply Kd.R_drewN | apply Kd.R_drew)); exact Kd.R_mono HO115.out (fun _ hk => ⟨hk.1.2, hk.2⟩)⟩, ⟨by (with_reducible repeat (first | apply Kd.R_alloc | apply Kd.R_drewN | apply Kd.R_drew)); exact Kd.R_mono HO118.out (fun _ hk => ⟨hk.1.2, hk.2⟩)⟩, ⟨by (with_reducible repeat (first | refine blk_drewN ?_ _ | refine blk_drew ?_ | refine blk_alloc ?_ _)); exact BK109.out⟩, ⟨by repeat (first | (with_reducible first | exact HB.out | apply below_alloc | apply pw_below_drewN | apply below_drew1 | refine below_set ?_ GE109.out) | exact HB.out)⟩⟩
              · rw [if_neg c33] at H
                have c33b0 : ((rd t113 (ji27)) == (rd t110 (ji30))) = false := beq_eq_false_iff_ne.mpr c33
                have c33b1 : ((rd t113 (ji27)) != (rd t110 (ji30))) = true := bne_iff_ne.mpr c33
                have H' := Aside0.mk H
                clear H
                try go_wp2
                have n0_ := Aside0.mk (Kd.R_drew HO108.out)
                have n1_ := Aside0.mk (Kd.R_drew HO112.out)
                have n2_ := Aside0.mk (Kd.R_drew HO115.out)
                have n3_ := Aside0.mk (Kd.R_drew HO118.out)
                have n4_ := Aside0.mk (blk_drew BK109.out); have n5_ := Aside0.mk (below_drew1 HB.out); clear HO108; clear HO112; clear HO115; clear HO118; clear BK109; clear HB; have HO108 := n0_; have HO112 := n1_; have HO115 := n2_; have HO118 := n3_; have BK109 := n4_; have HB := n5_; clear n0_ n1_ n2_ n3_ n4_ n5_
                obtain ⟨Ao46, co46, eo46⟩ := Kd.R_slice HO115.out
                (first | subst eo46 | (injection eo46 with f1_ f2_ f3_; have f4_ := f1_.symm; have f5_ := f3_.symm; clear f1_ f2_ f3_; subst f4_; subst f5_))
                have p121 : 0 ≤ (0 : Int) := (by omega)
                have q121 : 0 < (t113.length : Int) := of_decide_eq_true (by first | (with_reducible assumption) | assumption)
                obtain ⟨ad121, e121, hx121_0⟩ := Kd.at_int (Kd.R_reads' HO115.out).2.2 0 p121 q121
                cases e121
                have qi121 : (0 < t113.length) = True := eq_true (by omega)
                (try rw [show ((0 : Int)).toNat = 0 from rfl] at hx121_0)
                (try rw [Addr.add_zero'] at hx121_0)
                replace p121 := eq_true p121; replace q121 := eq_true q121
                have p122 : 0 ≤ (0 : Int) := (by omega)
                have q122 : 0 < (t110.length : Int) := of_decide_eq_true (by first | (with_reducible assumption) | assumption)
                obtain ⟨ad122, e122, hx122_0⟩ := Kd.at_int (Kd.R_reads' HO112.out).2.2 0 p122 q122
                cases e122
                have qi122 : (0 < t110.length) = True := eq_true (by omega)
                (try rw [show ((0 : Int)).toNat = 0 from rfl] at hx122_0)
                (try rw [Addr.add_zero'] at hx122_0)
                replace p122 := eq_true p122; replace q122 := eq_true q122
                have p123 : 0 ≤ ((ji27) : Int) := of_decide_eq_true (by first | (with_reducible assumption) | assumption)
                have q123 : (ji27) < (t113.length : Int) := of_decide_eq_true (by first | (with_reducible assumption) | assumption)
                obtain ⟨ad123, e123, hx123_0⟩ := Kd.at_int (Kd.R_reads' HO115.out).2.2 (ji27) p123 q123
                obtain rfl : ad121 = ad123 := (by injection e123)
                replace p123 := eq_true p123; replace q123 := eq_true q123
                have p124 : 0 ≤ ((ji30) : Int) := of_decide_eq_true (by first | (with_reducible assumption) | assumption)
                have q124 : (ji30) < (t110.length : Int) := of_decide_eq_true (by first | (with_reducible assumption) | assumption)
                obtain ⟨ad124, e124, hx124_0⟩ := Kd.at_int (Kd.R_reads' HO112.out).2.2 (ji30) p124 q124
                obtain rfl : ad122 = ad124 := (by injection e124)
                replace p124 := eq_true p124; replace q124 := eq_true q124
                refine start_ (n := 54) (S := fun w' => w'.cell? ad121 = some (.int .i64 (rd t113 0)) ∧ w'.cell? ad122 = some (.int .i64 (rd t110 0)) ∧ w'.cell? (ad121.add ((ji27)).toNat) = some (.int .i64 (rd t113 (ji27))) ∧ w'.cell? (ad122.add ((ji30)).toNat) = some (.int .i64 (rd t110 (ji30)))) (ds := []) #[false, false, false, false, false, false, false, false, false, false, false, false, false, false, false, false, false, false, false, false, false, false, false, false, false, false, false, false, false, false, false, false, false, false, false, false, false, false, false, false, false, false, false, false, false, false, false, false, false, false, false, false, false, false] (by kernel_rfl) rfl rfl ⟨hx121_0, hx122_0, hx123_0, hx124_0⟩ (fun hHeld => ?_); refine with_tabW laws_FnErased.tab7 laws_FnErased.bits7 (fun HT_ HW_ => ?_)
                generalize w17.drew = w45 at HO108 HO112 HO115 HO118 BK109 HB hx121_0 hx122_0 hx123_0 hx124_0 hHeld ⊢; refine pv_ 0 35 HT_ ?_; refine pv_ 1 36 HT_ ?_; refine pv_ 2 37 HT_ ?_; refine pv_ 3 38 HT_ ?_; refine pv_ 4 39 HT_ ?_; refine pv_ 5 40 HT_ ?_; refine pv_ 6 41 HT_ ?_; refine pv_ 7 42 HT_ ?_; refine pv_ 8 43 HT_ ?_
                refine on_ 9 (some 44) rfl rfl HT_ (by kernel_rfl) (by decide) (fun K hK => ?_)
                refine gs_ Try.func15 #[.slice _ t113.length _] ?_
                with_reducible refine (impl_IsSimple.calls _ _ t113 true _ ?side1 ?side2 A22.out).mono ?_
                (case side1 => repeat (first | exact (Kd.R_reads' HO115.out).2.2 | (with_reducible refine Kd.C_alloc ?_ _) | (with_reducible refine Kd.C_drewN ?_ _) | (with_reducible refine Kd.C_drew ?_)))
                (case side2 => exact (Kd.R_reads' HO115.out).2.1)
                rintro e w47 ⟨rfl, hb⟩
                have HS0_ := (hb.cell (World.block_lt_of_cell? _ _ (hHeld.1))).trans (hHeld.1)
                have HS1_ := (hb.cell (World.block_lt_of_cell? _ _ (hHeld.2.1))).trans (hHeld.2.1)
                have HS2_ := (hb.cell (World.block_lt_of_cell? _ _ (hHeld.2.2.1))).trans (hHeld.2.2.1)
                have HS3_ := (hb.cell (World.block_lt_of_cell? _ _ (hHeld.2.2.2))).trans (hHeld.2.2.2)
                refine ⟨_, rfl, ?_⟩
                have n0_ := Aside0.mk (Kd.R_below (by (with_reducible repeat (first | apply Kd.R_alloc | apply Kd.R_drewN | apply Kd.R_drew)); exact HO108.out) hb)
                have n1_ := Aside0.mk (Kd.R_below (by (with_reducible repeat (first | apply Kd.R_alloc | apply Kd.R_drewN | apply Kd.R_drew)); exact HO112.out) hb)
                have n2_ := Aside0.mk (Kd.R_below (by (with_reducible repeat (first | apply Kd.R_alloc | apply Kd.R_drewN | apply Kd.R_drew)); exact HO115.out) hb)
                have n3_ := Aside0.mk (Kd.R_below (by (with_reducible repeat (first | apply Kd.R_alloc | apply Kd.R_drewN | apply Kd.R_drew)); exact HO118.out) hb)
                have n4_ := Aside0.mk (blk_below (g := gb109) (o := .cells #[.int .i64 t102, .int .i64 t103, .int .i64 t104] 34 (0, 0)) (by (with_reducible repeat first | refine cA_ ?_ _ | refine cB_ ?_ | refine cC_ ?_ _); exact BK109.1) hb)
                have n5_ := Aside0.mk (below_step (by repeat first | exact HB.1 | apply bA_ | apply bB_ | apply bC_ | refine below_set ?_ GE109.out) hb)
                clear HO108; clear HO112; clear HO115; clear HO118; clear BK109; clear HB; have HO108 := n0_; have HO112 := n1_; have HO115 := n2_; have HO118 := n3_; have BK109 := n4_; have HB := n5_; clear n0_ n1_ n2_ n3_ n4_ n5_; (try clear hb); (try clear hb2); (try clear hk); (try clear hi)
                refine hK.out _ _ ⟨HS0_, HS1_, HS2_, HS3_⟩ (fun hHeld => ?_)
                clear hK K
                refine norm_ (a' := ?_) ?_ ?_; rotate_left; (show Act.put _ (some 44) _ = _; simp only [P6_]; rfl)
                refine pv_ 10 45 HT_ ?_; refine pv_ 11 46 HT_ ?_; refine pv_ 12 47 HT_ ?_; refine pv_ 13 48 HT_ ?_; refine pv_ 14 49 HT_ ?_; refine pv_ 16 51 HT_ ?_; refine pv_ 17 52 HT_ ?_; refine tv_ 15 50 rfl HT_ HW_ hHeld (by rintro w' ⟨s0, s1, s2, s3⟩; go_simp; with_reducible rfl) ?_
                refine tv_ 18 53 rfl HT_ HW_ hHeld (by rintro w' ⟨s0, s1, s2, s3⟩; go_simp; with_reducible rfl) ?_
                refine pv_ 19 54 HT_ ?_; refine pv_ 20 55 HT_ ?_; refine pv_ 21 56 HT_ ?_; refine pv_ 22 57 HT_ ?_; refine pv_ 23 58 HT_ ?_; refine pv_ 24 59 HT_ ?_; refine pv_ 25 60 HT_ ?_; refine pv_ 26 61 HT_ ?_; refine pv_ 28 63 HT_ ?_; refine pv_ 29 64 HT_ ?_; refine pv_ 30 65 HT_ ?_; refine pv_ 31 66 HT_ ?_; refine pv_ 32 67 HT_ ?_; refine tv_ 27 62 rfl HT_ HW_ hHeld (by rintro w' ⟨s0, s1, s2, s3⟩; go_simp; with_reducible rfl) ?_
                refine tv_ 33 68 rfl HT_ HW_ hHeld (by rintro w' ⟨s0, s1, s2, s3⟩; go_simp; with_reducible rfl) ?_
                refine pv_ 34 69 HT_ ?_; refine pv_ 35 70 HT_ ?_; refine pv_ 36 71 HT_ ?_; refine pw_ 37 72 HT_ ?_; refine pw_ 38 73 HT_ ?_; refine pw_ 39 74 HT_ ?_; refine pw_ 40 75 HT_ ?_; refine pw_ 41 76 HT_ ?_; refine pw_ 42 77 HT_ ?_; refine pw_ 43 78 HT_ ?_; refine pw_ 44 79 HT_ ?_; refine pv_ 45 80 HT_ ?_; refine pv_ 46 81 HT_ ?_; refine pw_ 47 82 HT_ ?_; refine pw_ 48 83 HT_ ?_; refine pw_ 49 84 HT_ ?_; refine pw_ 50 85 HT_ ?_; refine pw_ 51 86 HT_ ?_; refine pw_ 52 87 HT_ ?_; refine pv_ 53 88 HT_ ?_
                refine done_ (done_of HT_.out (by kernel_rfl)) ?_
                try go_wp2
                go_meet
                case rel => exact ⟨_, (true), (by first | rfl | (simp; done) | (simp [*]; done)), H', ⟨by first | omega | exact Nat.le_refl _⟩, ⟨by (with_reducible repeat (first | apply Kd.R_alloc | apply Kd.R_drewN | apply Kd.R_drew)); exact Kd.R_mono HO112.out (fun _ hk => ⟨hk.1.2, hk.2⟩)⟩, ⟨by (with_reducible repeat (first | apply Kd.R_alloc | apply Kd.R_drewN | apply Kd.R_drew)); exact Kd.R_mono HO115.out (fun _ hk => ⟨hk.1.2, hk.2⟩)⟩, ⟨by (with_reducible repeat (first | apply Kd.R_alloc | apply Kd.R_drewN | apply Kd.R_drew)); exact Kd.R_mono HO118.out (fun _ hk => ⟨hk.1.2, hk.2⟩)⟩, ⟨by (with_reducible repeat (first | refine blk_drewN ?_ _ | refine blk_drew ?_ | refine blk_alloc ?_ _)); exact BK109.out⟩, ⟨by repeat (first | (with_reducible first | exact HB.out | apply below_alloc | apply pw_below_drewN | apply below_drew1 | refine below_set ?_ GE109.out) | exact HB.out)⟩⟩
            · rw [if_neg c26] at H
              have c26b0 : ((rd t113 0) == (rd t110 0)) = false := beq_eq_false_iff_ne.mpr c26
              have c26b1 : ((rd t113 0) != (rd t110 0)) = true := bne_iff_ne.mpr c26
              have H' := Aside0.mk H
              clear H
              try go_wp2
              have n0_ := Aside0.mk (Kd.R_drew HO108.out)
              have n1_ := Aside0.mk (Kd.R_drew HO112.out)
              have n2_ := Aside0.mk (Kd.R_drew HO115.out)
              have n3_ := Aside0.mk (Kd.R_drew HO118.out)
              have n4_ := Aside0.mk (blk_drew BK109.out); have n5_ := Aside0.mk (below_drew1 HB.out); clear HO108; clear HO112; clear HO115; clear HO118; clear BK109; clear HB; have HO108 := n0_; have HO112 := n1_; have HO115 := n2_; have HO118 := n3_; have BK109 := n4_; have HB := n5_; clear n0_ n1_ n2_ n3_ n4_ n5_
              obtain ⟨Ao49, co49, eo49⟩ := Kd.R_slice HO115.out
              (first | subst eo49 | (injection eo49 with f1_ f2_ f3_; have f4_ := f1_.symm; have f5_ := f3_.symm; clear f1_ f2_ f3_; subst f4_; subst f5_))
              have p121 : 0 ≤ (0 : Int) := (by omega)
              have q121 : 0 < (t113.length : Int) := of_decide_eq_true (by first | (with_reducible assumption) | assumption)
              obtain ⟨ad121, e121, hx121_0⟩ := Kd.at_int (Kd.R_reads' HO115.out).2.2 0 p121 q121
              cases e121
              have qi121 : (0 < t113.length) = True := eq_true (by omega)
              (try rw [show ((0 : Int)).toNat = 0 from rfl] at hx121_0)
              (try rw [Addr.add_zero'] at hx121_0)
              replace p121 := eq_true p121; replace q121 := eq_true q121
              have p122 : 0 ≤ (0 : Int) := (by omega)
              have q122 : 0 < (t110.length : Int) := of_decide_eq_true (by first | (with_reducible assumption) | assumption)
              obtain ⟨ad122, e122, hx122_0⟩ := Kd.at_int (Kd.R_reads' HO112.out).2.2 0 p122 q122
              cases e122
              have qi122 : (0 < t110.length) = True := eq_true (by omega)
              (try rw [show ((0 : Int)).toNat = 0 from rfl] at hx122_0)
              (try rw [Addr.add_zero'] at hx122_0)
              replace p122 := eq_true p122; replace q122 := eq_true q122
              refine start_ (n := 54) (S := fun w' => w'.cell? ad121 = some (.int .i64 (rd t113 0)) ∧ w'.cell? ad122 = some (.int .i64 (rd t110 0))) (ds := []) #[false, false, false, false, false, false, false, false, false, false, false, false, false, false, false, false, false, false, false, false, false, false, false, false, false, false, false, false, false, false, false, false, false, false, false, false, false, false, false, false, false, false, false, false, false, false, false, false, false, false, false, false, false, false] (by kernel_rfl) rfl rfl ⟨hx121_0, hx122_0⟩ (fun hHeld => ?_); refine with_tabW laws_FnErased.tab7 laws_FnErased.bits7 (fun HT_ HW_ => ?_)
              generalize w17.drew = w48 at HO108 HO112 HO115 HO118 BK109 HB hx121_0 hx122_0 hHeld ⊢; refine pv_ 0 35 HT_ ?_; refine pv_ 1 36 HT_ ?_; refine pv_ 2 37 HT_ ?_; refine pv_ 3 38 HT_ ?_; refine pv_ 4 39 HT_ ?_; refine pv_ 5 40 HT_ ?_; refine pv_ 6 41 HT_ ?_; refine pv_ 7 42 HT_ ?_; refine pv_ 8 43 HT_ ?_
              refine on_ 9 (some 44) rfl rfl HT_ (by kernel_rfl) (by decide) (fun K hK => ?_)
              refine gs_ Try.func15 #[.slice _ t113.length _] ?_
              with_reducible refine (impl_IsSimple.calls _ _ t113 true _ ?side1 ?side2 A22.out).mono ?_
              (case side1 => repeat (first | exact (Kd.R_reads' HO115.out).2.2 | (with_reducible refine Kd.C_alloc ?_ _) | (with_reducible refine Kd.C_drewN ?_ _) | (with_reducible refine Kd.C_drew ?_)))
              (case side2 => exact (Kd.R_reads' HO115.out).2.1)
              rintro e w50 ⟨rfl, hb⟩
              have HS0_ := (hb.cell (World.block_lt_of_cell? _ _ (hHeld.1))).trans (hHeld.1)
              have HS1_ := (hb.cell (World.block_lt_of_cell? _ _ (hHeld.2))).trans (hHeld.2)
              refine ⟨_, rfl, ?_⟩
              have n0_ := Aside0.mk (Kd.R_below (by (with_reducible repeat (first | apply Kd.R_alloc | apply Kd.R_drewN | apply Kd.R_drew)); exact HO108.out) hb)
              have n1_ := Aside0.mk (Kd.R_below (by (with_reducible repeat (first | apply Kd.R_alloc | apply Kd.R_drewN | apply Kd.R_drew)); exact HO112.out) hb)
              have n2_ := Aside0.mk (Kd.R_below (by (with_reducible repeat (first | apply Kd.R_alloc | apply Kd.R_drewN | apply Kd.R_drew)); exact HO115.out) hb)
              have n3_ := Aside0.mk (Kd.R_below (by (with_reducible repeat (first | apply Kd.R_alloc | apply Kd.R_drewN | apply Kd.R_drew)); exact HO118.out) hb)
              have n4_ := Aside0.mk (blk_below (g := gb109) (o := .cells #[.int .i64 t102, .int .i64 t103, .int .i64 t104] 34 (0, 0)) (by (with_reducible repeat first | refine cA_ ?_ _ | refine cB_ ?_ | refine cC_ ?_ _); exact BK109.1) hb)
              have n5_ := Aside0.mk (below_step (by repeat first | exact HB.1 | apply bA_ | apply bB_ | apply bC_ | refine below_set ?_ GE109.out) hb)
              clear HO108; clear HO112; clear HO115; clear HO118; clear BK109; clear HB; have HO108 := n0_; have HO112 := n1_; have HO115 := n2_; have HO118 := n3_; have BK109 := n4_; have HB := n5_; clear n0_ n1_ n2_ n3_ n4_ n5_; (try clear hb); (try clear hb2); (try clear hk); (try clear hi)
              refine hK.out _ _ ⟨HS0_, HS1_⟩ (fun hHeld => ?_)
              clear hK K
              refine norm_ (a' := ?_) ?_ ?_; rotate_left; (show Act.put _ (some 44) _ = _; simp only [P6_]; rfl)
              refine pv_ 10 45 HT_ ?_; refine pv_ 11 46 HT_ ?_; refine pv_ 12 47 HT_ ?_; refine pv_ 13 48 HT_ ?_; refine pv_ 14 49 HT_ ?_; refine pv_ 16 51 HT_ ?_; refine pv_ 17 52 HT_ ?_; refine tv_ 15 50 rfl HT_ HW_ hHeld (by rintro w' ⟨s0, s1⟩; go_simp; with_reducible rfl) ?_
              refine tv_ 18 53 rfl HT_ HW_ hHeld (by rintro w' ⟨s0, s1⟩; go_simp; with_reducible rfl) ?_
              refine pv_ 19 54 HT_ ?_; refine pv_ 20 55 HT_ ?_; refine pv_ 21 56 HT_ ?_; refine pw_ 22 57 HT_ ?_; refine pw_ 23 58 HT_ ?_; refine pw_ 24 59 HT_ ?_; refine pw_ 25 60 HT_ ?_; refine pw_ 26 61 HT_ ?_; refine pw_ 27 62 HT_ ?_; refine pw_ 28 63 HT_ ?_; refine pw_ 29 64 HT_ ?_; refine pw_ 30 65 HT_ ?_; refine pw_ 31 66 HT_ ?_; refine pw_ 32 67 HT_ ?_; refine pw_ 33 68 HT_ ?_; refine pw_ 34 69 HT_ ?_; refine pv_ 35 70 HT_ ?_; refine pv_ 36 71 HT_ ?_; refine pw_ 37 72 HT_ ?_; refine pw_ 38 73 HT_ ?_; refine pw_ 39 74 HT_ ?_; refine pw_ 40 75 HT_ ?_; refine pw_ 41 76 HT_ ?_; refine pw_ 42 77 HT_ ?_; refine pw_ 43 78 HT_ ?_; refine pw_ 44 79 HT_ ?_; refine pv_ 45 80 HT_ ?_; refine pv_ 46 81 HT_ ?_; refine pw_ 47 82 HT_ ?_; refine pw_ 48 83 HT_ ?_; refine pw_ 49 84 HT_ ?_; refine pw_ 50 85 HT_ ?_; refine pw_ 51 86 HT_ ?_; refine pw_ 52 87 HT_ ?_; refine pv_ 53 88 HT_ ?_
              refine done_ (done_of HT_.out (by kernel_rfl)) ?_
              try go_wp2
              go_meet
              case rel => exact ⟨_, (true), (by first | rfl | (simp; done) | (simp [*]; done)), H', ⟨by first | omega | exact Nat.le_refl _⟩, ⟨by (with_reducible repeat (first | apply Kd.R_alloc | apply Kd.R_drewN | apply Kd.R_drew)); exact Kd.R_mono HO112.out (fun _ hk => ⟨hk.1.2, hk.2⟩)⟩, ⟨by (with_reducible repeat (first | apply Kd.R_alloc | apply Kd.R_drewN | apply Kd.R_drew)); exact Kd.R_mono HO115.out (fun _ hk => ⟨hk.1.2, hk.2⟩)⟩, ⟨by (with_reducible repeat (first | apply Kd.R_alloc | apply Kd.R_drewN | apply Kd.R_drew)); exact Kd.R_mono HO118.out (fun _ hk => ⟨hk.1.2, hk.2⟩)⟩, ⟨by (with_reducible repeat (first | refine blk_drewN ?_ _ | refine blk_drew ?_ | refine blk_alloc ?_ _)); exact BK109.out⟩, ⟨by repeat (first | (with_reducible first | exact HB.out | apply below_alloc | apply pw_below_drewN | apply below_drew1 | refine below_set ?_ GE109.out) | exact HB.out)⟩⟩
          · replace c23 := Bool.eq_false_iff.mpr c23
            subst c23
            have H1 : (laws_FnErased.j0 k t105 t110 t113 t116 true t102 t103 t104) = some r := by rw [if_neg (show ¬ (false = true) by decide)] at H; exact H
            clear H
            have H := H1
            clear H1
            have H' := Aside0.mk H
            clear H
            try go_wp2
            have n0_ := Aside0.mk (Kd.R_drew HO108.out)
            have n1_ := Aside0.mk (Kd.R_drew HO112.out)
            have n2_ := Aside0.mk (Kd.R_drew HO115.out)
            have n3_ := Aside0.mk (Kd.R_drew HO118.out)
            have n4_ := Aside0.mk (blk_drew BK109.out); have n5_ := Aside0.mk (below_drew1 HB.out); clear HO108; clear HO112; clear HO115; clear HO118; clear BK109; clear HB; have HO108 := n0_; have HO112 := n1_; have HO115 := n2_; have HO118 := n3_; have BK109 := n4_; have HB := n5_; clear n0_ n1_ n2_ n3_ n4_ n5_
            obtain ⟨Ao52, co52, eo52⟩ := Kd.R_slice HO115.out
            (first | subst eo52 | (injection eo52 with f1_ f2_ f3_; have f4_ := f1_.symm; have f5_ := f3_.symm; clear f1_ f2_ f3_; subst f4_; subst f5_))
            refine start_ (n := 54) (S := fun w' => True) (ds := []) #[false, false, false, false, false, false, false, false, false, false, false, false, false, false, false, false, false, false, false, false, false, false, false, false, false, false, false, false, false, false, false, false, false, false, false, false, false, false, false, false, false, false, false, false, false, false, false, false, false, false, false, false, false, false] (by kernel_rfl) rfl rfl trivial (fun hHeld => ?_); refine with_tabW laws_FnErased.tab7 laws_FnErased.bits7 (fun HT_ HW_ => ?_)
            generalize w17.drew = w51 at HO108 HO112 HO115 HO118 BK109 HB hHeld ⊢; refine pv_ 0 35 HT_ ?_; refine pv_ 1 36 HT_ ?_; refine pv_ 2 37 HT_ ?_; refine pv_ 3 38 HT_ ?_; refine pv_ 4 39 HT_ ?_; refine pv_ 5 40 HT_ ?_; refine pv_ 6 41 HT_ ?_; refine pv_ 7 42 HT_ ?_; refine pv_ 8 43 HT_ ?_
            refine on_ 9 (some 44) rfl rfl HT_ (by kernel_rfl) (by decide) (fun K hK => ?_)
            refine gs_ Try.func15 #[.slice _ t113.length _] ?_
            with_reducible refine (impl_IsSimple.calls _ _ t113 false _ ?side1 ?side2 A22.out).mono ?_
            (case side1 => repeat (first | exact (Kd.R_reads' HO115.out).2.2 | (with_reducible refine Kd.C_alloc ?_ _) | (with_reducible refine Kd.C_drewN ?_ _) | (with_reducible refine Kd.C_drew ?_)))
            (case side2 => exact (Kd.R_reads' HO115.out).2.1)
            rintro e w53 ⟨rfl, hb⟩
            refine ⟨_, rfl, ?_⟩
            have n0_ := Aside0.mk (Kd.R_below (by (with_reducible repeat (first | apply Kd.R_alloc | apply Kd.R_drewN | apply Kd.R_drew)); exact HO108.out) hb)
            have n1_ := Aside0.mk (Kd.R_below (by (with_reducible repeat (first | apply Kd.R_alloc | apply Kd.R_drewN | apply Kd.R_drew)); exact HO112.out) hb)
            have n2_ := Aside0.mk (Kd.R_below (by (with_reducible repeat (first | apply Kd.R_alloc | apply Kd.R_drewN | apply Kd.R_drew)); exact HO115.out) hb)
            have n3_ := Aside0.mk (Kd.R_below (by (with_reducible repeat (first | apply Kd.R_alloc | apply Kd.R_drewN | apply Kd.R_drew)); exact HO118.out) hb)
            have n4_ := Aside0.mk (blk_below (g := gb109) (o := .cells #[.int .i64 t102, .int .i64 t103, .int .i64 t104] 34 (0, 0)) (by (with_reducible repeat first | refine cA_ ?_ _ | refine cB_ ?_ | refine cC_ ?_ _); exact BK109.1) hb)
            have n5_ := Aside0.mk (below_step (by repeat first | exact HB.1 | apply bA_ | apply bB_ | apply bC_ | refine below_set ?_ GE109.out) hb)
            clear HO108; clear HO112; clear HO115; clear HO118; clear BK109; clear HB; have HO108 := n0_; have HO112 := n1_; have HO115 := n2_; have HO118 := n3_; have BK109 := n4_; have HB := n5_; clear n0_ n1_ n2_ n3_ n4_ n5_; (try clear hb); (try clear hb2); (try clear hk); (try clear hi)
            refine hK.out _ _ trivial (fun hHeld => ?_)
            clear hK K
            refine norm_ (a' := ?_) ?_ ?_; rotate_left; (show Act.put _ (some 44) _ = _; simp only [P6_]; rfl)
            refine pv_ 10 45 HT_ ?_; refine pv_ 11 46 HT_ ?_; refine pv_ 12 47 HT_ ?_; refine pw_ 13 48 HT_ ?_; refine pw_ 14 49 HT_ ?_; refine pw_ 15 50 HT_ ?_; refine pw_ 16 51 HT_ ?_; refine pw_ 17 52 HT_ ?_; refine pw_ 18 53 HT_ ?_; refine pw_ 19 54 HT_ ?_; refine pv_ 20 55 HT_ ?_; refine pv_ 21 56 HT_ ?_; refine pw_ 22 57 HT_ ?_; refine pw_ 23 58 HT_ ?_; refine pw_ 24 59 HT_ ?_; refine pw_ 25 60 HT_ ?_; refine pw_ 26 61 HT_ ?_; refine pw_ 27 62 HT_ ?_; refine pw_ 28 63 HT_ ?_; refine pw_ 29 64 HT_ ?_; refine pw_ 30 65 HT_ ?_; refine pw_ 31 66 HT_ ?_; refine pw_ 32 67 HT_ ?_; refine pw_ 33 68 HT_ ?_; refine pw_ 34 69 HT_ ?_; refine pv_ 35 70 HT_ ?_; refine pv_ 36 71 HT_ ?_; refine pw_ 37 72 HT_ ?_; refine pw_ 38 73 HT_ ?_; refine pw_ 39 74 HT_ ?_; refine pw_ 40 75 HT_ ?_; refine pw_ 41 76 HT_ ?_; refine pw_ 42 77 HT_ ?_; refine pw_ 43 78 HT_ ?_; refine pw_ 44 79 HT_ ?_; refine pv_ 45 80 HT_ ?_; refine pv_ 46 81 HT_ ?_; refine pw_ 47 82 HT_ ?_; refine pw_ 48 83 HT_ ?_; refine pw_ 49 84 HT_ ?_; refine pw_ 50 85 HT_ ?_; refine pw_ 51 86 HT_ ?_; refine pw_ 52 87 HT_ ?_; refine pv_ 53 88 HT_ ?_
            refine done_ (done_of HT_.out (by kernel_rfl)) ?_
            try go_wp2
            go_meet
            case rel => exact ⟨_, (true), (by first | rfl | (simp; done) | (simp [*]; done)), H', ⟨by first | omega | exact Nat.le_refl _⟩, ⟨by (with_reducible repeat (first | apply Kd.R_alloc | apply Kd.R_drewN | apply Kd.R_drew)); exact Kd.R_mono HO112.out (fun _ hk => ⟨hk.1.2, hk.2⟩)⟩, ⟨by (with_reducible repeat (first | apply Kd.R_alloc | apply Kd.R_drewN | apply Kd.R_drew)); exact Kd.R_mono HO115.out (fun _ hk => ⟨hk.1.2, hk.2⟩)⟩, ⟨by (with_reducible repeat (first | apply Kd.R_alloc | apply Kd.R_drewN | apply Kd.R_drew)); exact Kd.R_mono HO118.out (fun _ hk => ⟨hk.1.2, hk.2⟩)⟩, ⟨by (with_reducible repeat (first | refine blk_drewN ?_ _ | refine blk_drew ?_ | refine blk_alloc ?_ _)); exact BK109.out⟩, ⟨by repeat (first | (with_reducible first | exact HB.out | apply below_alloc | apply pw_below_drewN | apply below_drew1 | refine below_set ?_ GE109.out) | exact HB.out)⟩⟩
        · replace c21 := Bool.eq_false_iff.mpr c21
          subst c21
          have H1 : (laws_FnErased.j0 k t105 t110 t113 t116 true t102 t103 t104) = some r := by rw [if_neg (show ¬ (false = true) by decide)] at H; exact H
          clear H
          have H := H1
          clear H1
          have H' := Aside0.mk H
          clear H
          try go_wp2
          have n0_ := Aside0.mk (Kd.R_drew HO108.out)
          have n1_ := Aside0.mk (Kd.R_drew HO112.out)
          have n2_ := Aside0.mk (Kd.R_drew HO115.out)
          have n3_ := Aside0.mk (Kd.R_drew HO118.out)
          have n4_ := Aside0.mk (blk_drew BK109.out); have n5_ := Aside0.mk (below_drew1 HB.out); clear HO108; clear HO112; clear HO115; clear HO118; clear BK109; clear HB; have HO108 := n0_; have HO112 := n1_; have HO115 := n2_; have HO118 := n3_; have BK109 := n4_; have HB := n5_; clear n0_ n1_ n2_ n3_ n4_ n5_
          obtain ⟨Ao55, co55, eo55⟩ := Kd.R_slice HO115.out
          (first | subst eo55 | (injection eo55 with f1_ f2_ f3_; have f4_ := f1_.symm; have f5_ := f3_.symm; clear f1_ f2_ f3_; subst f4_; subst f5_))
          refine start_ (n := 54) (S := fun w' => True) (ds := []) #[false, false, false, false, false, false, false, false, false, false, false, false, false, false, false, false, false, false, false, false, false, false, false, false, false, false, false, false, false, false, false, false, false, false, false, false, false, false, false, false, false, false, false, false, false, false, false, false, false, false, false, false, false, false] (by kernel_rfl) rfl rfl trivial (fun hHeld => ?_); refine with_tabW laws_FnErased.tab7 laws_FnErased.bits7 (fun HT_ HW_ => ?_)
          generalize w17.drew = w54 at HO108 HO112 HO115 HO118 BK109 HB hHeld ⊢; refine pv_ 0 35 HT_ ?_; refine pv_ 1 36 HT_ ?_; refine pv_ 2 37 HT_ ?_; refine pv_ 3 38 HT_ ?_; refine pv_ 4 39 HT_ ?_; refine pv_ 5 40 HT_ ?_; refine pv_ 6 41 HT_ ?_; refine pv_ 7 42 HT_ ?_; refine pw_ 8 43 HT_ ?_; refine pw_ 9 44 HT_ ?_; refine pw_ 10 45 HT_ ?_; refine pv_ 11 46 HT_ ?_; refine pv_ 12 47 HT_ ?_; refine pw_ 13 48 HT_ ?_; refine pw_ 14 49 HT_ ?_; refine pw_ 15 50 HT_ ?_; refine pw_ 16 51 HT_ ?_; refine pw_ 17 52 HT_ ?_; refine pw_ 18 53 HT_ ?_; refine pw_ 19 54 HT_ ?_; refine pv_ 20 55 HT_ ?_; refine pv_ 21 56 HT_ ?_; refine pw_ 22 57 HT_ ?_; refine pw_ 23 58 HT_ ?_; refine pw_ 24 59 HT_ ?_; refine pw_ 25 60 HT_ ?_; refine pw_ 26 61 HT_ ?_; refine pw_ 27 62 HT_ ?_; refine pw_ 28 63 HT_ ?_; refine pw_ 29 64 HT_ ?_; refine pw_ 30 65 HT_ ?_; refine pw_ 31 66 HT_ ?_; refine pw_ 32 67 HT_ ?_; refine pw_ 33 68 HT_ ?_; refine pw_ 34 69 HT_ ?_; refine pv_ 35 70 HT_ ?_; refine pv_ 36 71 HT_ ?_; refine pw_ 37 72 HT_ ?_; refine pw_ 38 73 HT_ ?_; refine pw_ 39 74 HT_ ?_; refine pw_ 40 75 HT_ ?_; refine pw_ 41 76 HT_ ?_; refine pw_ 42 77 HT_ ?_; refine pw_ 43 78 HT_ ?_; refine pw_ 44 79 HT_ ?_; refine pv_ 45 80 HT_ ?_; refine pv_ 46 81 HT_ ?_; refine pw_ 47 82 HT_ ?_; refine pw_ 48 83 HT_ ?_; refine pw_ 49 84 HT_ ?_; refine pw_ 50 85 HT_ ?_; refine pw_ 51 86 HT_ ?_; refine pw_ 52 87 HT_ ?_; refine pv_ 53 88 HT_ ?_
          refine done_ (done_of HT_.out (by kernel_rfl)) ?_
          try go_wp2
          go_meet
          case rel => exact ⟨_, (true), (by first | rfl | (simp; done) | (simp [*]; done)), H', ⟨by first | omega | exact Nat.le_refl _⟩, ⟨by (with_reducible repeat (first | apply Kd.R_alloc | apply Kd.R_drewN | apply Kd.R_drew)); exact Kd.R_mono HO112.out (fun _ hk => ⟨hk.1.2, hk.2⟩)⟩, ⟨by (with_reducible repeat (first | apply Kd.R_alloc | apply Kd.R_drewN | apply Kd.R_drew)); exact Kd.R_mono HO115.out (fun _ hk => ⟨hk.1.2, hk.2⟩)⟩, ⟨by (with_reducible repeat (first | apply Kd.R_alloc | apply Kd.R_drewN | apply Kd.R_drew)); exact Kd.R_mono HO118.out (fun _ hk => ⟨hk.1.2, hk.2⟩)⟩, ⟨by (with_reducible repeat (first | refine blk_drewN ?_ _ | refine blk_drew ?_ | refine blk_alloc ?_ _)); exact BK109.out⟩, ⟨by repeat (first | (with_reducible first | exact HB.out | apply below_alloc | apply pw_below_drewN | apply below_drew1 | refine below_set ?_ GE109.out) | exact HB.out)⟩⟩
    case rest =>
      clear HC8; try clear c1; try clear c2; try clear p2; try clear c15; try clear c21
      obtain ⟨kq, x88_7, rfl, HA, HJ7, HO_6, HO_7, HO_8, BK109, HB⟩ := hcut
      cases kq with
      | zero => exact absurd HA.out (by simp [laws_FnErased.j0])
      | succ kj7 =>
        have H := HA.out
        clear HA
        simp only [laws_FnErased.j0] at H
        by_cases c56 : x88_7 = true
        · subst c56
          rw [if_pos rfl] at H
          obtain rfl := Option.some.inj H
          go_wp2
          go_ret
          exact ⟨by first | rfl | (simp [errW_none, errW_some] <;> rfl) | (simp [*, errW_none, errW_some] <;> rfl), by repeat (first | (with_reducible first | exact HB.out | apply below_alloc | apply pw_below_drewN | apply below_drew1 | refine below_set ?_ GE109.out) | exact HB.out)⟩
        · replace c56 := Bool.eq_false_iff.mpr c56
          subst c56
          have H1 : ((impl_WalkWay.f kj7 t102 t103 t104 t105 t116).bind fun bt126 => (if 0 ≤ (wrap64 ((t110.length : Int) - 1)) then (if (wrap64 ((t110.length : Int) - 1)) < (t110.length : Int) then ((spec_WayBetween.f kj7 t102 t103 t104 t105 (rd t110 (wrap64 ((t110.length : Int) - 1)))).bind fun bt129 => (if bt126.2 = true then (if bt126.1 = (rd t110 (wrap64 ((t110.length : Int) - 1))) then ((spec_IsPerfect.f kj7 t102 t103 t104).bind fun t134 => (if t134 = true then ((laws_sameInts.f kj7 t116 bt129.1).bind fun t135 => (if t135 = true then ((impl_EraseLoops.f kj7 t113).bind fun t136 => ((laws_sameInts.f kj7 t136 t113).bind fun t139 => (some t139))) else (none))) else ((impl_EraseLoops.f kj7 t113).bind fun t140 => ((laws_sameInts.f kj7 t140 t113).bind fun t143 => (some t143))))) else (some false)) else (none))) else (none)) else (none))) = some r := by rw [if_neg (show ¬ (false = true) by decide)] at H; exact H
          clear H
          have H := H1
          clear H1
          obtain ⟨⟨t126, t127⟩, A570, H⟩ := Option.bind_eq_some_iff.mp H
          (try dsimp only at H); have A57 := Aside0.mk A570; clear A570
          obtain ⟨ji58, hji58⟩ : ∃ j_ : Int, (wrap64 ((t110.length : Int) - 1)) = j_ := ⟨_, rfl⟩
          replace H : (if 0 ≤ (ji58) then (if (ji58) < (t110.length : Int) then ((spec_WayBetween.f kj7 t102 t103 t104 t105 (rd t110 (ji58))).bind fun bt129 => (if t127 = true then (if t126 = (rd t110 (ji58)) then ((spec_IsPerfect.f kj7 t102 t103 t104).bind fun t134 => (if t134 = true then ((laws_sameInts.f kj7 t116 bt129.1).bind fun t135 => (if t135 = true then ((impl_EraseLoops.f kj7 t113).bind fun t136 => ((laws_sameInts.f kj7 t136 t113).bind fun t139 => (some t139))) else (none))) else ((impl_EraseLoops.f kj7 t113).bind fun t140 => ((laws_sameInts.f kj7 t140 t113).bind fun t143 => (some t143))))) else (some false)) else (none))) else (none)) else (none)) = some r := by first | (rw [hji58] at H; exact H) | (simp only [hji58] at H ⊢; exact H)
          (try rw [hji58] at A57)
          have hji58w : (IntKind.i64.wrap ((t110.length : Int) - 1)) = ji58 := (i64_w _).trans hji58
          replace H := iN_ H; obtain ⟨c59, H⟩ := H
          have c59b0 : decide (0 ≤ (ji58)) = true := decide_eq_true c59
          clear c59
          replace H := iN_ H; obtain ⟨c60, H⟩ := H
          have c60b0 : decide ((ji58) < (t110.length : Int)) = true := decide_eq_true c60
          clear c60
          obtain ⟨⟨t129, t132⟩, A610, H⟩ := Option.bind_eq_some_iff.mp H
          (try dsimp only at H); have A61 := Aside0.mk A610; clear A610
          by_cases c62 : t127 = true
          · subst c62
            rw [if_pos rfl] at H
            by_cases c63 : t126 = (rd t110 (ji58))
            · rw [if_pos c63] at H
              have c63b0 : (t126 == (rd t110 (ji58))) = true := beq_iff_eq.mpr c63
              have c63b1 : (t126 != (rd t110 (ji58))) = false := bne_eq_false_iff_eq.mpr c63
              clear c63
              obtain ⟨t134, A640, H⟩ := Option.bind_eq_some_iff.mp H
              (try dsimp only at H); have A64 := Aside0.mk A640; clear A640
              by_cases c65 : t134 = true
              · subst c65
                rw [if_pos rfl] at H
                obtain ⟨t135, A660, H⟩ := Option.bind_eq_some_iff.mp H
                (try dsimp only at H); have A66 := Aside0.mk A660; clear A660
                by_cases c67 : t135 = true
                · subst c67
                  rw [if_pos rfl] at H
                  obtain ⟨t136, A680, H⟩ := Option.bind_eq_some_iff.mp H
                  (try dsimp only at H); have A68 := Aside0.mk A680; clear A680
                  obtain ⟨t139, A690, H⟩ := Option.bind_eq_some_iff.mp H
                  (try dsimp only at H); have A69 := Aside0.mk A690; clear A690
                  obtain rfl := Option.some.inj H
                  obtain ⟨hcz70_0, hcz70_1, hcz70_2⟩ := kk3_ BK109.1
                  have hfz70_0 := blk_frozen BK109.out 0
                  have hfz70_1 := blk_frozen BK109.out 1
                  have hfz70_2 := blk_frozen BK109.out 2
                  obtain ⟨Ao71, co71, eo71⟩ := Kd.R_slice HO_8.out
                  subst eo71
                  try go_wp2_with (first | ((with_reducible refine gate_callee (f := 44) rfl ?_); refine gl_ 93 Try.func44 #[.agg #[.int .i64 t102, .int .i64 t103, .int .i64 t104], .int .i64 t105, .slice Ao71 t116.length co71] ?_; (with_reducible refine (impl_WalkWay.calls kj7 t102 t103 t104 t105 _ _ t116 t126 true _ ?side1 ?side2 A57.out).mono ?_); (case side1 => repeat (first | exact (Kd.R_reads' HO_8.out).2.2 | (with_reducible refine Kd.C_alloc ?_ _) | (with_reducible refine Kd.C_drewN ?_ _) | (with_reducible refine Kd.C_drew ?_))); (case side2 => exact (Kd.R_reads' HO_8.out).2.1); rintro e w72 ⟨rfl, hb⟩; (try clear A57); refine ⟨_, rfl, ?_⟩; have n0_ := Aside0.mk (Kd.R_below (by (with_reducible repeat (first | apply Kd.R_alloc | apply Kd.R_drewN | apply Kd.R_drew)); exact HO_6.out) hb); have n1_ := Aside0.mk (Kd.R_below (by (with_reducible repeat (first | apply Kd.R_alloc | apply Kd.R_drewN | apply Kd.R_drew)); exact HO_7.out) hb); have n2_ := Aside0.mk (Kd.R_below (by (with_reducible repeat (first | apply Kd.R_alloc | apply Kd.R_drewN | apply Kd.R_drew)); exact HO_8.out) hb); have n3_ := Aside0.mk (blk_below (g := gb109) (o := .cells #[.int .i64 t102, .int .i64 t103, .int .i64 t104] 34 (0, 0)) (by (with_reducible repeat first | refine cA_ ?_ _ | refine cB_ ?_ | refine cC_ ?_ _); exact BK109.1) hb); have n4_ := Aside0.mk (below_step (by repeat first | exact HB.1 | apply bA_ | apply bB_ | apply bC_ | refine below_set ?_ GE109.out) hb); clear HO_6; clear HO_7; clear HO_8; clear BK109; clear HB; have HO_6 := n0_; have HO_7 := n1_; have HO_8 := n2_; have BK109 := n3_; have HB := n4_; clear n0_ n1_ n2_ n3_ n4_; (try clear hb); (try clear hb2); (try clear hk); (try clear hi)))
                  have n0_ := Aside0.mk (Kd.R_drew HO_6.out)
                  have n1_ := Aside0.mk (Kd.R_drew HO_7.out)
                  have n2_ := Aside0.mk (Kd.R_drew HO_8.out)
                  have n3_ := Aside0.mk (blk_drew BK109.out); have n4_ := Aside0.mk (below_drew1 HB.out); clear HO_6; clear HO_7; clear HO_8; clear BK109; clear HB; have HO_6 := n0_; have HO_7 := n1_; have HO_8 := n2_; have BK109 := n3_; have HB := n4_; clear n0_ n1_ n2_ n3_ n4_
                  have p128 : 0 ≤ ((ji58) : Int) := of_decide_eq_true (by first | (with_reducible assumption) | assumption)
                  have q128 : (ji58) < (t110.length : Int) := of_decide_eq_true (by first | (with_reducible assumption) | assumption)
                  obtain ⟨ad128, e128, hx128_0⟩ := Kd.at_int (Kd.R_reads' HO_6.out).2.2 (ji58) p128 q128
                  cases e128
                  replace p128 := eq_true p128; replace q128 := eq_true q128
                  refine start_ (n := 14) (S := fun w' => w'.cell? ⟨gb109, 0, none⟩ = some (.int .i64 t102) ∧ w'.cell? ⟨gb109, 1, none⟩ = some (.int .i64 t103) ∧ w'.cell? ⟨gb109, 2, none⟩ = some (.int .i64 t104) ∧ w'.cell? (ad128.add ((ji58)).toNat) = some (.int .i64 (rd t110 (ji58)))) (ds := []) #[false, false, false, false, false, false, false, false, false, false, false, false, false, false] (by kernel_rfl) rfl rfl ⟨(blk_cell BK109.out 0).trans rfl, (blk_cell BK109.out 1).trans rfl, (blk_cell BK109.out 2).trans rfl, hx128_0⟩ (fun hHeld => ?_); refine with_tabW laws_FnErased.tab10 laws_FnErased.bits10 (fun HT_ HW_ => ?_)
                  generalize w72.drew = w73 at HO_6 HO_7 HO_8 BK109 HB hx128_0 hHeld ⊢; refine pv_ 1 98 HT_ ?_; refine pv_ 2 99 HT_ ?_; refine pv_ 3 100 HT_ ?_; refine pv_ 4 101 HT_ ?_; refine pv_ 5 102 HT_ ?_; refine pv_ 6 103 HT_ ?_; refine tv_ 0 97 rfl HT_ HW_ hHeld (by rintro w' ⟨s0, s1, s2, s3⟩; go_simp; with_reducible rfl) ?_
                  refine tv_ 7 104 rfl HT_ HW_ hHeld (by rintro w' ⟨s0, s1, s2, s3⟩; go_simp; with_reducible rfl) ?_
                  refine on_ 8 (some 105) rfl rfl HT_ (by kernel_rfl) (by decide) (fun K hK => ?_)
                  refine goes_ Try.func45 (by kernel_rfl) rfl #[.agg #[.int .i64 t102, .int .i64 t103, .int .i64 t104], .int .i64 t105, .int .i64 (rd t110 (ji58))] (by rfl) rfl rfl (by (try simp only [List.map_toArray, List.map_cons, List.map_nil]); first | done | (simp only [hji58]; rfl) | rfl | (simp only [List.length_drop, List.length_take]; rfl)) ?_
                  with_reducible refine (spec_WayBetween.calls kj7 t102 t103 t104 t105 (rd t110 (ji58)) t129 t132 _ A61.out).mono ?_
                  rintro e w74 ⟨v130, rfl, ho0, hb⟩
                  have HS3_ := (hb.cell (World.block_lt_of_cell? _ _ (hHeld.2.2.2))).trans (hHeld.2.2.2)
                  refine ⟨_, rfl, ?_⟩
                  have n0_ := Aside0.mk (Kd.R_elder' (by (with_reducible repeat (first | apply Kd.R_alloc | apply Kd.R_drewN | apply Kd.R_drew)); exact HO_6.out) (Kd.R_base ho0) hb)
                  have n1_ := Aside0.mk (Kd.R_elder' (by (with_reducible repeat (first | apply Kd.R_alloc | apply Kd.R_drewN | apply Kd.R_drew)); exact HO_7.out) (Kd.R_base ho0) hb)
                  have n2_ := Aside0.mk (Kd.R_elder' (by (with_reducible repeat (first | apply Kd.R_alloc | apply Kd.R_drewN | apply Kd.R_drew)); exact HO_8.out) (Kd.R_base ho0) hb)
                  have n3_ := Aside0.mk (Kd.R_lower (Kd.R_new' (Kd.R_new' (Kd.R_new' ho0 (Kd.R_lt (by (with_reducible repeat (first | apply Kd.R_alloc | apply Kd.R_drewN | apply Kd.R_drew)); exact HO_6.out))) (Kd.R_lt (by (with_reducible repeat (first | apply Kd.R_alloc | apply Kd.R_drewN | apply Kd.R_drew)); exact HO_7.out))) (Kd.R_lt (by (with_reducible repeat (first | apply Kd.R_alloc | apply Kd.R_drewN | apply Kd.R_drew)); exact HO_8.out))) (below_size (by repeat first | exact HB.1 | apply bA_ | apply bB_ | apply bC_ | refine below_set ?_ GE109.out)))
                  have n4_ := Aside0.mk (blk_below (g := gb109) (o := .cells #[.int .i64 t102, .int .i64 t103, .int .i64 t104] 34 (0, 0)) (by (with_reducible repeat first | refine cA_ ?_ _ | refine cB_ ?_ | refine cC_ ?_ _); exact BK109.1) hb)
                  have n5_ := Aside0.mk (below_step (by repeat first | exact HB.1 | apply bA_ | apply bB_ | apply bC_ | refine below_set ?_ GE109.out) hb)
                  clear HO_6; clear HO_7; clear HO_8; clear BK109; clear HB; have HO_6 := n0_; have HO_7 := n1_; have HO_8 := n2_; have HO131 := n3_; have BK109 := n4_; have HB := n5_; clear n0_ n1_ n2_ n3_ n4_ n5_; (try clear hb); (try clear hb2); (try clear hk); (try clear hi); (try clear ho0)
                  refine hK.out _ _ ⟨(blk_cell BK109.out 0).trans rfl, (blk_cell BK109.out 1).trans rfl, (blk_cell BK109.out 2).trans rfl, HS3_⟩ (fun hHeld => ?_)
                  clear hK K
                  refine norm_ (a' := ?_) ?_ ?_; rotate_left; (show Act.put _ (some 105) _ = _; simp only [P6_]; rfl)
                  refine pv_ 9 96 HT_ ?_; refine pv_ 10 106 HT_ ?_; refine pv_ 11 107 HT_ ?_; refine pv_ 12 12 HT_ ?_; refine pv_ 13 13 HT_ ?_
                  refine done_ (done_of HT_.out (by kernel_rfl)) ?_
                  have p133 : 0 ≤ ((ji58) : Int) := of_decide_eq_true (by first | (with_reducible assumption) | assumption)
                  have q133 : (ji58) < (t110.length : Int) := of_decide_eq_true (by first | (with_reducible assumption) | assumption)
                  obtain ⟨ad133, e133, hx133_0⟩ := Kd.at_int (Kd.R_reads' HO_6.out).2.2 (ji58) p133 q133
                  obtain rfl : ad128 = ad133 := (by injection e133)
                  replace p133 := eq_true p133; replace q133 := eq_true q133
                  obtain ⟨hcz75_0, hcz75_1, hcz75_2⟩ := kk3_ BK109.1
                  have hfz75_0 := blk_frozen BK109.out 0
                  have hfz75_1 := blk_frozen BK109.out 1
                  have hfz75_2 := blk_frozen BK109.out 2
                  try go_wp2_with (first | (go_at_call 46; (with_reducible refine (spec_IsPerfect.calls kj7 t102 t103 t104 true _ A64.out).mono ?_); rintro e w76 ⟨rfl, hb⟩; (try clear A64); have n0_ := Aside0.mk (Kd.R_below (by (with_reducible repeat (first | apply Kd.R_alloc | apply Kd.R_drewN | apply Kd.R_drew)); exact HO_6.out) hb); have n1_ := Aside0.mk (Kd.R_below (by (with_reducible repeat (first | apply Kd.R_alloc | apply Kd.R_drewN | apply Kd.R_drew)); exact HO_7.out) hb); have n2_ := Aside0.mk (Kd.R_below (by (with_reducible repeat (first | apply Kd.R_alloc | apply Kd.R_drewN | apply Kd.R_drew)); exact HO_8.out) hb); have n3_ := Aside0.mk (Kd.R_below (by (with_reducible repeat (first | apply Kd.R_alloc | apply Kd.R_drewN | apply Kd.R_drew)); exact HO131.out) hb); have n4_ := Aside0.mk (blk_below (g := gb109) (o := .cells #[.int .i64 t102, .int .i64 t103, .int .i64 t104] 34 (0, 0)) (by (with_reducible repeat first | refine cA_ ?_ _ | refine cB_ ?_ | refine cC_ ?_ _); exact BK109.1) hb); have n5_ := Aside0.mk (below_step (by repeat first | exact HB.1 | apply bA_ | apply bB_ | apply bC_ | refine below_set ?_ GE109.out) hb); clear HO_6; clear HO_7; clear HO_8; clear HO131; clear BK109; clear HB; have HO_6 := n0_; have HO_7 := n1_; have HO_8 := n2_; have HO131 := n3_; have BK109 := n4_; have HB := n5_; clear n0_ n1_ n2_ n3_ n4_ n5_; (try clear hb); (try clear hb2); (try clear hk); (try clear hi); obtain ⟨Ao77, co77, eo77⟩ := Kd.R_slice HO131.out; subst eo77) | (go_at_call 47; (with_reducible refine (laws_sameInts.calls kj7 _ _ t116 _ _ t129 true _ ?side1 ?side2 ?side3 ?side4 A66.out).mono ?_); (case side1 => repeat (first | exact (Kd.R_reads' HO_8.out).2.2 | (with_reducible refine Kd.C_alloc ?_ _) | (with_reducible refine Kd.C_drewN ?_ _) | (with_reducible refine Kd.C_drew ?_))); (case side2 => exact (Kd.R_reads' HO_8.out).2.1); (case side3 => repeat (first | exact (Kd.R_reads' HO131.out).2.2 | (with_reducible refine Kd.C_alloc ?_ _) | (with_reducible refine Kd.C_drewN ?_ _) | (with_reducible refine Kd.C_drew ?_))); (case side4 => exact (Kd.R_reads' HO131.out).2.1); rintro e w' ⟨rfl, ⟨nd, rfl⟩⟩; (try clear A66); obtain ⟨Ao78, co78, eo78⟩ := Kd.R_slice HO_7.out; subst eo78) | (go_at_call 41; (with_reducible refine (impl_EraseLoops.calls kj7 _ _ t113 t136 _ ?side1 ?side2 A68.out).mono ?_); (case side1 => repeat (first | exact (Kd.R_reads' HO_7.out).2.2 | (with_reducible refine Kd.C_alloc ?_ _) | (with_reducible refine Kd.C_drewN ?_ _) | (with_reducible refine Kd.C_drew ?_))); (case side2 => exact (Kd.R_reads' HO_7.out).2.1); rintro e w79 ⟨v137, rfl, ho0, hb⟩; (try clear A68); have n0_ := Aside0.mk (Kd.R_elder' (by (with_reducible repeat (first | apply Kd.R_alloc | apply Kd.R_drewN | apply Kd.R_drew)); exact HO_6.out) (Kd.R_base ho0) hb); have n1_ := Aside0.mk (Kd.R_elder' (by (with_reducible repeat (first | apply Kd.R_alloc | apply Kd.R_drewN | apply Kd.R_drew)); exact HO_7.out) (Kd.R_base ho0) hb); have n2_ := Aside0.mk (Kd.R_elder' (by (with_reducible repeat (first | apply Kd.R_alloc | apply Kd.R_drewN | apply Kd.R_drew)); exact HO_8.out) (Kd.R_base ho0) hb); have n3_ := Aside0.mk (Kd.R_elder' (by (with_reducible repeat (first | apply Kd.R_alloc | apply Kd.R_drewN | apply Kd.R_drew)); exact HO131.out) (Kd.R_base ho0) hb); have n4_ := Aside0.mk (Kd.R_lower (Kd.R_new' (Kd.R_new' (Kd.R_new' (Kd.R_new' ho0 (Kd.R_lt (by (with_reducible repeat (first | apply Kd.R_alloc | apply Kd.R_drewN | apply Kd.R_drew)); exact HO_6.out))) (Kd.R_lt (by (with_reducible repeat (first | apply Kd.R_alloc | apply Kd.R_drewN | apply Kd.R_drew)); exact HO_7.out))) (Kd.R_lt (by (with_reducible repeat (first | apply Kd.R_alloc | apply Kd.R_drewN | apply Kd.R_drew)); exact HO_8.out))) (Kd.R_lt (by (with_reducible repeat (first | apply Kd.R_alloc | apply Kd.R_drewN | apply Kd.R_drew)); exact HO131.out))) (below_size (by repeat first | exact HB.1 | apply bA_ | apply bB_ | apply bC_ | refine below_set ?_ GE109.out))); have n5_ := Aside0.mk (blk_below (g := gb109) (o := .cells #[.int .i64 t102, .int .i64 t103, .int .i64 t104] 34 (0, 0)) (by (with_reducible repeat first | refine cA_ ?_ _ | refine cB_ ?_ | refine cC_ ?_ _); exact BK109.1) hb); have n6_ := Aside0.mk (below_step (by repeat first | exact HB.1 | apply bA_ | apply bB_ | apply bC_ | refine below_set ?_ GE109.out) hb); clear HO_6; clear HO_7; clear HO_8; clear HO131; clear BK109; clear HB; have HO_6 := n0_; have HO_7 := n1_; have HO_8 := n2_; have HO131 := n3_; have HO138 := n4_; have BK109 := n5_; have HB := n6_; clear n0_ n1_ n2_ n3_ n4_ n5_ n6_; (try clear hb); (try clear hb2); (try clear hk); (try clear hi); (try clear ho0); obtain ⟨Ao80, co80, eo80⟩ := Kd.R_slice HO138.out; subst eo80) | (go_at_call 47; (with_reducible refine (laws_sameInts.calls kj7 _ _ t136 _ _ t113 t139 _ ?side1 ?side2 ?side3 ?side4 A69.out).mono ?_); (case side1 => repeat (first | exact (Kd.R_reads' HO138.out).2.2 | (with_reducible refine Kd.C_alloc ?_ _) | (with_reducible refine Kd.C_drewN ?_ _) | (with_reducible refine Kd.C_drew ?_))); (case side2 => exact (Kd.R_reads' HO138.out).2.1); (case side3 => repeat (first | exact (Kd.R_reads' HO_7.out).2.2 | (with_reducible refine Kd.C_alloc ?_ _) | (with_reducible refine Kd.C_drewN ?_ _) | (with_reducible refine Kd.C_drew ?_))); (case side4 => exact (Kd.R_reads' HO_7.out).2.1); rintro e w' ⟨rfl, ⟨nd, rfl⟩⟩))
                  go_ret
                  exact ⟨by first | rfl | (simp [errW_none, errW_some] <;> rfl) | (simp only [← hji58]; first | rfl | (simp [errW_none, errW_some] <;> rfl)) | (simp [*, errW_none, errW_some] <;> rfl), by repeat (first | (with_reducible first | exact HB.out | apply below_alloc | apply pw_below_drewN | apply below_drew1 | refine below_set ?_ GE109.out) | exact HB.out)⟩
                · rw [if_neg c67] at H; exact absurd H (by simp)
              · replace c65 := Bool.eq_false_iff.mpr c65
                subst c65
                have H1 : ((impl_EraseLoops.f kj7 t113).bind fun t140 => ((laws_sameInts.f kj7 t140 t113).bind fun t143 => (some t143))) = some r := by rw [if_neg (show ¬ (false = true) by decide)] at H; exact H
                clear H
                have H := H1
                clear H1
                obtain ⟨t140, A890, H⟩ := Option.bind_eq_some_iff.mp H
                (try dsimp only at H); have A89 := Aside0.mk A890; clear A890
                obtain ⟨t143, A900, H⟩ := Option.bind_eq_some_iff.mp H
                (try dsimp only at H); have A90 := Aside0.mk A900; clear A900
                obtain rfl := Option.some.inj H
                obtain ⟨hcz91_0, hcz91_1, hcz91_2⟩ := kk3_ BK109.1
                have hfz91_0 := blk_frozen BK109.out 0
                have hfz91_1 := blk_frozen BK109.out 1
                have hfz91_2 := blk_frozen BK109.out 2
                obtain ⟨Ao92, co92, eo92⟩ := Kd.R_slice HO_8.out
                subst eo92
                try go_wp2_with (first | ((with_reducible refine gate_callee (f := 44) rfl ?_); refine gl_ 93 Try.func44 #[.agg #[.int .i64 t102, .int .i64 t103, .int .i64 t104], .int .i64 t105, .slice Ao92 t116.length co92] ?_; (with_reducible refine (impl_WalkWay.calls kj7 t102 t103 t104 t105 _ _ t116 t126 true _ ?side1 ?side2 A57.out).mono ?_); (case side1 => repeat (first | exact (Kd.R_reads' HO_8.out).2.2 | (with_reducible refine Kd.C_alloc ?_ _) | (with_reducible refine Kd.C_drewN ?_ _) | (with_reducible refine Kd.C_drew ?_))); (case side2 => exact (Kd.R_reads' HO_8.out).2.1); rintro e w93 ⟨rfl, hb⟩; (try clear A57); refine ⟨_, rfl, ?_⟩; have n0_ := Aside0.mk (Kd.R_below (by (with_reducible repeat (first | apply Kd.R_alloc | apply Kd.R_drewN | apply Kd.R_drew)); exact HO_6.out) hb); have n1_ := Aside0.mk (Kd.R_below (by (with_reducible repeat (first | apply Kd.R_alloc | apply Kd.R_drewN | apply Kd.R_drew)); exact HO_7.out) hb); have n2_ := Aside0.mk (Kd.R_below (by (with_reducible repeat (first | apply Kd.R_alloc | apply Kd.R_drewN | apply Kd.R_drew)); exact HO_8.out) hb); have n3_ := Aside0.mk (blk_below (g := gb109) (o := .cells #[.int .i64 t102, .int .i64 t103, .int .i64 t104] 34 (0, 0)) (by (with_reducible repeat first | refine cA_ ?_ _ | refine cB_ ?_ | refine cC_ ?_ _); exact BK109.1) hb); have n4_ := Aside0.mk (below_step (by repeat first | exact HB.1 | apply bA_ | apply bB_ | apply bC_ | refine below_set ?_ GE109.out) hb); clear HO_6; clear HO_7; clear HO_8; clear BK109; clear HB; have HO_6 := n0_; have HO_7 := n1_; have HO_8 := n2_; have BK109 := n3_; have HB := n4_; clear n0_ n1_ n2_ n3_ n4_; (try clear hb); (try clear hb2); (try clear hk); (try clear hi)))
                have n0_ := Aside0.mk (Kd.R_drew HO_6.out)
                have n1_ := Aside0.mk (Kd.R_drew HO_7.out)
                have n2_ := Aside0.mk (Kd.R_drew HO_8.out)
                have n3_ := Aside0.mk (blk_drew BK109.out); have n4_ := Aside0.mk (below_drew1 HB.out); clear HO_6; clear HO_7; clear HO_8; clear BK109; clear HB; have HO_6 := n0_; have HO_7 := n1_; have HO_8 := n2_; have BK109 := n3_; have HB := n4_; clear n0_ n1_ n2_ n3_ n4_
                have p128 : 0 ≤ ((ji58) : Int) := of_decide_eq_true (by first | (with_reducible assumption) | assumption)
                have q128 : (ji58) < (t110.length : Int) := of_decide_eq_true (by first | (with_reducible assumption) | assumption)
                obtain ⟨ad128, e128, hx128_0⟩ := Kd.at_int (Kd.R_reads' HO_6.out).2.2 (ji58) p128 q128
                cases e128
                replace p128 := eq_true p128; replace q128 := eq_true q128
                refine start_ (n := 14) (S := fun w' => w'.cell? ⟨gb109, 0, none⟩ = some (.int .i64 t102) ∧ w'.cell? ⟨gb109, 1, none⟩ = some (.int .i64 t103) ∧ w'.cell? ⟨gb109, 2, none⟩ = some (.int .i64 t104) ∧ w'.cell? (ad128.add ((ji58)).toNat) = some (.int .i64 (rd t110 (ji58)))) (ds := []) #[false, false, false, false, false, false, false, false, false, false, false, false, false, false] (by kernel_rfl) rfl rfl ⟨(blk_cell BK109.out 0).trans rfl, (blk_cell BK109.out 1).trans rfl, (blk_cell BK109.out 2).trans rfl, hx128_0⟩ (fun hHeld => ?_); refine with_tabW laws_FnErased.tab10 laws_FnErased.bits10 (fun HT_ HW_ => ?_)
                generalize w93.drew = w94 at HO_6 HO_7 HO_8 BK109 HB hx128_0 hHeld ⊢; refine pv_ 1 98 HT_ ?_; refine pv_ 2 99 HT_ ?_; refine pv_ 3 100 HT_ ?_; refine pv_ 4 101 HT_ ?_; refine pv_ 5 102 HT_ ?_; refine pv_ 6 103 HT_ ?_; refine tv_ 0 97 rfl HT_ HW_ hHeld (by rintro w' ⟨s0, s1, s2, s3⟩; go_simp; with_reducible rfl) ?_
                refine tv_ 7 104 rfl HT_ HW_ hHeld (by rintro w' ⟨s0, s1, s2, s3⟩; go_simp; with_reducible rfl) ?_
                refine on_ 8 (some 105) rfl rfl HT_ (by kernel_rfl) (by decide) (fun K hK => ?_)
                refine goes_ Try.func45 (by kernel_rfl) rfl #[.agg #[.int .i64 t102, .int .i64 t103, .int .i64 t104], .int .i64 t105, .int .i64 (rd t110 (ji58))] (by rfl) rfl rfl (by (try simp only [List.map_toArray, List.map_cons, List.map_nil]); first | done | (simp only [hji58]; rfl) | rfl | (simp only [List.length_drop, List.length_take]; rfl)) ?_
                with_reducible refine (spec_WayBetween.calls kj7 t102 t103 t104 t105 (rd t110 (ji58)) t129 t132 _ A61.out).mono ?_
                rintro e w95 ⟨v130, rfl, ho0, hb⟩
                have HS3_ := (hb.cell (World.block_lt_of_cell? _ _ (hHeld.2.2.2))).trans (hHeld.2.2.2)
                refine ⟨_, rfl, ?_⟩
                have n0_ := Aside0.mk (Kd.R_elder' (by (with_reducible repeat (first | apply Kd.R_alloc | apply Kd.R_drewN | apply Kd.R_drew)); exact HO_6.out) (Kd.R_base ho0) hb)
                have n1_ := Aside0.mk (Kd.R_elder' (by (with_reducible repeat (first | apply Kd.R_alloc | apply Kd.R_drewN | apply Kd.R_drew)); exact HO_7.out) (Kd.R_base ho0) hb)
                have n2_ := Aside0.mk (Kd.R_elder' (by (with_reducible repeat (first | apply Kd.R_alloc | apply Kd.R_drewN | apply Kd.R_drew)); exact HO_8.out) (Kd.R_base ho0) hb)
                have n3_ := Aside0.mk (Kd.R_lower (Kd.R_new' (Kd.R_new' (Kd.R_new' ho0 (Kd.R_lt (by (with_reducible repeat (first | apply Kd.R_alloc | apply Kd.R_drewN | apply Kd.R_drew)); exact HO_6.out))) (Kd.R_lt (by (with_reducible repeat (first | apply Kd.R_alloc | apply Kd.R_drewN | apply Kd.R_drew)); exact HO_7.out))) (Kd.R_lt (by (with_reducible repeat (first | apply Kd.R_alloc | apply Kd.R_drewN | apply Kd.R_drew)); exact HO_8.out))) (below_size (by repeat first | exact HB.1 | apply bA_ | apply bB_ | apply bC_ | refine below_set ?_ GE109.out)))
                have n4_ := Aside0.mk (blk_below (g := gb109) (o := .cells #[.int .i64 t102, .int .i64 t103, .int .i64 t104] 34 (0, 0)) (by (with_reducible repeat first | refine cA_ ?_ _ | refine cB_ ?_ | refine cC_ ?_ _); exact BK109.1) hb)
                have n5_ := Aside0.mk (below_step (by repeat first | exact HB.1 | apply bA_ | apply bB_ | apply bC_ | refine below_set ?_ GE109.out) hb)
                clear HO_6; clear HO_7; clear HO_8; clear BK109; clear HB; have HO_6 := n0_; have HO_7 := n1_; have HO_8 := n2_; have HO131 := n3_; have BK109 := n4_; have HB := n5_; clear n0_ n1_ n2_ n3_ n4_ n5_; (try clear hb); (try clear hb2); (try clear hk); (try clear hi); (try clear ho0)
                refine hK.out _ _ ⟨(blk_cell BK109.out 0).trans rfl, (blk_cell BK109.out 1).trans rfl, (blk_cell BK109.out 2).trans rfl, HS3_⟩ (fun hHeld => ?_)
                clear hK K
                refine norm_ (a' := ?_) ?_ ?_; rotate_left; (show Act.put _ (some 105) _ = _; simp only [P6_]; rfl)
                refine pv_ 9 96 HT_ ?_; refine pv_ 10 106 HT_ ?_; refine pv_ 11 107 HT_ ?_; refine pv_ 12 12 HT_ ?_; refine pv_ 13 13 HT_ ?_
                refine done_ (done_of HT_.out (by kernel_rfl)) ?_
                have p133 : 0 ≤ ((ji58) : Int) := of_decide_eq_true (by first | (with_reducible assumption) | assumption)
                have q133 : (ji58) < (t110.length : Int) := of_decide_eq_true (by first | (with_reducible assumption) | assumption)
                obtain ⟨ad133, e133, hx133_0⟩ := Kd.at_int (Kd.R_reads' HO_6.out).2.2 (ji58) p133 q133
                obtain rfl : ad128 = ad133 := (by injection e133)
                replace p133 := eq_true p133; replace q133 := eq_true q133
                obtain ⟨hcz96_0, hcz96_1, hcz96_2⟩ := kk3_ BK109.1
                have hfz96_0 := blk_frozen BK109.out 0
                have hfz96_1 := blk_frozen BK109.out 1
                have hfz96_2 := blk_frozen BK109.out 2
                try go_wp2_with (first | (go_at_call 46; (with_reducible refine (spec_IsPerfect.calls kj7 t102 t103 t104 false _ A64.out).mono ?_); rintro e w97 ⟨rfl, hb⟩; (try clear A64); have n0_ := Aside0.mk (Kd.R_below (by (with_reducible repeat (first | apply Kd.R_alloc | apply Kd.R_drewN | apply Kd.R_drew)); exact HO_6.out) hb); have n1_ := Aside0.mk (Kd.R_below (by (with_reducible repeat (first | apply Kd.R_alloc | apply Kd.R_drewN | apply Kd.R_drew)); exact HO_7.out) hb); have n2_ := Aside0.mk (Kd.R_below (by (with_reducible repeat (first | apply Kd.R_alloc | apply Kd.R_drewN | apply Kd.R_drew)); exact HO_8.out) hb); have n3_ := Aside0.mk (Kd.R_below (by (with_reducible repeat (first | apply Kd.R_alloc | apply Kd.R_drewN | apply Kd.R_drew)); exact HO131.out) hb); have n4_ := Aside0.mk (blk_below (g := gb109) (o := .cells #[.int .i64 t102, .int .i64 t103, .int .i64 t104] 34 (0, 0)) (by (with_reducible repeat first | refine cA_ ?_ _ | refine cB_ ?_ | refine cC_ ?_ _); exact BK109.1) hb); have n5_ := Aside0.mk (below_step (by repeat first | exact HB.1 | apply bA_ | apply bB_ | apply bC_ | refine below_set ?_ GE109.out) hb); clear HO_6; clear HO_7; clear HO_8; clear HO131; clear BK109; clear HB; have HO_6 := n0_; have HO_7 := n1_; have HO_8 := n2_; have HO131 := n3_; have BK109 := n4_; have HB := n5_; clear n0_ n1_ n2_ n3_ n4_ n5_; (try clear hb); (try clear hb2); (try clear hk); (try clear hi); obtain ⟨Ao98, co98, eo98⟩ := Kd.R_slice HO_7.out; subst eo98) | (go_at_call 41; (with_reducible refine (impl_EraseLoops.calls kj7 _ _ t113 t140 _ ?side1 ?side2 A89.out).mono ?_); (case side1 => repeat (first | exact (Kd.R_reads' HO_7.out).2.2 | (with_reducible refine Kd.C_alloc ?_ _) | (with_reducible refine Kd.C_drewN ?_ _) | (with_reducible refine Kd.C_drew ?_))); (case side2 => exact (Kd.R_reads' HO_7.out).2.1); rintro e w99 ⟨v141, rfl, ho0, hb⟩; (try clear A89); have n0_ := Aside0.mk (Kd.R_elder' (by (with_reducible repeat (first | apply Kd.R_alloc | apply Kd.R_drewN | apply Kd.R_drew)); exact HO_6.out) (Kd.R_base ho0) hb); have n1_ := Aside0.mk (Kd.R_elder' (by (with_reducible repeat (first | apply Kd.R_alloc | apply Kd.R_drewN | apply Kd.R_drew)); exact HO_7.out) (Kd.R_base ho0) hb); have n2_ := Aside0.mk (Kd.R_elder' (by (with_reducible repeat (first | apply Kd.R_alloc | apply Kd.R_drewN | apply Kd.R_drew)); exact HO_8.out) (Kd.R_base ho0) hb); have n3_ := Aside0.mk (Kd.R_elder' (by (with_reducible repeat (first | apply Kd.R_alloc | apply Kd.R_drewN | apply Kd.R_drew)); exact HO131.out) (Kd.R_base ho0) hb); have n4_ := Aside0.mk (Kd.R_lower (Kd.R_new' (Kd.R_new' (Kd.R_new' (Kd.R_new' ho0 (Kd.R_lt (by (with_reducible repeat (first | apply Kd.R_alloc | apply Kd.R_drewN | apply Kd.R_drew)); exact HO_6.out))) (Kd.R_lt (by (with_reducible repeat (first | apply Kd.R_alloc | apply Kd.R_drewN | apply Kd.R_drew)); exact HO_7.out))) (Kd.R_lt (by (with_reducible repeat (first | apply Kd.R_alloc | apply Kd.R_drewN | apply Kd.R_drew)); exact HO_8.out))) (Kd.R_lt (by (with_reducible repeat (first | apply Kd.R_alloc | apply Kd.R_drewN | apply Kd.R_drew)); exact HO131.out))) (below_size (by repeat first | exact HB.1 | apply bA_ | apply bB_ | apply bC_ | refine below_set ?_ GE109.out))); have n5_ := Aside0.mk (blk_below (g := gb109) (o := .cells #[.int .i64 t102, .int .i64 t103, .int .i64 t104] 34 (0, 0)) (by (with_reducible repeat first | refine cA_ ?_ _ | refine cB_ ?_ | refine cC_ ?_ _); exact BK109.1) hb); have n6_ := Aside0.mk (below_step (by repeat first | exact HB.1 | apply bA_ | apply bB_ | apply bC_ | refine below_set ?_ GE109.out) hb); clear HO_6; clear HO_7; clear HO_8; clear HO131; clear BK109; clear HB; have HO_6 := n0_; have HO_7 := n1_; have HO_8 := n2_; have HO131 := n3_; have HO142 := n4_; have BK109 := n5_; have HB := n6_; clear n0_ n1_ n2_ n3_ n4_ n5_ n6_; (try clear hb); (try clear hb2); (try clear hk); (try clear hi); (try clear ho0); obtain ⟨Ao100, co100, eo100⟩ := Kd.R_slice HO142.out; subst eo100) | (go_at_call 47; (with_reducible refine (laws_sameInts.calls kj7 _ _ t140 _ _ t113 t143 _ ?side1 ?side2 ?side3 ?side4 A90.out).mono ?_); (case side1 => repeat (first | exact (Kd.R_reads' HO142.out).2.2 | (with_reducible refine Kd.C_alloc ?_ _) | (with_reducible refine Kd.C_drewN ?_ _) | (with_reducible refine Kd.C_drew ?_))); (case side2 => exact (Kd.R_reads' HO142.out).2.1); (case side3 => repeat (first | exact (Kd.R_reads' HO_7.out).2.2 | (with_reducible refine Kd.C_alloc ?_ _) | (with_reducible refine Kd.C_drewN ?_ _) | (with_reducible refine Kd.C_drew ?_))); (case side4 => exact (Kd.R_reads' HO_7.out).2.1); rintro e w' ⟨rfl, ⟨nd, rfl⟩⟩))
                go_ret
                exact ⟨by first | rfl | (simp [errW_none, errW_some] <;> rfl) | (simp only [← hji58]; first | rfl | (simp [errW_none, errW_some] <;> rfl)) | (simp [*, errW_none, errW_some] <;> rfl), by repeat (first | (with_reducible first | exact HB.out | apply below_alloc | apply pw_below_drewN | apply below_drew1 | refine below_set ?_ GE109.out) | exact HB.out)⟩
            · rw [if_neg c63] at H
              have c63b0 : (t126 == (rd t110 (ji58))) = false := beq_eq_false_iff_ne.mpr c63
              have c63b1 : (t126 != (rd t110 (ji58))) = true := bne_iff_ne.mpr c63
              obtain rfl := Option.some.inj H
              obtain ⟨hcz101_0, hcz101_1, hcz101_2⟩ := kk3_ BK109.1
              have hfz101_0 := blk_frozen BK109.out 0
              have hfz101_1 := blk_frozen BK109.out 1
              have hfz101_2 := blk_frozen BK109.out 2
              obtain ⟨Ao102, co102, eo102⟩ := Kd.R_slice HO_8.out
              subst eo102
              try go_wp2_with (first | ((with_reducible refine gate_callee (f := 44) rfl ?_); refine gl_ 93 Try.func44 #[.agg #[.int .i64 t102, .int .i64 t103, .int .i64 t104], .int .i64 t105, .slice Ao102 t116.length co102] ?_; (with_reducible refine (impl_WalkWay.calls kj7 t102 t103 t104 t105 _ _ t116 t126 true _ ?side1 ?side2 A57.out).mono ?_); (case side1 => repeat (first | exact (Kd.R_reads' HO_8.out).2.2 | (with_reducible refine Kd.C_alloc ?_ _) | (with_reducible refine Kd.C_drewN ?_ _) | (with_reducible refine Kd.C_drew ?_))); (case side2 => exact (Kd.R_reads' HO_8.out).2.1); rintro e w103 ⟨rfl, hb⟩; (try clear A57); refine ⟨_, rfl, ?_⟩; have n0_ := Aside0.mk (Kd.R_below (by (with_reducible repeat (first | apply Kd.R_alloc | apply Kd.R_drewN | apply Kd.R_drew)); exact HO_6.out) hb); have n1_ := Aside0.mk (Kd.R_below (by (with_reducible repeat (first | apply Kd.R_alloc | apply Kd.R_drewN | apply Kd.R_drew)); exact HO_7.out) hb); have n2_ := Aside0.mk (Kd.R_below (by (with_reducible repeat (first | apply Kd.R_alloc | apply Kd.R_drewN | apply Kd.R_drew)); exact HO_8.out) hb); have n3_ := Aside0.mk (blk_below (g := gb109) (o := .cells #[.int .i64 t102, .int .i64 t103, .int .i64 t104] 34 (0, 0)) (by (with_reducible repeat first | refine cA_ ?_ _ | refine cB_ ?_ | refine cC_ ?_ _); exact BK109.1) hb); have n4_ := Aside0.mk (below_step (by repeat first | exact HB.1 | apply bA_ | apply bB_ | apply bC_ | refine below_set ?_ GE109.out) hb); clear HO_6; clear HO_7; clear HO_8; clear BK109; clear HB; have HO_6 := n0_; have HO_7 := n1_; have HO_8 := n2_; have BK109 := n3_; have HB := n4_; clear n0_ n1_ n2_ n3_ n4_; (try clear hb); (try clear hb2); (try clear hk); (try clear hi)))
              have n0_ := Aside0.mk (Kd.R_drew HO_6.out)
              have n1_ := Aside0.mk (Kd.R_drew HO_7.out)
              have n2_ := Aside0.mk (Kd.R_drew HO_8.out)
              have n3_ := Aside0.mk (blk_drew BK109.out); have n4_ := Aside0.mk (below_drew1 HB.out); clear HO_6; clear HO_7; clear HO_8; clear BK109; clear HB; have HO_6 := n0_; have HO_7 := n1_; have HO_8 := n2_; have BK109 := n3_; have HB := n4_; clear n0_ n1_ n2_ n3_ n4_
              have p128 : 0 ≤ ((ji58) : Int) := of_decide_eq_true (by first | (with_reducible assumption) | assumption)
              have q128 : (ji58) < (t110.length : Int) := of_decide_eq_true (by first | (with_reducible assumption) | assumption)
              obtain ⟨ad128, e128, hx128_0⟩ := Kd.at_int (Kd.R_reads' HO_6.out).2.2 (ji58) p128 q128
              cases e128
              replace p128 := eq_true p128; replace q128 := eq_true q128
              refine start_ (n := 14) (S := fun w' => w'.cell? ⟨gb109, 0, none⟩ = some (.int .i64 t102) ∧ w'.cell? ⟨gb109, 1, none⟩ = some (.int .i64 t103) ∧ w'.cell? ⟨gb109, 2, none⟩ = some (.int .i64 t104) ∧ w'.cell? (ad128.add ((ji58)).toNat) = some (.int .i64 (rd t110 (ji58)))) (ds := []) #[false, false, false, false, false, false, false, false, false, false, false, false, false, false] (by kernel_rfl) rfl rfl ⟨(blk_cell BK109.out 0).trans rfl, (blk_cell BK109.out 1).trans rfl, (blk_cell BK109.out 2).trans rfl, hx128_0⟩ (fun hHeld => ?_); refine with_tabW laws_FnErased.tab10 laws_FnErased.bits10 (fun HT_ HW_ => ?_)
              generalize w103.drew = w104 at HO_6 HO_7 HO_8 BK109 HB hx128_0 hHeld ⊢; refine pv_ 1 98 HT_ ?_; refine pv_ 2 99 HT_ ?_; refine pv_ 3 100 HT_ ?_; refine pv_ 4 101 HT_ ?_; refine pv_ 5 102 HT_ ?_; refine pv_ 6 103 HT_ ?_; refine tv_ 0 97 rfl HT_ HW_ hHeld (by rintro w' ⟨s0, s1, s2, s3⟩; go_simp; with_reducible rfl) ?_
              refine tv_ 7 104 rfl HT_ HW_ hHeld (by rintro w' ⟨s0, s1, s2, s3⟩; go_simp; with_reducible rfl) ?_
              refine on_ 8 (some 105) rfl rfl HT_ (by kernel_rfl) (by decide) (fun K hK => ?_)
              refine goes_ Try.func45 (by kernel_rfl) rfl #[.agg #[.int .i64 t102, .int .i64 t103, .int .i64 t104], .int .i64 t105, .int .i64 (rd t110 (ji58))] (by rfl) rfl rfl (by (try simp only [List.map_toArray, List.map_cons, List.map_nil]); first | done | (simp only [hji58]; rfl) | rfl | (simp only [List.length_drop, List.length_take]; rfl)) ?_
              with_reducible refine (spec_WayBetween.calls kj7 t102 t103 t104 t105 (rd t110 (ji58)) t129 t132 _ A61.out).mono ?_
              rintro e w105 ⟨v130, rfl, ho0, hb⟩
              have HS3_ := (hb.cell (World.block_lt_of_cell? _ _ (hHeld.2.2.2))).trans (hHeld.2.2.2)
              refine ⟨_, rfl, ?_⟩
              have n0_ := Aside0.mk (Kd.R_elder' (by (with_reducible repeat (first | apply Kd.R_alloc | apply Kd.R_drewN | apply Kd.R_drew)); exact HO_6.out) (Kd.R_base ho0) hb)
              have n1_ := Aside0.mk (Kd.R_elder' (by (with_reducible repeat (first | apply Kd.R_alloc | apply Kd.R_drewN | apply Kd.R_drew)); exact HO_7.out) (Kd.R_base ho0) hb)
              have n2_ := Aside0.mk (Kd.R_elder' (by (with_reducible repeat (first | apply Kd.R_alloc | apply Kd.R_drewN | apply Kd.R_drew)); exact HO_8.out) (Kd.R_base ho0) hb)
              have n3_ := Aside0.mk (Kd.R_lower (Kd.R_new' (Kd.R_new' (Kd.R_new' ho0 (Kd.R_lt (by (with_reducible repeat (first | apply Kd.R_alloc | apply Kd.R_drewN | apply Kd.R_drew)); exact HO_6.out))) (Kd.R_lt (by (with_reducible repeat (first | apply Kd.R_alloc | apply Kd.R_drewN | apply Kd.R_drew)); exact HO_7.out))) (Kd.R_lt (by (with_reducible repeat (first | apply Kd.R_alloc | apply Kd.R_drewN | apply Kd.R_drew)); exact HO_8.out))) (below_size (by repeat first | exact HB.1 | apply bA_ | apply bB_ | apply bC_ | refine below_set ?_ GE109.out)))
              have n4_ := Aside0.mk (blk_below (g := gb109) (o := .cells #[.int .i64 t102, .int .i64 t103, .int .i64 t104] 34 (0, 0)) (by (with_reducible repeat first | refine cA_ ?_ _ | refine cB_ ?_ | refine cC_ ?_ _); exact BK109.1) hb)
              have n5_ := Aside0.mk (below_step (by repeat first | exact HB.1 | apply bA_ | apply bB_ | apply bC_ | refine below_set ?_ GE109.out) hb)
              clear HO_6; clear HO_7; clear HO_8; clear BK109; clear HB; have HO_6 := n0_; have HO_7 := n1_; have HO_8 := n2_; have HO131 := n3_; have BK109 := n4_; have HB := n5_; clear n0_ n1_ n2_ n3_ n4_ n5_; (try clear hb); (try clear hb2); (try clear hk); (try clear hi); (try clear ho0)
              refine hK.out _ _ ⟨(blk_cell BK109.out 0).trans rfl, (blk_cell BK109.out 1).trans rfl, (blk_cell BK109.out 2).trans rfl, HS3_⟩ (fun hHeld => ?_)
              clear hK K
              refine norm_ (a' := ?_) ?_ ?_; rotate_left; (show Act.put _ (some 105) _ = _; simp only [P6_]; rfl)
              refine pv_ 9 96 HT_ ?_; refine pv_ 10 106 HT_ ?_; refine pv_ 11 107 HT_ ?_; refine pv_ 12 12 HT_ ?_; refine pv_ 13 13 HT_ ?_
              refine done_ (done_of HT_.out (by kernel_rfl)) ?_
              have p133 : 0 ≤ ((ji58) : Int) := of_decide_eq_true (by first | (with_reducible assumption) | assumption)
              have q133 : (ji58) < (t110.length : Int) := of_decide_eq_true (by first | (with_reducible assumption) | assumption)
              obtain ⟨ad133, e133, hx133_0⟩ := Kd.at_int (Kd.R_reads' HO_6.out).2.2 (ji58) p133 q133
              obtain rfl : ad128 = ad133 := (by injection e133)
              replace p133 := eq_true p133; replace q133 := eq_true q133
              try go_wp2
              go_ret
              exact ⟨by first | rfl | (simp [errW_none, errW_some] <;> rfl) | (simp only [← hji58]; first | rfl | (simp [errW_none, errW_some] <;> rfl)) | (simp [*, errW_none, errW_some] <;> rfl), by repeat (first | (with_reducible first | exact HB.out | apply below_alloc | apply pw_below_drewN | apply below_drew1 | refine below_set ?_ GE109.out) | exact HB.out)⟩
          · rw [if_neg c62] at H; exact absurd H (by simp)

end Go.Proofs.Ytcajhmldbkfhiaa.P
namespace Go.Proofs.Ytcajhmldbkfhiaa.P
open Go.RowKit Go.Proofs.YtcajhmldbkfhiaaW.PrintWords
set_option linter.unusedVariables false
set_option linter.unusedSimpArgs false
section
variable {α β : Type}
theorem Ev.tt {c : Prop} [Decidable c] {g f : Nat → Option α} {r : α} (h : c) (e : Ev g r) : Ev (fun k => if c then g k else f k) r := by simpa only [if_pos h] using e
theorem Ev.ff {c : Prop} [Decidable c] {g f : Nat → Option α} {r : α} (h : ¬ c) (e : Ev f r) : Ev (fun k => if c then g k else f k) r := by simpa only [if_neg h] using e
theorem Ev.ite {c : Prop} [Decidable c] {g f : Nat → Option α} {r : α} (e1 : c → Ev g r) (e2 : ¬ c → Ev f r) : Ev (fun k => if c then g k else f k) r := by
  by_cases h : c
  · exact Ev.tt h (e1 h)
  · exact Ev.ff h (e2 h)
theorem Ev.bnd0 {o : Option α} {f : Nat → α → Option β} {a : α} {r : β} (h : o = some a) (k : Ev (fun n => f n a) r) : Ev (fun n => o.bind (f n)) r := by subst h; exact k
theorem Ev.ret {a r : α} (h : a = r) : Ev (fun _ => some a) r := ⟨0, fun _ _ => by rw [h]⟩
theorem Ev.eq {g : Nat → Option α} {r r' : α} (h : Ev g r) (e : r = r') : Ev g r' := e ▸ h
end
theorem wrap64_id {x : Int} (h0 : -9223372036854775808 ≤ x) (h1 : x ≤ 9223372036854775807) : wrap64 x = x := by unfold wrap64; omega
theorem wsucc {i : Nat} (h : i < 4611686018427387904) : wrap64 ((i : Int) + 1) = ((i + 1 : Nat) : Int) := by unfold wrap64; omega
theorem rd_nat (l : List Int) (i : Nat) : rd l (i : Int) = l.getD i 0 := rfl
theorem rd_get {l : List Int} {i : Nat} (h : i < l.length) : rd l (i : Int) = l[i] := by simp [rd_nat, List.getD_eq_getElem?_getD, List.getElem?_eq_getElem h]
end Go.Proofs.Ytcajhmldbkfhiaa.P
namespace Go.Proofs.Ytcajhmldbkfhiaa.P
open Go Go.RowKit Go.Proofs.YtcajhmldbkfhiaaW.PrintWords
set_option linter.unusedVariables false
set_option linter.unusedSimpArgs false

theorem wrap_small {n : Nat} (h : n < 9223372036854775808) : IntKind.i64.wrap (n : Int) = n := by
  rw [IntKind.wrap_i64]; omega
theorem shl_pow {k : Nat} (h : k < 63) : shl .i64 1 (k : Int) = ((2 ^ k : Nat) : Int) := by
  have h1 : (2 : Nat) ^ k < 2 ^ 63 := Nat.pow_lt_pow_right (by decide) h
  unfold shl
  rw [show min (k : Int).toNat IntKind.i64.bits = k by simp [IntKind.bits]; omega, Int.one_mul]
  have := wrap_small (n := 2 ^ k) (by simpa using h1)
  simpa using this
theorem bits_and {a b : Nat} (ha : a < 4611686018427387904) (hb : b < 4611686018427387904) : Go.bits .and .i64 a b = ((a &&& b : Nat) : Int) :=
  (bits_nat .i64 62 (by decide) (fun n h0 h1 => by rw [IntKind.wrap_i64]; omega) a b (by simpa using ha) (by simpa using hb)).1
theorem bits_or {a b : Nat} (ha : a < 4611686018427387904) (hb : b < 4611686018427387904) : Go.bits .or .i64 a b = ((a ||| b : Nat) : Int) :=
  (bits_nat .i64 62 (by decide) (fun n h0 h1 => by rw [IntKind.wrap_i64]; omega) a b (by simpa using ha) (by simpa using hb)).2
theorem bits_xor {a b : Nat} (ha : a < 4611686018427387904) (hb : b < 4611686018427387904) : Go.bits .xor .i64 a b = ((a ^^^ b : Nat) : Int) := by
  have e : (BitVec.ofInt 64 (a : Int) ^^^ BitVec.ofInt 64 (b : Int)).toNat = a ^^^ b := by
    rw [BitVec.ofInt_natCast, BitVec.ofInt_natCast, BitVec.toNat_xor, BitVec.toNat_ofNat, BitVec.toNat_ofNat, Nat.mod_eq_of_lt (by omega), Nat.mod_eq_of_lt (by omega)]
  show IntKind.i64.wrap ((BitVec.ofInt 64 (a : Int) ^^^ BitVec.ofInt 64 (b : Int)).toNat : Int) = _
  rw [e]
  exact wrap_small (Nat.lt_of_lt_of_le (Nat.xor_lt_two_pow (n := 62) (by simpa using ha) (by simpa using hb)) (by decide))
/-- a without the bits of b. -/
def andNot (a b : Nat) : Nat := a ^^^ (a &&& b)
theorem testBit_andNot (a b i : Nat) : (andNot a b).testBit i = (a.testBit i && !b.testBit i) := by
  simp [andNot]
  cases a.testBit i <;> cases b.testBit i <;> rfl
theorem andNot_le (a b : Nat) : andNot a b ≤ a := by
  apply Nat.le_of_testBit
  intro i h
  rw [testBit_andNot] at h
  simp at h
  exact h.1
theorem shr_nat {m : Nat} (hm : m < 4611686018427387904) (k : Nat) : shr .i64 (m : Int) (k : Int) = ((m / 2 ^ k : Nat) : Int) := by
  unfold shr
  by_cases h : k ≤ 64
  · rw [show min (k : Int).toNat IntKind.i64.bits = k by simp [IntKind.bits]; omega]
    simp
  · rw [show min (k : Int).toNat IntKind.i64.bits = 64 by simp [IntKind.bits]; omega]
    have h1 : m / 2 ^ k = 0 := Nat.div_eq_of_lt (Nat.lt_of_lt_of_le (by simpa using hm : m < 2 ^ 62) (Nat.pow_le_pow_right (by decide) (by omega)))
    rw [h1]
    have : (m : Int) / 2 ^ 64 = ((m / 2 ^ 64 : Nat) : Int) := by simp
    rw [this, Nat.div_eq_of_lt (by omega)]
/-- The test of a bit, as the program and the reference make it. -/
theorem bit_test {m : Nat} (hm : m < 4611686018427387904) (k : Nat) (c : Int) : (Go.bits .and .i64 (shr .i64 (m : Int) (k : Int)) 1 == c) = (((m.testBit k).toNat : Int) == c) := by
  rw [shr_nat hm, show (1 : Int) = ((1 : Nat) : Int) from rfl, bits_and (Nat.lt_of_le_of_lt (Nat.div_le_self _ _) hm) (by decide)]
  congr 2
  rw [Nat.testBit_eq_decide_div_mod_eq, Nat.and_one_is_mod]
  have := Nat.mod_two_eq_zero_or_one (m / 2 ^ k)
  rcases this with h | h <;> simp [h]
theorem bit_one {m : Nat} (hm : m < 4611686018427387904) (k : Nat) : (Go.bits .and .i64 (shr .i64 (m : Int) (k : Int)) 1 == 1) = m.testBit k := by
  rw [bit_test hm]
  cases m.testBit k <;> rfl
/-- A number with one bit set, or not. -/
def setB (o g : Nat) (b : Bool) : Nat := if b then o ||| 2 ^ g else andNot o (2 ^ g)
theorem testBit_setB (o g : Nat) (b : Bool) (i : Nat) : (setB o g b).testBit i = if i = g then b else o.testBit i := by
  unfold setB
  cases b
  · simp only [Bool.false_eq_true, if_false, testBit_andNot, Nat.testBit_two_pow]
    by_cases h : i = g
    · simp [h]
    · simp [h, show ¬ g = i from fun e => h e.symm]
  · simp only [if_true, Nat.testBit_or, Nat.testBit_two_pow]
    by_cases h : i = g
    · simp [h]
    · simp [h, show ¬ g = i from fun e => h e.symm]
theorem setB_lt {o g n : Nat} (b : Bool) (ho : o < 2 ^ n) (hg : g < n) : setB o g b < 2 ^ n := by
  unfold setB
  split
  · exact Nat.or_lt_two_pow ho (Nat.pow_lt_pow_right (by decide) hg)
  · exact Nat.lt_of_le_of_lt (andNot_le _ _) ho
end Go.Proofs.Ytcajhmldbkfhiaa.P
namespace Go.Proofs.Ytcajhmldbkfhiaa.P
open Go.RowKit Go.Proofs.YtcajhmldbkfhiaaW.PrintWords
set_option linter.unusedVariables false
set_option linter.unusedSimpArgs false

/-- The number of set bits of s under n. -/
def pop : Nat → Nat → Nat
  | 0, _ => 0
  | n + 1, s => pop n s + (s.testBit n).toNat
theorem pop_le (n s : Nat) : pop n s ≤ n := by
  induction n with
  | zero => simp [pop]
  | succ n ih => simp only [pop]; have := Bool.toNat_le (s.testBit n); omega
theorem pop_congr {n s t : Nat} (h : ∀ i, i < n → s.testBit i = t.testBit i) : pop n s = pop n t := by
  induction n with
  | zero => rfl
  | succ n ih => simp only [pop]; rw [ih (fun i hi => h i (by omega)), h n (by omega)]
/-- A valid grid. -/
def gridOk (w h : Int) : Bool := decide (1 ≤ w ∧ w ≤ 4 ∧ 1 ≤ h ∧ h ≤ 4)
theorem gridOk_iff {w h : Int} : gridOk w h = true ↔ 1 ≤ w ∧ w ≤ 4 ∧ 1 ≤ h ∧ h ≤ 4 := by simp [gridOk]
/-- The sixteen grids. -/
theorem grid_cases {w h : Int} (hg : gridOk w h = true) : (w = 1 ∨ w = 2 ∨ w = 3 ∨ w = 4) ∧ (h = 1 ∨ h = 2 ∨ h = 3 ∨ h = 4) := by
  rw [gridOk_iff] at hg
  omega
def cellsOf (w h : Int) : Int := if gridOk w h then w * h else 0
def eastOf (w h : Int) : Int := (w - 1) * h
def gapsOf (w h : Int) : Int := if gridOk w h then (w - 1) * h + w * (h - 1) else 0
theorem cellsOf_range (w h : Int) : 0 ≤ cellsOf w h ∧ cellsOf w h ≤ 16 := by
  unfold cellsOf
  split
  · rename_i hg
    obtain ⟨h1 | h1 | h1 | h1, h2 | h2 | h2 | h2⟩ := grid_cases hg <;> subst h1 <;> subst h2 <;> decide
  · omega
theorem gapsOf_range (w h : Int) : 0 ≤ gapsOf w h ∧ gapsOf w h ≤ 24 := by
  unfold gapsOf
  split
  · rename_i hg
    obtain ⟨h1 | h1 | h1 | h1, h2 | h2 | h2 | h2⟩ := grid_cases hg <;> subst h1 <;> subst h2 <;> decide
  · omega
theorem pow_le {n : Int} (h0 : 0 ≤ n) (h1 : n ≤ 24) : (1 : Int) ≤ 2 ^ n.toNat ∧ (2 : Int) ^ n.toNat ≤ 16777216 := by
  obtain ⟨m, rfl⟩ := Int.eq_ofNat_of_zero_le h0
  have : m ≤ 24 := by omega
  clear h0 h1
  revert m
  decide +kernel
def isCellI (w h c : Int) : Bool := decide (0 ≤ c ∧ c < cellsOf w h)
/-- The neighbor of a cell in a direction. -/
def nbI (w h c d : Int) : Int :=
  if 0 ≤ c ∧ c < cellsOf w h then
    (if d = 0 ∧ 0 < c / w then c - w else if d = 1 ∧ c % w < w - 1 then c + 1 else if d = 2 ∧ c / w < h - 1 then c + w else if d = 3 ∧ 0 < c % w then c - 1 else -1)
  else -1
theorem cellsOf_valid {w h c : Int} (h1 : 0 ≤ c) (h2 : c < cellsOf w h) : gridOk w h = true ∧ cellsOf w h = w * h := by
  unfold cellsOf at *
  by_cases hg : gridOk w h = true
  · exact ⟨hg, if_pos hg⟩
  · rw [if_neg hg] at h2; omega
/-- The number of gaps, as a natural number. -/
def gapsN (w h : Int) : Nat := (gapsOf w h).toNat
theorem gapsN_le (w h : Int) : gapsN w h ≤ 24 := by have := gapsOf_range w h; unfold gapsN; omega
theorem gapsN_cast (w h : Int) : ((gapsN w h : Nat) : Int) = gapsOf w h := by have := gapsOf_range w h; unfold gapsN; omega
/-- A valid maze. -/
def mazeOk (w h o : Int) : Bool := gridOk w h && decide (0 ≤ o ∧ o < 2 ^ gapsN w h)
theorem mazeOk_iff {w h o : Int} : mazeOk w h o = true ↔ gridOk w h = true ∧ ∃ n : Nat, o = (n : Int) ∧ n < 2 ^ gapsN w h := by
  unfold mazeOk
  simp only [Bool.and_eq_true, decide_eq_true_eq]
  constructor
  · rintro ⟨h1, h2, h3⟩
    obtain ⟨n, rfl⟩ := Int.eq_ofNat_of_zero_le h2
    exact ⟨h1, n, rfl, by exact_mod_cast h3⟩
  · rintro ⟨h1, n, rfl, h3⟩
    exact ⟨h1, by omega, by exact_mod_cast h3⟩
theorem open_small {w h : Int} {n : Nat} (hn : n < 2 ^ gapsN w h) : n < 16777216 := Nat.lt_of_lt_of_le hn (Nat.pow_le_pow_right (by decide) (gapsN_le w h))
/-- Is a gap open? -/
def openI (n : Nat) (g : Int) : Bool := decide (0 ≤ g) && n.testBit g.toNat
theorem openI_nat' (n j : Nat) : openI n (j : Int) = n.testBit j := by simp [openI]
def isGapI (w h g : Int) : Bool := decide (0 ≤ g ∧ g < gapsOf w h)
theorem open_isGap {w h g : Int} {n : Nat} (hn : n < 2 ^ gapsN w h) (ho : openI n g = true) : isGapI w h g = true := by
  unfold openI isGapI at *
  simp only [Bool.and_eq_true, decide_eq_true_eq] at *
  have : g.toNat < gapsN w h := by
    rcases Nat.lt_or_ge g.toNat (gapsN w h) with h1 | h1
    · exact h1
    · rw [Nat.testBit_lt_two_pow (Nat.lt_of_lt_of_le hn (Nat.pow_le_pow_right (by decide) h1))] at ho
      exact absurd ho.2 (by decide)
  have := gapsN_cast w h
  omega
theorem gapsOf_valid {w h g : Int} (h1 : 0 ≤ g) (h2 : g < gapsOf w h) : gridOk w h = true ∧ gapsOf w h = (w - 1) * h + w * (h - 1) := by
  unfold gapsOf at *
  by_cases hg : gridOk w h = true
  · exact ⟨hg, if_pos hg⟩
  · rw [if_neg hg] at h2; omega
/-- The gap between a cell and its neighbor. -/
def gapI (w h c d : Int) : Int :=
  if nbI w h c d < 0 then -1 else if d = 1 ∨ d = 3 then (min c (nbI w h c d)) / w * (w - 1) + (min c (nbI w h c d)) % w else (w - 1) * h + min c (nbI w h c d)
/-- The ends of a gap. -/
def endsI (w h g : Int) : Int × Int :=
  if 0 ≤ g ∧ g < gapsOf w h then (if g < (w - 1) * h then (g / (w - 1) * w + g % (w - 1), g / (w - 1) * w + g % (w - 1) + 1) else (g - (w - 1) * h, g - (w - 1) * h + w)) else (-1, -1)
theorem nb_dir {w h c d : Int} (hn : 0 ≤ nbI w h c d) : (d = 0 ∨ d = 1 ∨ d = 2 ∨ d = 3) ∧ 0 ≤ c ∧ c < cellsOf w h := by
  unfold nbI at hn
  by_cases hc : 0 ≤ c ∧ c < cellsOf w h
  · rw [if_pos hc] at hn
    refine ⟨?_, hc⟩
    repeat' split at hn
    all_goals omega
  · rw [if_neg hc] at hn
    omega
theorem grid_nat {w h : Int} (hg : gridOk w h = true) : ∃ W H : Nat, w = W ∧ h = H ∧ 1 ≤ W ∧ W < 5 ∧ 1 ≤ H ∧ H < 5 := by
  have := gridOk_iff.1 hg
  exact ⟨w.toNat, h.toNat, by omega, by omega, by omega, by omega, by omega, by omega⟩
/-- What is to be known of a step: the other cell, the gap, and the way back. -/
def StepFacts (w h c d : Int) : Prop :=
  nbI w h c d = -1 ∧ gapI w h c d = -1 ∨
  (0 ≤ nbI w h c d ∧ nbI w h c d < cellsOf w h ∧ nbI w h c d ≠ c ∧ 0 ≤ gapI w h c d ∧ gapI w h c d < gapsOf w h ∧
    endsI w h (gapI w h c d) = (min c (nbI w h c d), max c (nbI w h c d)) ∧ nbI w h (nbI w h c d) ((d + 2) % 4) = c ∧ gapI w h (nbI w h c d) ((d + 2) % 4) = gapI w h c d)
instance (w h c d : Int) : Decidable (StepFacts w h c d) := by unfold StepFacts; infer_instance
theorem step_facts_all : ∀ W : Nat, W < 5 → ∀ H : Nat, H < 5 → ∀ c : Nat, c < 16 → ∀ d : Nat, d < 4 → StepFacts W H c d := by decide +kernel
theorem step_facts (w h c d : Int) : StepFacts w h c d := by
  by_cases hn : 0 ≤ nbI w h c d
  · obtain ⟨hd, h0, h1⟩ := nb_dir hn
    obtain ⟨hg, hcw⟩ := cellsOf_valid h0 h1
    obtain ⟨W, H, rfl, rfl, hW1, hW2, hH1, hH2⟩ := grid_nat hg
    have hcr := cellsOf_range (W : Int) (H : Int)
    have := step_facts_all W hW2 H hH2 c.toNat (by omega) d.toNat (by omega)
    rwa [show ((c.toNat : Nat) : Int) = c by omega, show ((d.toNat : Nat) : Int) = d by omega] at this
  · have hm : nbI w h c d = -1 := by
      unfold nbI at *
      by_cases hc : 0 ≤ c ∧ c < cellsOf w h
      · rw [if_pos hc] at *
        obtain ⟨hg, hcw⟩ := cellsOf_valid hc.1 hc.2
        have hgr := gridOk_iff.1 hg
        have hyw : c / w * w + c % w = c := by rw [Int.mul_comm]; exact Int.mul_ediv_add_emod c w
        have hx0 : 0 ≤ c % w := Int.emod_nonneg _ (by omega)
        repeat' split
        · rename_i hh
          rw [if_pos hh] at hn
          have : w ≤ c := by
            have : w * 1 ≤ w * (c / w) := Int.mul_le_mul_of_nonneg_left (by omega) (by omega)
            rw [Int.mul_comm (c / w)] at hyw
            omega
          omega
        · rename_i h1 hh
          rw [if_neg h1, if_pos hh] at hn
          omega
        · rename_i h1 h2 hh
          rw [if_neg h1, if_neg h2, if_pos hh] at hn
          omega
        · rename_i h1 h2 h3 hh
          rw [if_neg h1, if_neg h2, if_neg h3, if_pos hh] at hn
          have : 1 ≤ c := by
            have : 0 ≤ c / w * w := Int.mul_nonneg (Int.ediv_nonneg hc.1 (by omega)) (by omega)
            omega
          omega
        · rfl
      · rw [if_neg hc]
    refine .inl ⟨hm, ?_⟩
    unfold gapI
    rw [if_pos (by omega)]
def EndFacts (w h g : Int) : Prop :=
  0 ≤ g ∧ g < gapsOf w h → 0 ≤ (endsI w h g).1 ∧ (endsI w h g).1 < (endsI w h g).2 ∧ (endsI w h g).2 < cellsOf w h ∧
    (nbI w h (endsI w h g).1 1 = (endsI w h g).2 ∧ gapI w h (endsI w h g).1 1 = g ∨ nbI w h (endsI w h g).1 2 = (endsI w h g).2 ∧ gapI w h (endsI w h g).1 2 = g)
instance (w h g : Int) : Decidable (EndFacts w h g) := by unfold EndFacts; infer_instance
theorem end_facts_all : ∀ W : Nat, W < 5 → ∀ H : Nat, H < 5 → ∀ g : Nat, g < 24 → EndFacts W H g := by decide +kernel
theorem end_facts {w h g : Int} (h0 : 0 ≤ g) (h1 : g < gapsOf w h) : 0 ≤ (endsI w h g).1 ∧ (endsI w h g).1 < (endsI w h g).2 ∧ (endsI w h g).2 < cellsOf w h ∧
    (nbI w h (endsI w h g).1 1 = (endsI w h g).2 ∧ gapI w h (endsI w h g).1 1 = g ∨ nbI w h (endsI w h g).1 2 = (endsI w h g).2 ∧ gapI w h (endsI w h g).1 2 = g) := by
  obtain ⟨hg, _⟩ := gapsOf_valid h0 h1
  obtain ⟨W, H, rfl, rfl, hW1, hW2, hH1, hH2⟩ := grid_nat hg
  have hr := gapsOf_range (W : Int) (H : Int)
  have := end_facts_all W hW2 H hH2 g.toNat (by omega)
  rw [show ((g.toNat : Nat) : Int) = g by omega] at this
  exact this ⟨h0, h1⟩
theorem nb_lt {w h c d : Int} : nbI w h c d = -1 ∨ 0 ≤ nbI w h c d ∧ nbI w h c d < cellsOf w h := by
  rcases step_facts w h c d with h1 | h1
  · exact .inl h1.1
  · exact .inr ⟨h1.1, h1.2.1⟩
/-- The cell behind an open gap, or -1. -/
def stepI (w h : Int) (n : Nat) (c d : Int) : Int := if openI n (gapI w h c d) then nbI w h c d else -1
theorem step_lt {w h c d : Int} {n : Nat} : stepI w h n c d = -1 ∨ 0 ≤ stepI w h n c d ∧ stepI w h n c d < cellsOf w h := by
  unfold stepI
  split
  · exact nb_lt
  · exact .inl rfl
/-- Connected by the edges of n. -/
inductive Cn (e : Nat → Nat × Nat) (n : Nat) : Nat → Nat → Prop
  | refl (x : Nat) : Cn e n x x
  | fwd {x : Nat} (k : Nat) : n.testBit k = true → Cn e n x (e k).1 → Cn e n x (e k).2
  | bwd {x : Nat} (k : Nat) : n.testBit k = true → Cn e n x (e k).2 → Cn e n x (e k).1
theorem Cn.trans {e : Nat → Nat × Nat} {n x y z : Nat} (h : Cn e n x y) (g : Cn e n y z) : Cn e n x z := by
  induction g with
  | refl => exact h
  | fwd k hk _ ih => exact .fwd k hk ih
  | bwd k hk _ ih => exact .bwd k hk ih
theorem Cn.edge {e : Nat → Nat × Nat} {n k : Nat} (h : n.testBit k = true) : Cn e n (e k).1 (e k).2 := .fwd k h (.refl _)
theorem Cn.edge' {e : Nat → Nat × Nat} {n k : Nat} (h : n.testBit k = true) : Cn e n (e k).2 (e k).1 := .bwd k h (.refl _)
theorem Cn.symm {e : Nat → Nat × Nat} {n x y : Nat} (h : Cn e n x y) : Cn e n y x := by
  induction h with
  | refl => exact .refl _
  | fwd k hk _ ih => exact (Cn.edge' hk).trans ih
  | bwd k hk _ ih => exact (Cn.edge hk).trans ih
theorem Cn.mono {e : Nat → Nat × Nat} {n m x y : Nat} (hm : ∀ i, n.testBit i = true → m.testBit i = true) (h : Cn e n x y) : Cn e m x y := by
  induction h with
  | refl => exact .refl _
  | fwd k hk _ ih => exact .fwd k (hm k hk) ih
  | bwd k hk _ ih => exact .bwd k (hm k hk) ih
theorem Cn_add {e : Nat → Nat × Nat} {n k x y : Nat} : Cn e (setB n k true) x y ↔ Cn e n x y ∨ (Cn e n x (e k).1 ∧ Cn e n (e k).2 y) ∨ (Cn e n x (e k).2 ∧ Cn e n (e k).1 y) := by
  have hm : ∀ i, n.testBit i = true → (setB n k true).testBit i = true := fun i hi => by rw [testBit_setB]; split <;> simp [hi]
  have hk : (setB n k true).testBit k = true := by rw [testBit_setB]; simp
  constructor
  · intro h
    induction h with
    | refl => exact .inl (.refl _)
    | fwd j hj _ ih =>
      rw [testBit_setB] at hj
      by_cases e1 : j = k
      · subst e1
        rcases ih with ih | ⟨h1, h2⟩ | ⟨h1, h2⟩
        · exact .inr (.inl ⟨ih, .refl _⟩)
        · exact .inr (.inl ⟨h1, .refl _⟩)
        · exact .inl h1
      · rw [if_neg e1] at hj
        rcases ih with ih | ⟨h1, h2⟩ | ⟨h1, h2⟩
        · exact .inl (.fwd j hj ih)
        · exact .inr (.inl ⟨h1, .fwd j hj h2⟩)
        · exact .inr (.inr ⟨h1, .fwd j hj h2⟩)
    | bwd j hj _ ih =>
      rw [testBit_setB] at hj
      by_cases e1 : j = k
      · subst e1
        rcases ih with ih | ⟨h1, h2⟩ | ⟨h1, h2⟩
        · exact .inr (.inr ⟨ih, .refl _⟩)
        · exact .inl h1
        · exact .inr (.inr ⟨h1, .refl _⟩)
      · rw [if_neg e1] at hj
        rcases ih with ih | ⟨h1, h2⟩ | ⟨h1, h2⟩
        · exact .inl (.bwd j hj ih)
        · exact .inr (.inl ⟨h1, .bwd j hj h2⟩)
        · exact .inr (.inr ⟨h1, .bwd j hj h2⟩)
  · rintro (h | ⟨h1, h2⟩ | ⟨h1, h2⟩)
    · exact h.mono hm
    · exact ((h1.mono hm).trans (Cn.edge hk)).trans (h2.mono hm)
    · exact ((h1.mono hm).trans (Cn.edge' hk)).trans (h2.mono hm)
theorem Cn_zero {e : Nat → Nat × Nat} {x y : Nat} : Cn e 0 x y ↔ x = y := by
  constructor
  · intro h
    induction h with
    | refl => rfl
    | fwd k hk => simp at hk
    | bwd k hk => simp at hk
  · rintro rfl; exact .refl _
/-- The first k bits of n. -/
def low (n k : Nat) : Nat := n % 2 ^ k
theorem testBit_low (n k i : Nat) : (low n k).testBit i = (decide (i < k) && n.testBit i) := Nat.testBit_mod_two_pow ..
theorem low_all {n k : Nat} (h : n < 2 ^ k) : low n k = n := Nat.mod_eq_of_lt h
theorem low_succ_set {n k : Nat} (h : n.testBit k = true) : low n (k + 1) = setB (low n k) k true := by
  apply Nat.eq_of_testBit_eq
  intro i
  rw [testBit_setB, testBit_low, testBit_low]
  by_cases e : i = k
  · subst e; simp [h]
  · rw [if_neg e]
    congr 1
    rw [decide_eq_decide]; omega
theorem low_succ_not {n k : Nat} (h : n.testBit k = false) : low n (k + 1) = low n k := by
  apply Nat.eq_of_testBit_eq
  intro i
  rw [testBit_low, testBit_low]
  by_cases e : i = k
  · subst e; simp [h]
  · congr 1
    rw [decide_eq_decide]; omega
/-- The least vertex of the part of v, by the first k edges. -/
def lab (e : Nat → Nat × Nat) (n : Nat) : Nat → Nat → Nat
  | 0, v => v
  | k + 1, v =>
    if n.testBit k = true then
      (if lab e n k v = max (lab e n k (e k).1) (lab e n k (e k).2) then min (lab e n k (e k).1) (lab e n k (e k).2) else lab e n k v)
    else lab e n k v
theorem lab_facts (e : Nat → Nat × Nat) (n : Nat) : ∀ k, (∀ v, lab e n k v ≤ v ∧ lab e n k (lab e n k v) = lab e n k v) ∧ ∀ x y, lab e n k x = lab e n k y ↔ Cn e (low n k) x y
  | 0 => by
    refine ⟨fun v => ⟨Nat.le_refl _, rfl⟩, fun x y => ?_⟩
    have : low n 0 = 0 := by unfold low; simp [Nat.mod_one]
    rw [this, Cn_zero]
    rfl
  | k + 1 => by
    obtain ⟨h1, h2⟩ := lab_facts e n k
    cases hb : n.testBit k with
    | false =>
      simp only [lab, hb, Bool.false_eq_true, if_false]
      rw [low_succ_not hb]
      exact ⟨h1, h2⟩
    | true =>
      simp only [lab, hb, if_true]
      rw [low_succ_set hb]
      refine ⟨fun v => ?_, fun x y => ?_⟩
      · have a1 := h1 v
        have a2 := h1 (e k).1
        have a3 := h1 (e k).2
        grind
      · rw [Cn_add, ← h2, ← h2, ← h2, ← h2, ← h2]
        grind
/-- Tells whether a vertex is the least of its part. -/
theorem lab_le (e : Nat → Nat × Nat) (n k v : Nat) : lab e n k v ≤ v := ((lab_facts e n k).1 v).1
theorem lab_lab (e : Nat → Nat × Nat) (n k v : Nat) : lab e n k (lab e n k v) = lab e n k v := ((lab_facts e n k).1 v).2
theorem lab_iff {e : Nat → Nat × Nat} {n k : Nat} (hn : n < 2 ^ k) (x y : Nat) : lab e n k x = lab e n k y ↔ Cn e n x y := by
  have := (lab_facts e n k).2 x y
  rwa [low_all hn] at this
theorem lab_least {e : Nat → Nat × Nat} {n k : Nat} (hn : n < 2 ^ k) {x y : Nat} (h : Cn e n x y) : lab e n k x ≤ y := by
  rw [(lab_iff hn x y).2 h]
  exact lab_le ..
theorem lab_cn {e : Nat → Nat × Nat} {n k : Nat} (hn : n < 2 ^ k) (x : Nat) : Cn e n x (lab e n k x) := (lab_iff hn _ _).1 (lab_lab ..).symm
/-- How many of the numbers under v. -/
def cnt (p : Nat → Bool) : Nat → Nat
  | 0 => 0
  | v + 1 => cnt p v + (p v).toNat
theorem cnt_congr {p q : Nat → Bool} {v : Nat} (h : ∀ i, i < v → p i = q i) : cnt p v = cnt q v := by
  induction v with
  | zero => rfl
  | succ n ih => simp only [cnt]; rw [ih (fun i hi => h i (by omega)), h n (by omega)]
theorem cnt_one {p q : Nat → Bool} {v m : Nat} (hm : m < v) (h1 : p m = true) (h2 : q m = false) (h : ∀ i, i < v → i ≠ m → p i = q i) : cnt p v = cnt q v + 1 := by
  induction v with
  | zero => omega
  | succ n ih =>
    simp only [cnt]
    by_cases e : m = n
    · subst e
      rw [cnt_congr (q := q) (fun i hi => h i (by omega) (by omega)), h1, h2]
      simp
    · rw [ih (by omega) (fun i hi hne => h i (by omega) hne), h n (by omega) (fun e' => e e'.symm)]
      omega
/-- The number of parts of v vertices, by k edges. -/
def parts (e : Nat → Nat × Nat) (v k n : Nat) : Nat := cnt (fun c => lab e n k c == c) v
theorem rep_iff {e : Nat → Nat × Nat} {n k : Nat} (hn : n < 2 ^ k) (c : Nat) : (lab e n k c == c) = true ↔ ∀ y, Cn e n c y → c ≤ y := by
  rw [beq_iff_eq]
  constructor
  · intro h y hy
    have := lab_least hn hy
    omega
  · intro h
    have := h _ (lab_cn hn c)
    have := lab_le e n k c
    omega
theorem parts_zero (e : Nat → Nat × Nat) (v k : Nat) : parts e v k 0 = v := by
  have : ∀ k c, lab e 0 k c = c := by
    intro k
    induction k with
    | zero => intro c; rfl
    | succ k ih => intro c; simp [lab, ih]
  unfold parts
  simp only [this, beq_self_eq_true]
  induction v with
  | zero => rfl
  | succ n ih => simp only [cnt]; rw [ih]; rfl
/-- One more edge joins two parts, or none. -/
theorem parts_add {e : Nat → Nat × Nat} {v k n j : Nat} (hn : n < 2 ^ k) (hj : j < k) (h1 : (e j).1 < v) (h2 : (e j).2 < v) :
    (Cn e n (e j).1 (e j).2 → parts e v k (setB n j true) = parts e v k n) ∧ (¬ Cn e n (e j).1 (e j).2 → parts e v k n = parts e v k (setB n j true) + 1) := by
  have hn' : setB n j true < 2 ^ k := setB_lt true hn hj
  constructor
  · intro hc
    unfold parts
    refine cnt_congr fun c hcv => ?_
    rw [Bool.eq_iff_iff, rep_iff hn, rep_iff hn']
    simp only [Cn_add]
    constructor
    · intro h y hy; exact h y (.inl hy)
    · rintro h y (hy | ⟨ha, hb⟩ | ⟨ha, hb⟩)
      · exact h y hy
      · exact h y ((ha.trans hc).trans hb)
      · exact h y ((ha.trans hc.symm).trans hb)
  · intro hc
    have hne : lab e n k (e j).1 ≠ lab e n k (e j).2 := fun h => hc ((lab_iff hn _ _).1 h)
    have l1 := lab_le e n k (e j).1
    have l2 := lab_le e n k (e j).2
    have c1 := lab_cn (e := e) hn (e j).1
    have c2 := lab_cn (e := e) hn (e j).2
    unfold parts
    refine cnt_one (m := max (lab e n k (e j).1) (lab e n k (e j).2)) (by omega) ?_ ?_ ?_
    · have := lab_lab e n k (e j).1
      have := lab_lab e n k (e j).2
      rw [beq_iff_eq]
      rcases Nat.le_total (lab e n k (e j).1) (lab e n k (e j).2) with hle | hle
      · rw [Nat.max_eq_right hle]; assumption
      · rw [Nat.max_eq_left hle]; assumption
    · rw [Bool.eq_false_iff]
      intro h
      rw [rep_iff hn'] at h
      rcases Nat.le_total (lab e n k (e j).1) (lab e n k (e j).2) with hle | hle
      · rw [Nat.max_eq_right hle] at h
        have := h (lab e n k (e j).1) (Cn_add.2 (.inr (.inr ⟨c2.symm, c1⟩)))
        omega
      · rw [Nat.max_eq_left hle] at h
        have := h (lab e n k (e j).2) (Cn_add.2 (.inr (.inl ⟨c1.symm, c2⟩)))
        omega
    · intro c hcv hcm
      rw [Bool.eq_iff_iff, rep_iff hn, rep_iff hn']
      simp only [Cn_add]
      constructor
      · rintro h y (hy | ⟨ha, hb⟩ | ⟨ha, hb⟩)
        · exact h y hy
        · have e1 : lab e n k (e j).1 = c := by
            have := h _ (ha.trans c1)
            have := lab_least (e := e) hn ha.symm
            omega
          have := lab_least (e := e) hn hb
          have := lab_le e n k c
          omega
        · have e1 : lab e n k (e j).2 = c := by
            have := h _ (ha.trans c2)
            have := lab_least (e := e) hn ha.symm
            omega
          have := lab_least (e := e) hn hb
          omega
      · intro h y hy; exact h y (.inl hy)
theorem pop_setB {m n j : Nat} (hj : j < m) (h : n.testBit j = false) : pop m (setB n j true) = pop m n + 1 := by
  induction m with
  | zero => omega
  | succ m ih =>
    simp only [pop]
    by_cases e : j = m
    · subst e
      rw [pop_congr (t := n) (fun i hi => by rw [testBit_setB, if_neg (by omega)]), testBit_setB, if_pos rfl, h]
      simp
    · rw [ih (by omega), testBit_setB, if_neg (by omega)]
      omega
theorem setB_off_on {n j : Nat} (h : n.testBit j = true) : setB (setB n j false) j true = n := by
  apply Nat.eq_of_testBit_eq
  intro i
  rw [testBit_setB, testBit_setB]
  by_cases e : i = j
  · subst e; simp [h]
  · simp [e]
theorem setB_bit (n j : Nat) (b : Bool) : (setB n j b).testBit j = b := by rw [testBit_setB, if_pos rfl]
theorem setB_ne {n j i : Nat} (b : Bool) (h : i ≠ j) : (setB n j b).testBit i = n.testBit i := by rw [testBit_setB, if_neg h]
/-- A statement over masks, from none on, an edge at a time. -/
theorem mask_induction {P : Nat → Prop} {k : Nat} (h0 : P 0) (hs : ∀ n j, n < 2 ^ k → j < k → n.testBit j = false → P n → P (setB n j true)) : ∀ n, n < 2 ^ k → P n := by
  intro n hn
  have : ∀ d, d ≤ k → P (low n d) := by
    intro d
    induction d with
    | zero => intro _; have : low n 0 = 0 := by unfold low; simp [Nat.mod_one]
              rw [this]; exact h0
    | succ d ih =>
      intro hd
      cases hb : n.testBit d with
      | false => rw [low_succ_not hb]; exact ih (by omega)
      | true =>
        rw [low_succ_set hb]
        refine hs _ _ (Nat.lt_of_le_of_lt (Nat.mod_le _ _) hn) (by omega) ?_ (ih (by omega))
        rw [testBit_low]; simp
  have := this k (Nat.le_refl k)
  rwa [low_all hn] at this
/-- A graph: the ends of its edges are vertices. -/
def Gr (e : Nat → Nat × Nat) (v k : Nat) : Prop := ∀ j, j < k → (e j).1 < v ∧ (e j).2 < v
/-- The number of loops is no number under 0. -/
theorem loops_nonneg {e : Nat → Nat × Nat} {v k : Nat} (hg : Gr e v k) : ∀ n, n < 2 ^ k → v ≤ pop k n + parts e v k n := by
  refine mask_induction ?_ ?_
  · rw [parts_zero]; omega
  · intro n j hn hj hb ih
    have hp := parts_add (e := e) hn hj (hg j hj).1 (hg j hj).2
    rw [pop_setB hj hb]
    by_cases hc : Cn e n (e j).1 (e j).2
    · rw [hp.1 hc]; omega
    · have := hp.2 hc; omega
theorem lt_of_testBit {n k j : Nat} (hn : n < 2 ^ k) (h : n.testBit j = true) : j < k := by
  rcases Nat.lt_or_ge j k with h1 | h1
  · exact h1
  · rw [Nat.testBit_lt_two_pow (Nat.lt_of_lt_of_le hn (Nat.pow_le_pow_right (by decide) h1))] at h
    cases h
/-- Taking an edge away. -/
theorem parts_del {e : Nat → Nat × Nat} {v k n j : Nat} (hg : Gr e v k) (hn : n < 2 ^ k) (hb : n.testBit j = true) :
    pop k n = pop k (setB n j false) + 1 ∧ (Cn e (setB n j false) (e j).1 (e j).2 → parts e v k (setB n j false) = parts e v k n) ∧ (¬ Cn e (setB n j false) (e j).1 (e j).2 → parts e v k (setB n j false) = parts e v k n + 1) := by
  have hj := lt_of_testBit hn hb
  have hp := parts_add (e := e) (setB_lt false hn hj) hj (hg j hj).1 (hg j hj).2
  have h2 := pop_setB (m := k) (n := setB n j false) hj (setB_bit ..)
  rw [setB_off_on hb] at hp h2
  exact ⟨h2, fun h => (hp.1 h).symm, hp.2⟩
/-- No loops: every edge is a bridge. -/
theorem bridge_of_forest {e : Nat → Nat × Nat} {v k n j : Nat} (hg : Gr e v k) (hn : n < 2 ^ k) (hf : pop k n + parts e v k n = v) (hb : n.testBit j = true) : ¬ Cn e (setB n j false) (e j).1 (e j).2 := by
  intro hc
  obtain ⟨h1, h2, _⟩ := parts_del hg hn hb
  have := h2 hc
  have := loops_nonneg hg (setB n j false) (setB_lt false hn (lt_of_testBit hn hb))
  omega
/-- One part: all are connected. -/
theorem parts_one {e : Nat → Nat × Nat} {v k n : Nat} (hn : n < 2 ^ k) (hv : 0 < v) : parts e v k n = 1 ↔ ∀ x, x < v → Cn e n 0 x := by
  have h0 : (lab e n k 0 == 0) = true := by have := lab_le e n k 0; rw [beq_iff_eq]; omega
  have hq : cnt (fun c => c == 0) v = 1 := by
    obtain ⟨v, rfl⟩ : ∃ u, v = u + 1 := ⟨v - 1, by omega⟩
    clear hv
    induction v with
    | zero => rfl
    | succ v ih => simp only [cnt] at *; rw [ih]; simp
  constructor
  · intro h x hx
    have hl := lab_lab e n k x
    have hle := lab_le e n k x
    have hxc := lab_cn (e := e) hn x
    by_cases hz : lab e n k x = 0
    · rw [hz] at hxc; exact hxc.symm
    · exfalso
      unfold parts at h
      have : 2 ≤ cnt (fun c => lab e n k c == c) v := by
        have h2 : cnt (fun c => c == 0 || c == lab e n k x) v = cnt (fun c => c == 0) v + 1 := cnt_one (m := lab e n k x) (by omega) (by simp) (by simpa using hz) (fun i hi hne => by simp [hne])
        have hmono : ∀ (p q : Nat → Bool) (u : Nat), (∀ i, p i = true → q i = true) → cnt p u ≤ cnt q u := by
          intro p q u hpq
          induction u with
          | zero => exact Nat.le_refl _
          | succ u ih =>
            simp only [cnt]
            have := hpq u
            cases hp : p u <;> cases hq : q u <;> simp_all <;> omega
        have h3 := hmono (fun c => c == 0 || c == lab e n k x) (fun c => lab e n k c == c) v (fun i hi => by
          simp at hi
          rcases hi with rfl | rfl
          · exact h0
          · simpa using hl)
        omega
      omega
  · intro h
    unfold parts
    rw [← hq]
    refine cnt_congr fun c hc => ?_
    have := lab_least hn (h c hc).symm
    rw [Bool.eq_iff_iff, beq_iff_eq, beq_iff_eq]
    constructor
    · intro h1; omega
    · rintro rfl; omega
def upd (D : Nat → Int) (y : Nat) (v : Int) : Nat → Int := fun c => if c = y then v else D c
/-- One direction of one cell. -/
def relax (s : Nat → Nat → Int) (x d : Nat) (S : (Nat → Int) × List Nat) : (Nat → Int) × List Nat :=
  if 0 ≤ s x d ∧ S.1 (s x d).toNat < 0 then (upd S.1 (s x d).toNat (S.1 x + 1), S.2 ++ [(s x d).toNat]) else S
def bround (s : Nat → Nat → Int) (x : Nat) (S : (Nat → Int) × List Nat) : (Nat → Int) × List Nat := relax s x 3 (relax s x 2 (relax s x 1 (relax s x 0 S)))
def bfsF (s : Nat → Nat → Int) : Nat → (Nat → Int) × List Nat → Nat → (Nat → Int)
  | 0, S, _ => S.1
  | f + 1, S, i => match S.2[i]? with
    | none => S.1
    | some x => bfsF s f (bround s x S) (i + 1)
/-- The distances from a cell, or -1. -/
def bfsD (s : Nat → Nat → Int) (v src : Nat) : Nat → Int := bfsF s (v + 1) (upd (fun _ => -1) src 0, [src]) 0
/-- Steps stay among v cells. -/
def Rng (s : Nat → Nat → Int) (v : Nat) : Prop := ∀ x d, x < v → d < 4 → s x d = -1 ∨ (0 ≤ s x d ∧ s x d < (v : Int))

structure BInv (s : Nat → Nat → Int) (v src : Nat) (S : (Nat → Int) × List Nat) (i : Nat) (m : Nat) : Prop where
  src0 : S.1 src = 0
  zero : ∀ c, S.1 c = 0 → c = src
  srcq : src ∈ S.2
  inr : ∀ c ∈ S.2, c < v
  nodup : S.2.Nodup
  neg : ∀ c, S.1 c = -1 ∨ 0 ≤ S.1 c
  mem : ∀ c, 0 ≤ S.1 c ↔ c ∈ S.2
  sorted : S.2.Pairwise (fun a b => S.1 a ≤ S.1 b)
  top : ∀ x, S.2[i]? = some x → ∀ c ∈ S.2, S.1 c ≤ S.1 x + 1
  done : ∀ j x, S.2[j]? = some x → ∀ d, d < 4 → (j < i ∨ (j = i ∧ d < m)) → 0 ≤ s x d → 0 ≤ S.1 (s x d).toNat ∧ S.1 (s x d).toNat ≤ S.1 x + 1
  pred : ∀ c ∈ S.2, c = src ∨ ∃ c' d, c' ∈ S.2 ∧ d < 4 ∧ s c' d = (c : Int) ∧ S.1 c = S.1 c' + 1
theorem BInv.start {s : Nat → Nat → Int} {v src : Nat} (h : src < v) : BInv s v src (upd (fun _ => -1) src 0, [src]) 0 0 where
  src0 := by simp [upd]
  zero := fun c => by simp only [upd]; split <;> simp_all
  srcq := by simp
  inr := by simpa using h
  nodup := by simp
  neg := fun c => by simp only [upd]; split <;> simp
  mem := fun c => by
    simp only [upd, List.mem_singleton]
    split
    · rename_i e; simp [e]
    · rename_i e; simp [e]
  sorted := by simp
  top := fun x hx c hc => by
    simp at hx hc
    subst hx hc
    omega
  done := fun j x hx d hd hj => by omega
  pred := fun c hc => .inl (by simpa using hc)
theorem BInv.relax {s : Nat → Nat → Int} {v src : Nat} (hs : Rng s v) {S : (Nat → Int) × List Nat} {i m x : Nat} (hm : m < 4) (hx : S.2[i]? = some x) (I : BInv s v src S i m) :
    BInv s v src (relax s x m S) i (m + 1) ∧ (relax s x m S).2[i]? = some x := by
  have hxq : x ∈ S.2 := List.mem_of_getElem? hx
  have hi : i < S.2.length := by
    rcases Nat.lt_or_ge i S.2.length with h | h
    · exact h
    · rw [List.getElem?_eq_none h] at hx; cases hx
  have hxv := I.inr x hxq
  have hx0 := (I.mem x).2 hxq
  unfold Go.Proofs.Ytcajhmldbkfhiaa.P.relax
  by_cases hc : 0 ≤ s x m ∧ S.1 (s x m).toNat < 0
  · rw [if_pos hc]
    obtain ⟨y, hy⟩ : ∃ y : Nat, s x m = y := ⟨(s x m).toNat, by omega⟩
    have hyv : y < v := by have := hs x m hxv hm; omega
    rw [hy] at hc ⊢
    simp only [Int.toNat_natCast] at hc ⊢
    have hyq : y ∉ S.2 := fun h => by have := (I.mem y).2 h; omega
    have keep : ∀ c, c ∈ S.2 → upd S.1 y (S.1 x + 1) c = S.1 c := by
      intro c h
      unfold upd
      rw [if_neg]
      rintro rfl
      exact hyq h
    have uy : upd S.1 y (S.1 x + 1) y = S.1 x + 1 := by unfold upd; rw [if_pos rfl]
    have idx : ∀ j z, (S.2 ++ [y])[j]? = some z → S.2[j]? = some z ∨ (j = S.2.length ∧ z = y) := by
      intro j z h
      rcases Nat.lt_or_ge j S.2.length with h1 | h1
      · rw [List.getElem?_append_left h1] at h; exact .inl h
      · rw [List.getElem?_append_right h1] at h
        have : j - S.2.length = 0 := by
          rcases Nat.eq_zero_or_pos (j - S.2.length) with h2 | h2
          · exact h2
          · rw [List.getElem?_eq_none (by simp only [List.length_singleton]; omega)] at h; cases h
        rw [this] at h
        simp at h
        exact .inr ⟨by omega, h.symm⟩
    have I0 : ∀ c, (upd S.1 y (S.1 x + 1), S.2 ++ [y]).1 c = 0 → c = src := by
      intro c
      show upd _ _ _ c = 0 → _
      unfold upd
      split
      · intro h; omega
      · exact I.zero c
    refine ⟨{ src0 := ?_, zero := I0, srcq := ?_, inr := ?_, nodup := ?_, neg := ?_, mem := ?_, sorted := ?_, top := ?_, done := ?_, pred := ?_ }, by rw [List.getElem?_append_left hi]; exact hx⟩
    · show upd _ _ _ src = 0
      rw [keep _ I.srcq]; exact I.src0
    · exact List.mem_append_left _ I.srcq
    · intro c hcq
      rcases List.mem_append.1 hcq with h | h
      · exact I.inr c h
      · simp at h; omega
    · rw [List.nodup_append]
      refine ⟨I.nodup, by simp, ?_⟩
      intro a ha b hb hab
      simp at hb
      subst hab hb
      exact hyq ha
    · intro c
      show upd _ _ _ c = -1 ∨ 0 ≤ upd _ _ _ c
      by_cases e : c = y
      · subst e; rw [uy]; omega
      · rw [show upd S.1 y (S.1 x + 1) c = S.1 c from if_neg e]; exact I.neg c
    · intro c
      rw [List.mem_append, List.mem_singleton]
      show 0 ≤ upd _ _ _ c ↔ _
      unfold upd
      by_cases e : c = y
      · rw [if_pos e]; exact ⟨fun _ => .inr e, fun _ => by omega⟩
      · rw [if_neg e, I.mem]; simp [e]
    · rw [List.pairwise_append]
      refine ⟨I.sorted.imp_of_mem fun {a b} ha hb h => ?_, by simp, ?_⟩
      · show upd _ _ _ a ≤ upd _ _ _ b
        rw [keep a ha, keep b hb]; exact h
      · intro a ha b hb
        simp at hb
        subst hb
        show upd _ _ _ a ≤ upd _ _ _ b
        rw [keep a ha, uy]
        exact I.top x hx a ha
    · intro z hz c hcq
      rw [List.getElem?_append_left hi, hx] at hz
      obtain rfl := Option.some.inj hz
      show upd _ _ _ c ≤ upd _ _ _ x + 1
      rw [keep x hxq]
      rcases List.mem_append.1 hcq with h | h
      · rw [keep c h]; exact I.top x hx c h
      · simp at h; subst h; rw [uy]; omega
    · intro j z hz d hd hj h0
      rcases idx j z hz with h | ⟨h, _⟩
      · have hzq : z ∈ S.2 := List.mem_of_getElem? h
        show 0 ≤ upd _ _ _ _ ∧ upd _ _ _ _ ≤ upd _ _ _ z + 1
        rw [keep z hzq]
        by_cases e : j = i ∧ d = m
        · obtain ⟨rfl, rfl⟩ := e
          rw [hx] at h
          obtain rfl := Option.some.inj h
          rw [hy, Int.toNat_natCast, uy]
          omega
        · have := I.done j z h d hd (by omega) h0
          have h1 := (I.mem _).1 this.1
          rw [keep _ h1]
          exact this
      · omega
    · intro c hcq
      rcases List.mem_append.1 hcq with h | h
      · rcases I.pred c h with h1 | ⟨c', d, h1, h2, h3, h4⟩
        · exact .inl h1
        · refine .inr ⟨c', d, List.mem_append_left _ h1, h2, h3, ?_⟩
          show upd _ _ _ c = upd _ _ _ c' + 1
          rw [keep c h, keep c' h1]; exact h4
      · simp at h
        subst h
        refine .inr ⟨x, m, List.mem_append_left _ hxq, hm, hy, ?_⟩
        show upd _ _ _ c = upd _ _ _ x + 1
        rw [uy, keep x hxq]
  · rw [if_neg hc]
    refine ⟨{ I with done := ?_ }, hx⟩
    intro j z hz d hd hj h0
    by_cases e : j = i ∧ d = m
    · obtain ⟨rfl, rfl⟩ := e
      rw [hx] at hz
      obtain rfl := Option.some.inj hz
      have h1 : 0 ≤ S.1 (s x d).toNat := by
        have := I.neg (s x d).toNat
        omega
      exact ⟨h1, I.top x hx _ ((I.mem _).1 h1)⟩
    · exact I.done j z hz d hd (by omega) h0
theorem BInv.next {s : Nat → Nat → Int} {v src : Nat} {S : (Nat → Int) × List Nat} {i x : Nat} (hx : S.2[i]? = some x) (I : BInv s v src S i 4) : BInv s v src S (i + 1) 0 :=
  { I with
    top := fun z hz c hc => by
      have h1 := I.top x hx c hc
      have h2 := List.pairwise_iff_getElem.1 I.sorted i (i + 1)
      obtain ⟨a, rfl⟩ := List.getElem?_eq_some_iff.1 hx
      obtain ⟨b, rfl⟩ := List.getElem?_eq_some_iff.1 hz
      have := h2 a b (by omega)
      omega
    done := fun j z hz d hd hj h0 => I.done j z hz d hd (by omega) h0 }
theorem BInv.round {s : Nat → Nat → Int} {v src : Nat} (hs : Rng s v) {S : (Nat → Int) × List Nat} {i x : Nat} (hx : S.2[i]? = some x) (I : BInv s v src S i 0) : BInv s v src (bround s x S) (i + 1) 0 := by
  obtain ⟨I1, h1⟩ := I.relax hs (by omega) hx
  obtain ⟨I2, h2⟩ := I1.relax hs (by omega) h1
  obtain ⟨I3, h3⟩ := I2.relax hs (by omega) h2
  obtain ⟨I4, h4⟩ := I3.relax hs (by omega) h3
  exact I4.next h4
theorem nodup_len {v : Nat} : ∀ {q : List Nat}, q.Nodup → (∀ c ∈ q, c < v) → q.length ≤ v := by
  induction v with
  | zero =>
    intro q _ h
    cases q with
    | nil => simp
    | cons a l => have := h a (by simp); omega
  | succ v ih =>
    intro q hn h
    have h1 := ih (q := q.erase v) (hn.erase v) (fun c hc => by
      have h1 := h c (List.mem_of_mem_erase hc)
      have : c ≠ v := by rintro rfl; exact absurd hc (List.Nodup.not_mem_erase hn)
      omega)
    have h2 := List.length_erase (a := v) (l := q)
    split at h2 <;> omega
theorem BInv.len {s : Nat → Nat → Int} {v src : Nat} {S : (Nat → Int) × List Nat} {i m : Nat} (I : BInv s v src S i m) : S.2.length ≤ v := nodup_len I.nodup I.inr
/-- What distances are. -/
structure Dist (s : Nat → Nat → Int) (v src : Nat) (D : Nat → Int) : Prop where
  src0 : D src = 0
  zero : ∀ c, D c = 0 → c = src
  neg : ∀ c, D c = -1 ∨ 0 ≤ D c
  inr : ∀ c, 0 ≤ D c → c < v
  lip : ∀ x d, d < 4 → 0 ≤ D x → 0 ≤ s x d → 0 ≤ D (s x d).toNat ∧ D (s x d).toNat ≤ D x + 1
  pred : ∀ c, 0 < D c → ∃ c' d, d < 4 ∧ s c' d = (c : Int) ∧ 0 ≤ D c' ∧ D c = D c' + 1
theorem BInv.dist {s : Nat → Nat → Int} {v src : Nat} {S : (Nat → Int) × List Nat} {i : Nat} (hi : S.2[i]? = none) (I : BInv s v src S i 0) : Dist s v src S.1 where
  src0 := I.src0
  zero := I.zero
  neg := I.neg
  inr := fun c h => I.inr c ((I.mem c).1 h)
  lip := fun x d hd hx h0 => by
    obtain ⟨j, hj⟩ := List.mem_iff_getElem?.1 ((I.mem x).1 hx)
    refine I.done j x hj d hd (.inl ?_) h0
    rcases Nat.lt_or_ge j i with h | h
    · exact h
    · rw [List.getElem?_eq_none_iff] at hi
      rw [List.getElem?_eq_none (by omega)] at hj
      cases hj
  pred := fun c h => by
    rcases I.pred c ((I.mem c).1 (by omega)) with h1 | ⟨c', d, h1, h2, h3, h4⟩
    · rw [h1, I.src0] at h; omega
    · exact ⟨c', d, h2, h3, (I.mem c').2 h1, h4⟩
theorem bfsF_dist {s : Nat → Nat → Int} {v src : Nat} (hs : Rng s v) : ∀ (f : Nat) (S : (Nat → Int) × List Nat) (i : Nat), BInv s v src S i 0 → i ≤ S.2.length → v + 1 - i ≤ f → Dist s v src (bfsF s f S i)
  | 0, S, i, I, hi, hf => by have := I.len; omega
  | f + 1, S, i, I, hi, hf => by
    simp only [bfsF]
    cases h : S.2[i]? with
    | none => exact I.dist h
    | some x =>
      have I2 := I.round hs h
      have hl : S.2.length ≤ (bround s x S).2.length := by
        have h1 : ∀ m T, T.2.length ≤ (Go.Proofs.Ytcajhmldbkfhiaa.P.relax s x m T).2.length := by
          intro m T
          unfold Go.Proofs.Ytcajhmldbkfhiaa.P.relax
          split <;> simp
        exact Nat.le_trans (h1 0 S) (Nat.le_trans (h1 1 _) (Nat.le_trans (h1 2 _) (h1 3 _)))
      have h2 := (List.getElem?_eq_some_iff.1 h).1
      exact bfsF_dist hs f _ (i + 1) I2 (by omega) (by omega)
theorem bfsD_dist {s : Nat → Nat → Int} {v src : Nat} (hs : Rng s v) (h : src < v) : Dist s v src (bfsD s v src) := bfsF_dist hs _ _ 0 (BInv.start h) (by simp) (by omega)
/-- Steps are the edges of n. -/
structure Net (s : Nat → Nat → Int) (e : Nat → Nat × Nat) (v n : Nat) : Prop where
  rng : Rng s v
  edge : ∀ x d, x < v → d < 4 → 0 ≤ s x d → ∃ k, n.testBit k = true ∧ (e k = (x, (s x d).toNat) ∨ e k = ((s x d).toNat, x))
  lt : ∀ k, n.testBit k = true → (e k).1 < v ∧ (e k).2 < v
  fwd : ∀ k, n.testBit k = true → ∃ d, d < 4 ∧ s (e k).1 d = ((e k).2 : Int)
  bwd : ∀ k, n.testBit k = true → ∃ d, d < 4 ∧ s (e k).2 d = ((e k).1 : Int)
theorem Dist.cn {s : Nat → Nat → Int} {e : Nat → Nat × Nat} {v n src : Nat} {D : Nat → Int} (N : Net s e v n) (I : Dist s v src D) (c : Nat) : 0 ≤ D c ↔ Cn e n src c := by
  constructor
  · intro h
    obtain ⟨m, hm⟩ : ∃ m : Nat, D c = m := ⟨(D c).toNat, by omega⟩
    clear h
    induction m using Nat.strongRecOn generalizing c with
    | _ m ih =>
      by_cases h0 : 0 < D c
      · obtain ⟨c', d, hd, h1, h2, h3⟩ := I.pred c h0
        have := ih (D c').toNat (by omega) c' (by omega)
        obtain ⟨k, hk, hk2⟩ := N.edge c' d (I.inr _ h2) hd (by omega)
        rw [h1] at hk2
        simp only [Int.toNat_natCast] at hk2
        rcases hk2 with h | h
        · have e1 := Cn.edge (e := e) hk
          rw [h] at e1
          exact this.trans e1
        · have e1 := Cn.edge' (e := e) hk
          rw [h] at e1
          exact this.trans e1
      · rw [I.zero c (by omega)]
        exact .refl _
  · intro h
    induction h with
    | refl => rw [I.src0]; omega
    | fwd k hk _ ih =>
      obtain ⟨d, hd, h1⟩ := N.fwd k hk
      have := I.lip _ d hd ih (by omega)
      rw [h1] at this
      simpa using this.1
    | bwd k hk _ ih =>
      obtain ⟨d, hd, h1⟩ := N.bwd k hk
      have := I.lip _ d hd ih (by omega)
      rw [h1] at this
      simpa using this.1
def cellsN (w h : Int) : Nat := (cellsOf w h).toNat
theorem cellsN_cast (w h : Int) : ((cellsN w h : Nat) : Int) = cellsOf w h := by have := cellsOf_range w h; unfold cellsN; omega
theorem cellsN_le (w h : Int) : cellsN w h ≤ 16 := by have := cellsOf_range w h; unfold cellsN; omega
def ends (w h : Int) (g : Nat) : Nat × Nat := ((endsI w h g).1.toNat, (endsI w h g).2.toNat)
def st (w h : Int) (n : Nat) (c d : Nat) : Int := stepI w h n c d
theorem ends_facts {w h : Int} {g : Nat} (hg : g < gapsN w h) : endsI w h g = (((ends w h g).1 : Int), ((ends w h g).2 : Int)) ∧ (ends w h g).1 < (ends w h g).2 ∧ (ends w h g).2 < cellsN w h := by
  have hc := gapsN_cast w h
  have hc2 := cellsN_cast w h
  obtain ⟨h1, h2, h3, _⟩ := end_facts (w := w) (h := h) (g := g) (by omega) (by omega)
  unfold ends
  refine ⟨?_, by simp only; omega, by simp only; omega⟩
  apply Prod.ext
  · simp only; omega
  · simp only; omega
theorem gr_grid (w h : Int) : Gr (ends w h) (cellsN w h) (gapsN w h) := fun g hg => by
  have := ends_facts hg
  omega
theorem step_open {w h : Int} {n : Nat} {c d : Int} (hn : n < 2 ^ gapsN w h) (h0 : 0 ≤ stepI w h n c d) : ∃ g : Nat, g < gapsN w h ∧ gapI w h c d = g ∧ n.testBit g = true ∧ stepI w h n c d = nbI w h c d ∧ endsI w h g = (min c (nbI w h c d), max c (nbI w h c d)) := by
  have hc := gapsN_cast w h
  unfold stepI at *
  by_cases ho : openI n (gapI w h c d) = true
  · rw [if_pos ho] at *
    rcases step_facts w h c d with ⟨h1, _⟩ | ⟨h1, h2, h3, h4, h5, h6, _⟩
    · omega
    · refine ⟨(gapI w h c d).toNat, by omega, by omega, ?_, rfl, ?_⟩
      · unfold openI at ho
        simp only [Bool.and_eq_true] at ho
        exact ho.2
      · rw [show (((gapI w h c d).toNat : Nat) : Int) = gapI w h c d by omega]; exact h6
  · rw [if_neg ho] at h0; omega
theorem net_grid {w h : Int} {n : Nat} (hn : n < 2 ^ gapsN w h) : Net (st w h n) (ends w h) (cellsN w h) n where
  rng := fun x d _ _ => by
    have := cellsN_cast w h
    unfold st
    rcases step_lt (w := w) (h := h) (c := x) (d := d) (n := n) with h1 | h1
    · exact .inl h1
    · exact .inr (by omega)
  edge := fun x d hx hd h0 => by
    unfold st at *
    obtain ⟨g, h1, h2, h3, h4, h5⟩ := step_open hn h0
    refine ⟨g, h3, ?_⟩
    unfold ends
    rw [h5, h4]
    rw [h4] at h0
    rcases Int.le_total x (nbI w h x d) with hl | hl
    · left
      rw [Int.min_eq_left hl, Int.max_eq_right hl]; rfl
    · right
      rw [Int.min_eq_right hl, Int.max_eq_left hl]; rfl
  lt := fun k hk => by
    have := ends_facts (lt_of_testBit hn hk)
    omega
  fwd := fun k hk => by
    have hkg := lt_of_testBit hn hk
    have hc := gapsN_cast w h
    obtain ⟨e1, e2, e3⟩ := ends_facts hkg
    obtain ⟨_, _, _, h4⟩ := end_facts (w := w) (h := h) (g := k) (by omega) (by omega)
    rw [e1] at h4
    simp only at h4
    have ho : openI n (k : Int) = true := by unfold openI; simp [hk]
    rcases h4 with ⟨a, b⟩ | ⟨a, b⟩
    · exact ⟨1, by omega, by unfold st stepI; rw [show ((1 : Nat) : Int) = 1 from rfl, b, if_pos ho, a]⟩
    · exact ⟨2, by omega, by unfold st stepI; rw [show ((2 : Nat) : Int) = 2 from rfl, b, if_pos ho, a]⟩
  bwd := fun k hk => by
    have hkg := lt_of_testBit hn hk
    have hc := gapsN_cast w h
    obtain ⟨e1, e2, e3⟩ := ends_facts hkg
    obtain ⟨_, _, _, h4⟩ := end_facts (w := w) (h := h) (g := k) (by omega) (by omega)
    rw [e1] at h4
    simp only at h4
    have ho : openI n (k : Int) = true := by unfold openI; simp [hk]
    rcases h4 with ⟨a, b⟩ | ⟨a, b⟩
    · rcases step_facts w h (ends w h k).1 1 with ⟨q, _⟩ | ⟨q1, q2, q3, q4, q5, q6, q7, q8⟩
      · omega
      · rw [a] at q7 q8
        exact ⟨3, by omega, by unfold st stepI; rw [show ((3 : Nat) : Int) = (1 + 2) % 4 from rfl, q8, b, if_pos ho, q7]⟩
    · rcases step_facts w h (ends w h k).1 2 with ⟨q, _⟩ | ⟨q1, q2, q3, q4, q5, q6, q7, q8⟩
      · omega
      · rw [a] at q7 q8
        exact ⟨0, by omega, by unfold st stepI; rw [show ((0 : Nat) : Int) = (2 + 2) % 4 from rfl, q8, b, if_pos ho, q7]⟩
/-- The distance from a cell, or -1. -/
def distN (w h : Int) (n s : Nat) : Nat → Int := bfsD (st w h n) (cellsN w h) s
theorem distN_dist {w h : Int} {n s : Nat} (hn : n < 2 ^ gapsN w h) (hs : s < cellsN w h) : Dist (st w h n) (cellsN w h) s (distN w h n s) := bfsD_dist (net_grid hn).rng hs
theorem distN_cn {w h : Int} {n s : Nat} (hn : n < 2 ^ gapsN w h) (hs : s < cellsN w h) (c : Nat) : 0 ≤ distN w h n s c ↔ Cn (ends w h) n s c := (distN_dist hn hs).cn (net_grid hn) c
def sumTo : Nat → (Nat → Int) → Int
  | 0, _ => 0
  | n + 1, f => sumTo n f + f n
theorem sumTo_congr {n : Nat} {f g : Nat → Int} (h : ∀ i, i < n → f i = g i) : sumTo n f = sumTo n g := by
  induction n with
  | zero => rfl
  | succ n ih => simp only [sumTo]; rw [ih (fun i hi => h i (by omega)), h n (by omega)]
theorem sumTo_zero {n : Nat} {f : Nat → Int} (h : ∀ i, i < n → f i = 0) : sumTo n f = 0 := by
  induction n with
  | zero => rfl
  | succ n ih => simp only [sumTo]; rw [ih (fun i hi => h i (by omega)), h n (by omega)]; rfl
/-- Two sums that differ at one place. -/
theorem sumTo_one {n : Nat} {f g : Nat → Int} {k : Nat} (hk : k < n) (h : ∀ i, i < n → i ≠ k → g i = f i) : sumTo n g = sumTo n f + (g k - f k) := by
  induction n with
  | zero => omega
  | succ n ih =>
    simp only [sumTo]
    by_cases e : k = n
    · subst e
      rw [sumTo_congr (fun i hi => h i (by omega) (by omega))]
      omega
    · rw [ih (by omega) (fun i hi hne => h i (by omega) hne), h n (by omega) (fun e' => e e'.symm)]
      omega
/-- 1, or -1 for an odd number. -/
def sgn (c : Nat) : Int := if c % 2 = 0 then 1 else -1
theorem sgn_succ (c : Nat) : sgn (c + 1) = -sgn c := by
  unfold sgn
  by_cases h : c % 2 = 0
  · rw [if_pos h, if_neg (by omega)]
  · rw [if_neg h, if_pos (by omega)]; rfl
theorem pop_full (n : Nat) : pop n (2 ^ n - 1) = n := by
  have : ∀ m, m ≤ n → pop m (2 ^ n - 1) = m := by
    intro m
    induction m with
    | zero => intro _; rfl
    | succ m ih =>
      intro h
      simp only [pop]
      rw [ih (by omega), Nat.testBit_two_pow_sub_one]
      simp
      omega
  exact this n (Nat.le_refl n)
theorem sumTo_add (n : Nat) (f g : Nat → Int) : sumTo n (fun i => f i + g i) = sumTo n f + sumTo n g := by
  induction n with
  | zero => rfl
  | succ n ih => simp only [sumTo]; rw [ih]; omega
theorem sumTo_mul (n : Nat) (c : Int) (f : Nat → Int) : sumTo n (fun i => c * f i) = c * sumTo n f := by
  induction n with
  | zero => simp [sumTo]
  | succ n ih => simp only [sumTo]; rw [ih, Int.mul_add]
theorem sumTo_neg (n : Nat) (f : Nat → Int) : sumTo n (fun i => -f i) = -sumTo n f := by
  induction n with
  | zero => rfl
  | succ n ih => simp only [sumTo]; rw [ih]; omega
theorem sumTo_comm (m n : Nat) (f : Nat → Nat → Int) : sumTo m (fun i => sumTo n (fun j => f i j)) = sumTo n (fun j => sumTo m (fun i => f i j)) := by
  induction m with
  | zero => simp only [sumTo]; exact (sumTo_zero fun _ _ => rfl).symm
  | succ m ih => simp only [sumTo]; rw [ih, ← sumTo_add]
/-- A sum with two places set apart. -/
theorem sumTo_two {n i : Nat} {f g : Nat → Int} (h1 : i + 1 < n) (hs : g i + g (i + 1) = -(f i + f (i + 1))) (h : ∀ k, k < n → k ≠ i → k ≠ i + 1 → g k = -f k) : sumTo n g = -sumTo n f := by
  have e1 : sumTo n (fun k => g k + f k) = 0 := by
    have : ∀ m, m ≤ n → sumTo m (fun k => g k + f k) = if m = i + 1 then g i + f i else 0 := by
      intro m
      induction m with
      | zero => intro _; simp [sumTo]
      | succ m ih =>
        intro hm
        simp only [sumTo]
        rw [ih (by omega)]
        by_cases a : m = i
        · subst a; simp
        · by_cases b : m = i + 1
          · subst b; simp; omega
          · have := h m (by omega) a b
            simp [a, b]; omega
    rw [this n (Nat.le_refl n), if_neg (by omega)]
  rw [sumTo_add] at e1
  omega
theorem sgn_par {a b : Nat} (h : a % 2 = b % 2) : sgn a = sgn b := by unfold sgn; rw [h]
/-- Without the vector i. -/
def er (i : Nat) (A : Nat → Nat → Int) : Nat → Nat → Int := fun j => if j < i then A j else A (j + 1)
/-- Without the coordinate c. -/
def ec (c : Nat) (A : Nat → Nat → Int) : Nat → Nat → Int := fun j d => if d < c then A j d else A j (d + 1)
/-- With another vector at i. -/
def rp (A : Nat → Nat → Int) (i : Nat) (v : Nat → Int) : Nat → Nat → Int := fun j => if j = i then v else A j
def swp (A : Nat → Nat → Int) (i j : Nat) : Nat → Nat → Int := fun k => if k = i then A j else if k = j then A i else A k
/-- The determinant of r vectors, along the last coordinate. -/
def dt : Nat → (Nat → Nat → Int) → Int
  | 0, _ => 1
  | r + 1, A => sumTo (r + 1) fun i => sgn (r - i) * A i r * dt r (er i A)
theorem dt_congr : ∀ {r : Nat} {A B : Nat → Nat → Int}, (∀ i c, i < r → c < r → A i c = B i c) → dt r A = dt r B
  | 0, _, _, _ => rfl
  | r + 1, A, B, h => by
    simp only [dt]
    refine sumTo_congr fun i hi => ?_
    rw [h i r hi (by omega), dt_congr (A := er i A) (B := er i B)]
    intro j c hj hc
    unfold er
    split
    · exact h j c (by omega) (by omega)
    · exact h (j + 1) c (by omega) (by omega)
theorem er_rp_same (A : Nat → Nat → Int) (i : Nat) (v : Nat → Int) : er i (rp A i v) = er i A := by
  funext j
  unfold er rp
  split
  · rw [if_neg (by omega)]
  · rw [if_neg (by omega)]
theorem er_rp (A : Nat → Nat → Int) {k i : Nat} (h : k ≠ i) (v : Nat → Int) : er k (rp A i v) = rp (er k A) (if i < k then i else i - 1) v := by
  funext j
  simp only [er, rp]
  by_cases hk : i < k
  · rw [if_pos hk]
    repeat' split
    all_goals first | rfl | omega
  · rw [if_neg hk]
    repeat' split
    all_goals first | rfl | omega
theorem rp_same (A : Nat → Nat → Int) (i : Nat) (v : Nat → Int) : rp A i v i = v := if_pos rfl
theorem rp_ne (A : Nat → Nat → Int) {i j : Nat} (h : j ≠ i) (v : Nat → Int) : rp A i v j = A j := if_neg h
theorem dt_lin : ∀ {r : Nat} (A : Nat → Nat → Int) {i : Nat} (hi : i < r) (c d : Int) (u v : Nat → Int), dt r (rp A i (fun x => c * u x + d * v x)) = c * dt r (rp A i u) + d * dt r (rp A i v)
  | 0, _, _, hi, _, _, _, _ => by omega
  | r + 1, A, i, hi, c, d, u, v => by
    simp only [dt]
    rw [← sumTo_mul, ← sumTo_mul, ← sumTo_add]
    refine sumTo_congr fun k hk => ?_
    by_cases e : k = i
    · subst e
      simp only [rp_same, er_rp_same]
      grind
    · simp only [rp_ne _ e, er_rp _ e]
      rw [dt_lin (er k A) (by split <;> omega)]
      grind
theorem dt_adj : ∀ {r : Nat} (A : Nat → Nat → Int) {i : Nat} (hi : i + 1 < r), dt r (swp A i (i + 1)) = -dt r A
  | 0, _, _, hi => by omega
  | r + 1, A, i, hi => by
    simp only [dt]
    have h1 : er i (swp A i (i + 1)) = er (i + 1) A := by
      funext j; unfold er swp
      repeat' split
      all_goals first | rfl | omega | (congr 1; omega)
    have h2 : er (i + 1) (swp A i (i + 1)) = er i A := by
      funext j; unfold er swp
      repeat' split
      all_goals first | rfl | omega | (congr 1; omega)
    refine sumTo_two (i := i) hi ?_ ?_
    · rw [h1, h2, show swp A i (i + 1) i = A (i + 1) from if_pos rfl, show swp A i (i + 1) (i + 1) = A i by unfold swp; rw [if_neg (by omega), if_pos rfl], show r - i = (r - (i + 1)) + 1 by omega, sgn_succ]
      grind
    · intro k hk n1 n2
      have h3 : er k (swp A i (i + 1)) = swp (er k A) (if i < k then i else i - 1) ((if i < k then i else i - 1) + 1) := by
        funext j; simp only [er, swp]
        by_cases hk : i < k
        · rw [if_pos hk]
          repeat' split
          all_goals first | rfl | omega | (congr 1; omega)
        · rw [if_neg hk]
          repeat' split
          all_goals first | rfl | omega | (congr 1; omega)
      rw [h3, dt_adj (er k A) (by split <;> omega), show swp A i (i + 1) k = A k by unfold swp; rw [if_neg n1, if_neg n2]]
      grind
theorem dt_same : ∀ (d : Nat) {r : Nat} (A : Nat → Nat → Int) {i : Nat}, i + 1 + d < r → (∀ c, A i c = A (i + 1 + d) c) → dt r A = 0
  | 0, r, A, i, hj, h => by
    have h1 := dt_adj A (i := i) hj
    have h2 : swp A i (i + 1) = A := by
      funext k c; unfold swp
      split
      · rename_i e; subst e; exact (h c).symm
      · split
        · rename_i e; subst e; exact h c
        · rfl
    rw [h2] at h1
    omega
  | d + 1, r, A, i, hj, h => by
    have h1 := dt_adj A (i := i + 1 + d) (by omega)
    have h2 := dt_same d (r := r) (swp A (i + 1 + d) (i + 1 + d + 1)) (i := i) (by omega) (fun c => by
      unfold swp
      rw [if_neg (by omega), if_neg (by omega), if_pos rfl]
      exact h c)
    omega
theorem dt_eq {r : Nat} (A : Nat → Nat → Int) {i j : Nat} (hij : i ≠ j) (hi : i < r) (hj : j < r) (h : ∀ c, A i c = A j c) : dt r A = 0 := by
  rcases Nat.lt_or_gt_of_ne hij with hl | hl
  · exact dt_same (j - i - 1) A (i := i) (by omega) (fun c => by rw [show i + 1 + (j - i - 1) = j by omega]; exact h c)
  · exact dt_same (i - j - 1) A (i := j) (by omega) (fun c => by rw [show j + 1 + (i - j - 1) = i by omega]; exact (h c).symm)
theorem rp_self (A : Nat → Nat → Int) (i : Nat) : rp A i (A i) = A := by
  funext j; unfold rp; split
  · rename_i e; rw [e]
  · rfl
theorem er_ec (A : Nat → Nat → Int) (i c : Nat) : er i (ec c A) = ec c (er i A) := by
  funext j d
  by_cases h : j < i <;> by_cases h2 : d < c <;> simp [er, ec, h, h2]
/-- Along the last vector. -/
theorem dt_lastvec : ∀ (r : Nat) (A : Nat → Nat → Int), dt (r + 1) A = sumTo (r + 1) fun c => sgn (r - c) * A r c * dt r (ec c A)
  | 0, A => rfl
  | r + 1, A => by
    have L : dt (r + 2) A = sumTo (r + 1) (fun i => sgn (r + 1 - i) * A i (r + 1) * dt (r + 1) (er i A)) + sgn (r + 1 - (r + 1)) * A (r + 1) (r + 1) * dt (r + 1) (er (r + 1) A) := rfl
    rw [L]
    show _ = sumTo (r + 1) (fun c => sgn (r + 1 - c) * A (r + 1) c * dt (r + 1) (ec c A)) + sgn (r + 1 - (r + 1)) * A (r + 1) (r + 1) * dt (r + 1) (ec (r + 1) A)
    have e1 : dt (r + 1) (er (r + 1) A) = dt (r + 1) (ec (r + 1) A) := dt_congr fun i c hi hc => by unfold er ec; rw [if_pos hi, if_pos hc]
    rw [e1]
    congr 1
    have e2 : sumTo (r + 1) (fun i => sgn (r + 1 - i) * A i (r + 1) * dt (r + 1) (er i A)) = sumTo (r + 1) (fun i => sumTo (r + 1) fun c => sgn (r + 1 - i) * sgn (r - c) * (A i (r + 1) * A (r + 1) c) * dt r (ec c (er i A))) := by
      refine sumTo_congr fun i hi => ?_
      rw [dt_lastvec r (er i A), ← sumTo_mul]
      refine sumTo_congr fun c hc => ?_
      rw [show er i A r = A (r + 1) from if_neg (by omega)]
      grind
    have e3 : sumTo (r + 1) (fun c => sgn (r + 1 - c) * A (r + 1) c * dt (r + 1) (ec c A)) = sumTo (r + 1) (fun c => sumTo (r + 1) fun i => sgn (r + 1 - i) * sgn (r - c) * (A i (r + 1) * A (r + 1) c) * dt r (ec c (er i A))) := by
      refine sumTo_congr fun c hc => ?_
      show _ * dt (r + 1) (ec c A) = _
      simp only [dt]
      rw [← sumTo_mul]
      refine sumTo_congr fun i hi => ?_
      rw [show ec c A i r = A i (r + 1) from if_neg (by omega), er_ec, show r + 1 - c = (r - c) + 1 by omega, show r + 1 - i = (r - i) + 1 by omega, sgn_succ, sgn_succ]
      grind
    rw [e2, e3, sumTo_comm]
def tr (A : Nat → Nat → Int) : Nat → Nat → Int := fun i c => A c i
theorem dt_tr : ∀ (r : Nat) (A : Nat → Nat → Int), dt r (tr A) = dt r A
  | 0, A => rfl
  | r + 1, A => by
    rw [dt_lastvec r A]
    simp only [dt]
    refine sumTo_congr fun i hi => ?_
    have : er i (tr A) = tr (ec i A) := by
      funext j c; simp only [er, tr, ec]
      split <;> rfl
    rw [this, dt_tr r (ec i A)]
    rfl
/-- Along any vector. -/
theorem dt_vec {r : Nat} : ∀ (d p : Nat) (A : Nat → Nat → Int), p + d = r → dt (r + 1) A = sumTo (r + 1) fun c => sgn (p + c) * A p c * dt r (er p (ec c A))
  | 0, p, A, h => by
    have : p = r := by omega
    subst this
    rw [dt_lastvec]
    refine sumTo_congr fun c hc => ?_
    rw [sgn_par (show (p - c) % 2 = (p + c) % 2 by omega)]
    congr 1
    exact dt_congr fun i c' hi hc' => by unfold er; rw [if_pos hi]
  | d + 1, p, A, h => by
    have h1 := dt_adj A (i := p) (r := r + 1) (by omega)
    have h2 := dt_vec (r := r) d (p + 1) (swp A p (p + 1)) (by omega)
    rw [h2] at h1
    have h3 : sumTo (r + 1) (fun c => sgn (p + 1 + c) * swp A p (p + 1) (p + 1) c * dt r (er (p + 1) (ec c (swp A p (p + 1))))) = -sumTo (r + 1) fun c => sgn (p + c) * A p c * dt r (er p (ec c A)) := by
      rw [← sumTo_neg]
      refine sumTo_congr fun c hc => ?_
      have h4 : er (p + 1) (ec c (swp A p (p + 1))) = er p (ec c A) := by
        funext j d
        have h4 : er (p + 1) (swp A p (p + 1)) = er p A := by
          funext j; simp only [er, swp]
          repeat' split
          all_goals first | rfl | omega | (congr 1; omega)
        rw [er_ec, h4, er_ec]
      rw [h4, show swp A p (p + 1) (p + 1) = A p by unfold swp; rw [if_neg (by omega), if_pos rfl], show p + 1 + c = p + c + 1 by omega, sgn_succ]
      grind
    omega
theorem sumTo_single {n q : Nat} {f : Nat → Int} (hq : q < n) (h : ∀ i, i < n → i ≠ q → f i = 0) : sumTo n f = f q := by
  have := sumTo_one (f := fun _ => 0) (g := f) hq (fun i hi hne => h i hi hne)
  rw [sumTo_zero (f := fun _ => 0) (fun _ _ => rfl)] at this
  omega
/-- Along a vector with one entry. -/
theorem dt_unit {r : Nat} (A : Nat → Nat → Int) {p q : Nat} (hp : p ≤ r) (hq : q ≤ r) (h : ∀ c, c ≤ r → c ≠ q → A p c = 0) : dt (r + 1) A = sgn (p + q) * A p q * dt r (er p (ec q A)) := by
  rw [dt_vec (r - p) p A (by omega)]
  refine sumTo_single (f := fun c => sgn (p + c) * A p c * dt r (er p (ec c A))) (by omega) fun c hc hne => ?_
  rw [h c (by omega) hne]
  simp
theorem dt_zero {r : Nat} (A : Nat → Nat → Int) {i : Nat} (hi : i < r) (h : ∀ c, c < r → A i c = 0) : dt r A = 0 := by
  have := dt_lin A hi 0 0 (A i) (A i)
  rw [show dt r (rp A i fun x => 0 * A i x + 0 * A i x) = dt r A from dt_congr fun j c hj hc => by
    unfold rp; split
    · rename_i e; subst e; rw [h c hc]; simp
    · rfl] at this
  simpa using this
end Go.Proofs.Ytcajhmldbkfhiaa.P
namespace Go.Proofs.Ytcajhmldbkfhiaa.P
open Go.RowKit Go.Proofs.YtcajhmldbkfhiaaW.PrintWords
set_option linter.unusedVariables false
set_option linter.unusedSimpArgs false

def dl (x y : Nat) : Int := if x = y then 1 else 0
/-- An edge as a vector over the vertices that stand for their parts, without the root. -/
def vg (l : Nat → Nat) (r : Nat) (e : Nat × Nat) (x : Nat) : Int := if x = r then 0 else dl x (l e.1) - dl x (l e.2)
section
variable {e : Nat → Nat × Nat} {E : Nat} {l : Nat → Nat} {r : Nat} {U : Nat → Bool} {g P Q : Nat}
variable (hl : ∀ x, l (l x) = l x) (hr : l r = r) (hg : g < E) (hU : U g = true) (hP : P = l (e g).1 ∧ Q = l (e g).2 ∨ P = l (e g).2 ∧ Q = l (e g).1) (hPQ : P ≠ Q)
include hl hr hg hU hP hPQ
end
end Go.Proofs.Ytcajhmldbkfhiaa.P
namespace Go.Proofs.Ytcajhmldbkfhiaa.P
open Go.RowKit Go.Proofs.YtcajhmldbkfhiaaW.PrintWords
set_option linter.unusedVariables false
set_option linter.unusedSimpArgs false

theorem cnt_add {p q r : Nat → Bool} {v : Nat} (h : ∀ i, i < v → (p i).toNat = (q i).toNat + (r i).toNat) : cnt p v = cnt q v + cnt r v := by
  induction v with
  | zero => rfl
  | succ n ih => simp only [cnt]; rw [ih (fun i hi => h i (by omega)), h n (by omega)]; omega
/-- Neither chosen nor banned. -/
def und (c b : Nat) : Nat → Bool := fun g => !c.testBit g && !b.testBit g
/-- One part, and no loop. -/
def perf (e : Nat → Nat × Nat) (V E t : Nat) : Bool := decide (parts e V E t = 1 ∧ pop E t + 1 = V)
def sup (E c b t : Nat) : Bool := decide (∀ i, i < E → (c.testBit i = true → t.testBit i = true) ∧ (b.testBit i = true → t.testBit i = false))
/-- How many perfect ones have all that is chosen and nothing that is banned. -/
def trees (e : Nat → Nat × Nat) (V E c b : Nat) : Nat := cnt (fun t => sup E c b t && perf e V E t) (2 ^ E)
theorem sup_iff {E c b t : Nat} : sup E c b t = true ↔ ∀ i, i < E → (c.testBit i = true → t.testBit i = true) ∧ (b.testBit i = true → t.testBit i = false) := by unfold sup; rw [decide_eq_true_eq]
theorem sup_split {E c b g t : Nat} (hg : g < E) (hu : und c b g = true) : (sup E c b t).toNat = (sup E (setB c g true) b t).toNat + (sup E c (setB b g true) t).toNat := by
  simp only [und, Bool.and_eq_true, Bool.not_eq_true'] at hu
  have h1 : sup E (setB c g true) b t = (sup E c b t && t.testBit g) := by
    rw [Bool.eq_iff_iff, Bool.and_eq_true, sup_iff, sup_iff]
    simp only [testBit_setB]
    constructor
    · intro h
      refine ⟨fun i hi => ⟨fun hc => (h i hi).1 (by split <;> simp [hc]), (h i hi).2⟩, (h g hg).1 (by simp)⟩
    · rintro ⟨h, h2⟩ i hi
      refine ⟨fun hc => ?_, (h i hi).2⟩
      split at hc
      · rename_i e; rw [e]; exact h2
      · exact (h i hi).1 hc
  have h2 : sup E c (setB b g true) t = (sup E c b t && !t.testBit g) := by
    rw [Bool.eq_iff_iff, Bool.and_eq_true, sup_iff, sup_iff]
    simp only [testBit_setB, Bool.not_eq_true']
    constructor
    · intro h
      refine ⟨fun i hi => ⟨(h i hi).1, fun hc => (h i hi).2 (by split <;> simp [hc])⟩, (h g hg).2 (by simp)⟩
    · rintro ⟨h, h2⟩ i hi
      refine ⟨(h i hi).1, fun hc => ?_⟩
      split at hc
      · rename_i e; rw [e]; exact h2
      · exact (h i hi).2 hc
  rw [h1, h2]
  cases sup E c b t <;> cases t.testBit g <;> rfl
theorem trees_split {e : Nat → Nat × Nat} {V E c b g : Nat} (hg : g < E) (hu : und c b g = true) : trees e V E c b = trees e V E (setB c g true) b + trees e V E c (setB b g true) := by
  unfold trees
  refine cnt_add fun t ht => ?_
  have := sup_split (t := t) hg hu
  cases h1 : perf e V E t
  · simp
  · simpa using this
theorem perf_iff {e : Nat → Nat × Nat} {V E t : Nat} : perf e V E t = true ↔ parts e V E t = 1 ∧ pop E t + 1 = V := by unfold perf; rw [decide_eq_true_eq]
end Go.Proofs.Ytcajhmldbkfhiaa.P
namespace Go.Proofs.Ytcajhmldbkfhiaa.P
open Go.RowKit Go.Proofs.YtcajhmldbkfhiaaW.PrintWords
set_option linter.unusedVariables false
set_option linter.unusedSimpArgs false

section
variable {s : Nat → Nat → Int} {e : Nat → Nat × Nat} {v n z : Nat} {D : Nat → Int}
/-- An edge that stands for a step. -/
theorem Net.edge_of (N : Net s e v n) {x d y : Nat} (hx : x < v) (hd : d < 4) (h : s x d = (y : Int)) : ∃ k, n.testBit k = true ∧ (e k = (x, y) ∨ e k = (y, x)) := by
  obtain ⟨k, hk, h2⟩ := N.edge x d hx hd (by omega)
  rw [h, Int.toNat_natCast] at h2
  exact ⟨k, hk, h2⟩
theorem Net.bwd_of (N : Net s e v n) {x d y : Nat} (hx : x < v) (hd : d < 4) (h : s x d = (y : Int)) : ∃ d', d' < 4 ∧ s y d' = (x : Int) := by
  obtain ⟨k, hk, h2 | h2⟩ := N.edge_of hx hd h
  · have := N.bwd k hk
    rw [h2] at this
    exact this
  · have := N.fwd k hk
    rw [h2] at this
    exact this
/-- Neighbors are at most one step apart. -/
theorem Dist.near (N : Net s e v n) (I : Dist s v z D) {x d y : Nat} (hx : x < v) (hd : d < 4) (h : s x d = (y : Int)) : (0 ≤ D x ↔ 0 ≤ D y) ∧ D y ≤ D x + 1 ∧ D x ≤ D y + 1 := by
  obtain ⟨d', hd', h'⟩ := N.bwd_of hx hd h
  have a := fun h0 => I.lip x d hd h0 (by omega)
  have b := fun h0 => I.lip y d' hd' h0 (by omega)
  rw [h, Int.toNat_natCast] at a
  rw [h', Int.toNat_natCast] at b
  have := I.neg x
  have := I.neg y
  by_cases h1 : 0 ≤ D x
  · have := a h1
    have := b this.1
    omega
  · by_cases h2 : 0 ≤ D y
    · have := b h2; omega
    · omega
/-- Every cell that is nearer leads on without c. -/
theorem Dist.around (N : Net s e v n) (I : Dist s v z D) {g c : Nat} (hc : (e g).1 = c ∨ (e g).2 = c) : ∀ (m : Nat) (y : Nat), D y = m → D y < D c → Cn e (setB n g false) y z
  | m, y, hm, hy => by
    rcases Nat.eq_zero_or_pos m with h0 | h0
    · rw [I.zero y (by omega)]; exact .refl _
    · obtain ⟨y', d, hd, h1, h2, h3⟩ := I.pred y (by omega)
      obtain ⟨k, hk, hk2⟩ := N.edge_of (I.inr _ h2) hd h1
      have hkg : k ≠ g := by
        rintro rfl
        rcases hk2 with q | q <;> rw [q] at hc <;> simp only at hc <;> rcases hc with rfl | rfl <;> omega
      have hk' : (setB n g false).testBit k = true := by rw [setB_ne _ hkg]; exact hk
      have ih := Dist.around N I hc (m - 1) y' (by omega) (by omega)
      rcases hk2 with q | q
      · have := Cn.edge' (e := e) hk'
        rw [q] at this
        exact this.trans ih
      · have := Cn.edge (e := e) hk'
        rw [q] at this
        exact this.trans ih
  termination_by m => m
  decreasing_by omega
/-- In a tree: behind the edge from c to c', on whose side z lies, no other neighbor of c is nearer to z. -/
theorem tree_step (N : Net s e v n) (I : Dist s v z D) {E g c c' : Nat} (hG : Gr e v E) (hn : n < 2 ^ E) (hp : pop E n + parts e v E n = v) (hg : n.testBit g = true) (hgc : e g = (c, c') ∨ e g = (c', c)) (hz : Cn e (setB n g false) c' z) :
    (∀ (y d : Nat), d < 4 → c < v → s c d = (y : Int) → D y < D c → y = c') ∧ (0 < D c → D c' + 1 = D c) := by
  have hbr := bridge_of_forest hG hn hp hg
  have hbr' : ¬ Cn e (setB n g false) c c' := by
    rcases hgc with q | q <;> rw [q] at hbr
    · exact hbr
    · exact fun h => hbr h.symm
  have hend : (e g).1 = c ∨ (e g).2 = c := by rcases hgc with q | q <;> rw [q] <;> simp
  have one : ∀ (y d : Nat), d < 4 → c < v → s c d = (y : Int) → D y < D c → y = c' := by
    intro y d hd hcv h hy
    apply Classical.byContradiction
    intro hne
    have hnear := I.near N hcv hd h
    have h0 : 0 ≤ D y := by
      have := I.neg y
      have := I.neg c
      omega
    have hyz := I.around N hend (D y).toNat y (by omega) hy
    obtain ⟨k, hk, hk2⟩ := N.edge_of hcv hd h
    have hkg : k ≠ g := by
      rintro rfl
      rcases hgc with q | q <;> rcases hk2 with q2 | q2 <;> rw [q] at q2 <;> simp only [Prod.mk.injEq] at q2 <;> omega
    have hk' : (setB n g false).testBit k = true := by rw [setB_ne _ hkg]; exact hk
    have hcy : Cn e (setB n g false) c y := by
      rcases hk2 with q | q
      · have := Cn.edge (e := e) hk'
        rw [q] at this
        exact this
      · have := Cn.edge' (e := e) hk'
        rw [q] at this
        exact this
    exact hbr' ((hcy.trans hyz).trans hz.symm)
  refine ⟨one, fun h0 => ?_⟩
  obtain ⟨y, d, hd, h1, h2, h3⟩ := I.pred c h0
  obtain ⟨d', hd', h'⟩ := N.bwd_of (I.inr _ h2) hd h1
  have := one y d' hd' (I.inr c (by omega)) h' (by omega)
  rw [← this]; omega
end
end Go.Proofs.Ytcajhmldbkfhiaa.P
namespace Go.Proofs.Ytcajhmldbkfhiaa.P
open Go.RowKit Go.Proofs.YtcajhmldbkfhiaaW.PrintWords
set_option linter.unusedVariables false
set_option linter.unusedSimpArgs false

theorem filter_head {p : Nat → Bool} {m v : Nat} (hm : m < v) (hp : p m = true) (h : ∀ i, i < m → p i = false) : ∃ t, (List.range v).filter p = m :: t := by
  obtain ⟨d, rfl⟩ : ∃ d, v = m + (d + 1) := ⟨v - m - 1, by omega⟩
  rw [List.range_add, List.filter_append]
  have h1 : (List.range m).filter p = [] := by
    rw [List.filter_eq_nil_iff]
    intro a ha
    rw [h a (List.mem_range.1 ha)]
    simp
  rw [h1, List.nil_append, List.range_succ_eq_map, List.map_cons, Nat.add_zero, List.filter_cons, if_pos hp]
  exact ⟨_, rfl⟩
/-- The cells that are reached, in ascending order. -/
def reachN (w h : Int) (n s : Nat) : List Nat := (List.range (cellsN w h)).filter fun c => decide (0 ≤ distN w h n s c)
/-- The least cell of the part of a cell. -/
def labN (w h : Int) (n c : Nat) : Nat := lab (ends w h) n (gapsN w h) c
theorem reachN_head {w h : Int} {n s : Nat} (hn : n < 2 ^ gapsN w h) (hs : s < cellsN w h) : ∃ t, reachN w h n s = labN w h n s :: t := by
  have hle := lab_le (ends w h) n (gapsN w h) s
  refine filter_head (show labN w h n s < cellsN w h by unfold labN; omega) ?_ ?_
  · rw [decide_eq_true_eq, distN_cn hn hs]
    exact lab_cn hn s
  · intro i hi
    rw [decide_eq_false_iff_not, distN_cn hn hs]
    intro hc
    have := lab_least hn hc
    unfold labN at hi
    omega
def partsN (w h : Int) (n : Nat) : Nat := parts (ends w h) (cellsN w h) (gapsN w h) n
def perfN (w h : Int) (n : Nat) : Bool := perf (ends w h) (cellsN w h) (gapsN w h) n
theorem cells_pos {w h : Int} (hg : gridOk w h = true) : 1 ≤ cellsN w h := by
  unfold cellsN cellsOf
  rw [if_pos hg]
  obtain ⟨h1 | h1 | h1 | h1, h2 | h2 | h2 | h2⟩ := grid_cases hg <;> subst h1 <;> subst h2 <;> decide
end Go.Proofs.Ytcajhmldbkfhiaa.P
namespace Go.Proofs.Ytcajhmldbkfhiaa.P
open Go.RowKit Go.Proofs.YtcajhmldbkfhiaaW.PrintWords
set_option linter.unusedVariables false
set_option linter.unusedSimpArgs false

section
variable {w h : Int} {n z : Nat}
/-- The first direction that leads nearer. -/
def nearDir (w h : Int) (n z c : Nat) : Nat :=
  if 0 ≤ st w h n c 0 ∧ distN w h n z (st w h n c 0).toNat < distN w h n z c then 0
  else if 0 ≤ st w h n c 1 ∧ distN w h n z (st w h n c 1).toNat < distN w h n z c then 1
  else if 0 ≤ st w h n c 2 ∧ distN w h n z (st w h n c 2).toNat < distN w h n z c then 2 else 3
def nearCell (w h : Int) (n z c : Nat) : Nat := (st w h n c (nearDir w h n z c)).toNat
def nearGap (w h : Int) (n c z : Nat) : Nat := (gapI w h c (nearDir w h n z c)).toNat
/-- The directions of the way, and its gaps. -/
def wayD (w h : Int) (n z : Nat) : Nat → Nat → List Nat
  | 0, _ => []
  | m + 1, c => nearDir w h n z c :: wayD w h n z m (nearCell w h n z c)
theorem nearDir_lt (w h : Int) (n z c : Nat) : nearDir w h n z c < 4 := by
  unfold nearDir
  split
  · omega
  · split
    · omega
    · split <;> omega
/-- There is a direction that leads nearer, and what it leads through. -/
theorem near_facts (hn : n < 2 ^ gapsN w h) (hz : z < cellsN w h) {c : Nat} (hc : c < cellsN w h) (h0 : 0 < distN w h n z c) :
    st w h n c (nearDir w h n z c) = (nearCell w h n z c : Int) ∧ nearCell w h n z c < cellsN w h ∧ distN w h n z (nearCell w h n z c) + 1 = distN w h n z c ∧
    nearGap w h n c z < gapsN w h ∧ gapI w h c (nearDir w h n z c) = (nearGap w h n c z : Int) ∧ n.testBit (nearGap w h n c z) = true ∧
    (ends w h (nearGap w h n c z) = (c, nearCell w h n z c) ∨ ends w h (nearGap w h n c z) = (nearCell w h n z c, c)) ∧
    (∀ d, d < nearDir w h n z c → ¬ (0 ≤ st w h n c d ∧ distN w h n z (st w h n c d).toNat < distN w h n z c)) := by
  have I := distN_dist hn hz
  have N := net_grid hn
  obtain ⟨c', d', hd', hp1, hp2, hp3⟩ := I.pred c h0
  obtain ⟨dd, hdd, hback⟩ := N.bwd_of (I.inr _ hp2) hd' hp1
  have hlt : distN w h n z c' < distN w h n z c := by omega
  have hex : 0 ≤ st w h n c (nearDir w h n z c) ∧ distN w h n z (st w h n c (nearDir w h n z c)).toNat < distN w h n z c := by
    have hq : 0 ≤ st w h n c dd ∧ distN w h n z (st w h n c dd).toNat < distN w h n z c := by rw [hback]; exact ⟨by omega, by simpa using hlt⟩
    unfold nearDir
    split
    · assumption
    · split
      · assumption
      · split
        · assumption
        · have : dd = 0 ∨ dd = 1 ∨ dd = 2 ∨ dd = 3 := by omega
          rcases this with rfl | rfl | rfl | rfl
          · contradiction
          · contradiction
          · contradiction
          · exact hq
  have h4 := nearDir_lt w h n z c
  have hcell : st w h n c (nearDir w h n z c) = (nearCell w h n z c : Int) := by unfold nearCell; omega
  have hcl : nearCell w h n z c < cellsN w h := by
    have := N.rng c (nearDir w h n z c) hc h4
    rw [hcell] at this
    omega
  have hnear := I.near N hc h4 hcell
  have hl2 : distN w h n z (nearCell w h n z c) < distN w h n z c := by have := hex.2; unfold nearCell; exact this
  obtain ⟨g, g1, g2, g3, g4, g5⟩ := step_open (w := w) (h := h) (c := c) (d := nearDir w h n z c) hn hex.1
  have hgap : nearGap w h n c z = g := by unfold nearGap; omega
  have hnb : nbI w h c (nearDir w h n z c) = (nearCell w h n z c : Int) := by rw [← hcell, ← g4]; rfl
  refine ⟨hcell, hcl, by omega, by omega, by rw [hgap]; exact g2, by rw [hgap]; exact g3, ?_, ?_⟩
  · rw [hgap]
    unfold ends
    rw [g5, hnb]
    rcases Int.le_total (c : Int) (nearCell w h n z c : Int) with hl | hl
    · left; rw [Int.min_eq_left hl, Int.max_eq_right hl]; simp
    · right; rw [Int.min_eq_right hl, Int.max_eq_left hl]; simp
  · intro d hd
    unfold nearDir at hd
    split at hd
    · omega
    · split at hd
      · obtain rfl : d = 0 := by omega
        assumption
      · split at hd
        · have : d = 0 ∨ d = 1 := by omega
          rcases this with rfl | rfl <;> assumption
        · have : d = 0 ∨ d = 1 ∨ d = 2 := by omega
          rcases this with rfl | rfl | rfl <;> assumption
theorem wayD_len (m c : Nat) : (wayD w h n z m c).length = m := by
  induction m generalizing c with
  | zero => rfl
  | succ m ih => simp [wayD, ih]
end
end Go.Proofs.Ytcajhmldbkfhiaa.P
namespace Go.Proofs.Ytcajhmldbkfhiaa.P
open Go.RowKit Go.Proofs.YtcajhmldbkfhiaaW.PrintWords Go.Proofs.YtcajhmldbkfhiaaW.PrintLast Go.Proofs.YtcajhmldbkfhiaaW.PrintMore
attribute [local go_sem] max2_int min2_int max_two min_two max_three min_three max_four min_four   -- for this text's walks alone
set_option linter.unusedVariables false
set_option linter.unusedSimpArgs false

/-! ### bits_Mul64: function 173 -/
/-! ### bits_Mul: function 170 -/
/-! ### slices_Repeat_int_int: function 160 -/
end Go.Proofs.Ytcajhmldbkfhiaa.P
namespace Go.Proofs.YtcajhmldbkfhiaaW.PrintWords
open Go.ChangeShapes Go.WideShapes
/-- A row's slice of whole numbers is no longer than its weight allows. -/
theorem sized_ints {H : Type} {enc : TypeId × Value → H} {P : Program} {W : World} {base : Nat} {spare : Nat → Bool} {held : Bool} {t e : TypeId} {k : IntKind} {a : Option Addr} {len cap : Nat} {d : DataW H} {ps : List MemPlace} {ts : List TypeId} {ds : List (DataW H)} {j : Nat}
    (hsz : (DataW.weightsEach P ts ds).all (· ≤ reachBytes) = true) (ht : ts[j]? = some t) (hd : ds[j]? = some d) (hu : P.underlying t = some (.slice e)) (he : P.underlying e = some (.int k)) (hc : P.cellsOf e = 1) {B : Nat} (hB : P.bytesOf e = B)
    (h : DataW.Trod enc P W base spare held t (.slice a len cap) d ps) : len * B ≤ 140737488351232 := by
  obtain ⟨fuel, hf⟩ := h
  rcases open_ints hu he hc hf with ⟨hcs, _⟩ | ⟨x, l, c, zs, hcs, _, hl, _, hz, hx, _, _⟩
  · simp [Value.cells] at hcs
    obtain ⟨rfl, rfl, rfl⟩ := hcs
    simp
  · simp [Value.cells] at hcs
    obtain ⟨rfl, rfl, rfl⟩ := hcs
    obtain ⟨hx, _⟩ := Prod.mk.inj hx
    subst hx
    have z := sized_slice hsz ht hd hu
    rw [hB] at z
    have hl2 : len ≤ zs.length := by
      rw [hz]
      split
      · exact hl
      · exact Nat.le_refl _
    have h1 : (lits (H := H) k (zs.take len)).length + (lits (H := H) k (zs.drop len)).length = zs.length := by
      simp [lits]
      omega
    rw [h1] at z
    exact Nat.le_trans (Nat.mul_le_mul_right _ hl2) z
end Go.Proofs.YtcajhmldbkfhiaaW.PrintWords
