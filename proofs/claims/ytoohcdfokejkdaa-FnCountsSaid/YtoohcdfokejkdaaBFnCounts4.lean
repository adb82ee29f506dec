/- The statement FnCounts of the seat, out of its plain form (FnCounts_pure) and the walk of its Go function. Part 4 of 6: each Go function's walk, then the plain lemmas, then the row. No condition: it holds for every input. -/
import Derived.Test.YtoohcdfokejkdaaBFnCounts3
namespace Go.Proofs.Ytoohcdfokejkdaa.P
open Go.RowKit Go.Proofs.YtoohcdfokejkdaaW.PrintWords Go.Proofs.YtoohcdfokejkdaaW.PrintLast Go.Proofs.YtoohcdfokejkdaaW.PrintMore
attribute [local go_sem] max2_int min2_int max_two min_two max_three min_three max_four min_four   -- for this text's walks alone
set_option linter.unusedVariables false
set_option linter.unusedSimpArgs false

/-! ### impl_CountFixed: function 34 -/
mutual
def impl_CountFixed.j0 : Nat → Int → Int → Bool → Int → Int → Option (Int)
  | 0, _, _, _, _, _ => none
  | k + 1, x1, x2, x48, x102000, x102001 => if x48 = true then (some 0) else ((impl_CountLoops.f k x102000 x102001 x1).bind fun t105 => (if t105 > 0 then (some 0) else ((impl_CountCells.f x102000 x102001).bind fun t106 => (if 0 ≤ t106 then (if (t106 : Int).toNat ≤ 35184372088832 then ((some (List.replicate (t106 : Int).toNat 0 : List Int)).bind fun y107 => (impl_CountFixed.l0 k x1 x2 y107 0 (y107.length : Int) 0 x102000 x102001 x102000 x102001 x1)) else (none)) else (none)))))
def impl_CountFixed.l0 : Nat → Int → Int → List Int → Int → Int → Int → Int → Int → Int → Int → Int → Option (Int)
  | 0, _, _, _, _, _, _, _, _, _, _, _ => none
  | k + 1, x1, x2, x9, x10, x59, x60, x102000, x102001, x105000, x105001, x105002 => if x60 < x59 then ((impl_Reached.f k x105000 x105001 x105002 x60).bind fun t110 => (if 0 < (t110.length : Int) then (if (rd t110 0) < x60 then (if 0 ≤ (rd t110 0) then (if (rd t110 0) < (x9.length : Int) then (if 0 ≤ x60 then (if x60 < (x9.length : Int) then (impl_CountFixed.l0 k x1 x2 (x9.set (x60 : Int).toNat (rd x9 (rd t110 0))) x10 x59 (wrap64 (x60 + 1)) x102000 x102001 x105000 x105001 x105002) else (none)) else (none)) else (none)) else (none)) else (if 0 ≤ x60 then (if x60 < (x9.length : Int) then (impl_CountFixed.l0 k x1 x2 (x9.set (x60 : Int).toNat x10) (wrap64 (x10 + 1)) x59 (wrap64 (x60 + 1)) x102000 x102001 x105000 x105001 x105002) else (none)) else (none))) else (none))) else (if 0 ≤ x10 then (if (x10 : Int).toNat ≤ 11728124029610 then ((some (List.replicate (x10 : Int).toNat [] : List (List Int))).bind fun y117 => (impl_CountFixed.l1 k x1 x2 x9 x10 y117 (y117.length : Int) 0 x102000 x102001)) else (none)) else (none))
def impl_CountFixed.l1 : Nat → Int → Int → List Int → Int → List (List Int) → Int → Int → Int → Int → Option (Int)
  | 0, _, _, _, _, _, _, _, _, _ => none
  | k + 1, x1, x2, x9, x10, x13, x88, x89, x102000, x102001 => if x89 < x88 then (if 0 ≤ x10 then (if (x10 : Int).toNat ≤ 35184372088832 then (if 0 ≤ x89 then (if x89 < (x13.length : Int) then (impl_CountFixed.l1 k x1 x2 x9 x10 (x13.set (x89 : Int).toNat (List.replicate (x10 : Int).toNat 0)) x88 (wrap64 (x89 + 1)) x102000 x102001) else (none)) else (none)) else (none)) else (none)) else (impl_CountFixed.l2 k x1 x2 x9 x13 0 x102000 x102001)
def impl_CountFixed.l2 : Nat → Int → Int → List Int → List (List Int) → Int → Int → Int → Option (Int)
  | 0, _, _, _, _, _, _, _ => none
  | k + 1, x1, x2, x9, x13, x15, x102000, x102001 => (impl_CountGaps.f x102000 x102001).bind fun t124 => (if x15 < t124 then (if 0 ≤ x15 then (if (Go.bits .and .i64 (shr .i64 (Go.bits .or .i64 x1 x2) x15) 1) = 1 then (impl_CountFixed.l2 k x1 x2 x9 x13 (wrap64 (x15 + 1)) x102000 x102001) else ((impl_EndsOf.f x102000 x102001 x15).bind fun bt125 => (if 0 ≤ bt125.1 then (if bt125.1 < (x9.length : Int) then (if 0 ≤ bt125.2 then (if bt125.2 < (x9.length : Int) then (if 0 ≤ (rd x9 bt125.1) then (if (rd x9 bt125.1) < (x13.length : Int) then (if (rd x9 bt125.1) < ((rd_L2 x13 (rd x9 bt125.1)).length : Int) then ((some (x13.set ((rd x9 bt125.1) : Int).toNat ((rd_L2 x13 (rd x9 bt125.1)).set ((rd x9 bt125.1) : Int).toNat (wrap64 ((rd (rd_L2 x13 (rd x9 bt125.1)) (rd x9 bt125.1)) + 1))) : List (List Int))).bind fun y133 => (if 0 ≤ (rd x9 bt125.2) then (if (rd x9 bt125.2) < (x13.length : Int) then (if (rd x9 bt125.2) < ((rd_L2 y133 (rd x9 bt125.2)).length : Int) then ((some (y133.set ((rd x9 bt125.2) : Int).toNat ((rd_L2 y133 (rd x9 bt125.2)).set ((rd x9 bt125.2) : Int).toNat (wrap64 ((rd (rd_L2 y133 (rd x9 bt125.2)) (rd x9 bt125.2)) + 1))) : List (List Int))).bind fun y138 => (if (rd x9 bt125.2) < ((rd_L2 y138 (rd x9 bt125.1)).length : Int) then ((some (y138.set ((rd x9 bt125.1) : Int).toNat ((rd_L2 y138 (rd x9 bt125.1)).set ((rd x9 bt125.2) : Int).toNat (wrap64 ((rd (rd_L2 y138 (rd x9 bt125.1)) (rd x9 bt125.2)) - 1))) : List (List Int))).bind fun y143 => (if (rd x9 bt125.1) < ((rd_L2 y143 (rd x9 bt125.2)).length : Int) then (impl_CountFixed.l2 k x1 x2 x9 (y143.set ((rd x9 bt125.2) : Int).toNat ((rd_L2 y143 (rd x9 bt125.2)).set ((rd x9 bt125.1) : Int).toNat (wrap64 ((rd (rd_L2 y143 (rd x9 bt125.2)) (rd x9 bt125.1)) - 1)))) (wrap64 (x15 + 1)) x102000 x102001) else (none))) else (none))) else (none)) else (none)) else (none))) else (none)) else (none)) else (none)) else (none)) else (none)) else (none)) else (none)))) else (none)) else ((impl_without.f k x13 0).bind fun t149 => ((impl_determinant.f k t149).bind fun t152 => (some t152))))
end
def impl_CountFixed.f (k : Nat) (a0_0 : Int) (a0_1 : Int) (a1 : Int) (a2 : Int) : Option (Int) := (impl_CountGaps.f a0_0 a0_1).bind fun t102 => (if 0 ≤ t102 then ((impl_GridOk.f a0_0 a0_1).bind fun t103 => (if t103 = true then (if a1 < 0 then (impl_CountFixed.j0 k a1 a2 true a0_0 a0_1) else (if a1 > (wrap64 ((shl .i64 1 t102) - 1)) then (impl_CountFixed.j0 k a1 a2 true a0_0 a0_1) else (if a2 < 0 then (impl_CountFixed.j0 k a1 a2 true a0_0 a0_1) else (if a2 > (wrap64 ((shl .i64 1 t102) - 1)) then (impl_CountFixed.j0 k a1 a2 true a0_0 a0_1) else (impl_CountFixed.j0 k a1 a2 ((Go.bits .and .i64 a1 a2) != 0) a0_0 a0_1))))) else (impl_CountFixed.j0 k a1 a2 true a0_0 a0_1))) else (none))
theorem cell_at {w W : World} {n : Nat} (h : World.drewN w n = W) {p : Addr} {v : Option Value} (hc : w.cell? p = v) : W.cell? p = v := by subst h; exact hc
set_option maxHeartbeats 8000000 in
set_option maxRecDepth 100000 in
theorem impl_CountFixed.calls (k : Nat) (a0_0 : Int) (a0_1 : Int) (a1 : Int) (a2 : Int) (r : Int) (w : World) (h : impl_CountFixed.f k a0_0 a0_1 a1 a2 = some r) :
    Calls Try.prog 34 #[.agg #[.int .i64 a0_0, .int .i64 a0_1], .int .i64 a1, .int .i64 a2] w fun e w' => e = .returned (.int .i64 r) ∧ Below w.heap.size w w' := by
  have hu40 := Try.underlying40
  have hu42 := Try.underlying42
  have HB := Aside0.mk (Below.refl w.heap.size w)
  have H : ((impl_CountGaps.f a0_0 a0_1).bind fun t102 => (if 0 ≤ t102 then ((impl_GridOk.f a0_0 a0_1).bind fun t103 => (if t103 = true then (if a1 < 0 then (impl_CountFixed.j0 k a1 a2 true a0_0 a0_1) else (if a1 > (wrap64 ((shl .i64 1 t102) - 1)) then (impl_CountFixed.j0 k a1 a2 true a0_0 a0_1) else (if a2 < 0 then (impl_CountFixed.j0 k a1 a2 true a0_0 a0_1) else (if a2 > (wrap64 ((shl .i64 1 t102) - 1)) then (impl_CountFixed.j0 k a1 a2 true a0_0 a0_1) else (impl_CountFixed.j0 k a1 a2 ((Go.bits .and .i64 a1 a2) != 0) a0_0 a0_1))))) else (impl_CountFixed.j0 k a1 a2 true a0_0 a0_1))) else (none))) = some r := h
  clear h
  obtain ⟨t102, A40, H⟩ := Option.bind_eq_some_iff.mp H
  (try dsimp only at H); have A4 := Aside0.mk A40; clear A40
  replace H := iN_ H; obtain ⟨c5, H⟩ := H
  have c5b0 := eq_true c5
  have c5b1 : decide (0 ≤ t102) = true := decide_eq_true c5
  clear c5
  obtain ⟨ji6, hji6⟩ : ∃ j_ : Int, (shl .i64 1 t102) = j_ := ⟨_, rfl⟩
  replace H : ((impl_GridOk.f a0_0 a0_1).bind fun t103 => (if t103 = true then (if a1 < 0 then (impl_CountFixed.j0 k a1 a2 true a0_0 a0_1) else (if a1 > (wrap64 ((ji6) - 1)) then (impl_CountFixed.j0 k a1 a2 true a0_0 a0_1) else (if a2 < 0 then (impl_CountFixed.j0 k a1 a2 true a0_0 a0_1) else (if a2 > (wrap64 ((ji6) - 1)) then (impl_CountFixed.j0 k a1 a2 true a0_0 a0_1) else (impl_CountFixed.j0 k a1 a2 ((Go.bits .and .i64 a1 a2) != 0) a0_0 a0_1))))) else (impl_CountFixed.j0 k a1 a2 true a0_0 a0_1))) = some r := by (rw [hji6] at H; exact H)
  (try rw [hji6] at A4)
  have hji6_ : (IntKind.i64.wrap (1 * 2 ^ min t102.toNat 64)) = ji6 := hji6
  have hji6z : t102 ≤ 64 → (IntKind.i64.wrap (1 * 2 ^ t102.toNat)) = ji6 := shl_small hji6
  have hji6u : (IntKind.i64.wrap (2 ^ min t102.toNat 64)) = ji6 := by have h_ := hji6_; rw [Int.one_mul] at h_; exact h_
  have hji6v : t102 ≤ 64 → (IntKind.i64.wrap (2 ^ t102.toNat)) = ji6 := fun hle_ => by have h_ := hji6z hle_; rw [Int.one_mul] at h_; exact h_
  have hji6y : (wrap64 (1 * 2 ^ min t102.toNat 64)) = ji6 := (i64_w _).symm.trans hji6_
  have hji6x : t102 ≤ 64 → (wrap64 (1 * 2 ^ t102.toNat)) = ji6 := fun h_ => (i64_w _).symm.trans (hji6z h_)
  have HC7 := Aside0.mk H
  clear H
  go_enter Try.func34, Try.ntmps34
  go_upto_region 2 with (first | ((with_reducible refine gate_dst (N := 3) rfl ?_); refine box_event ?hg (N := 3) ?hd (cs := #[.int .i64 a0_0, .int .i64 a0_1]) (t := 40) ?hr ?_; (case hd => rfl); (case hg => rfl); (case hr => (go_simp; done)); intro gb101 hg w8 hbox hb; have n0_ := Aside0.mk (below_step HB.out hb); have n1_ := Aside0.mk (hbox); have n2_ := Aside0.mk ((by rw [hg]; exact (below_size HB.out) : w.heap.size ≤ gb101)); have n3_ := Aside0.mk ((by rw [hg]; exact (below_size HB.out) : w.heap.size ≤ gb101)); clear HB; have HB := n0_; have BK101 := n1_; have GW101 := n2_; have GE101 := n3_; clear n0_ n1_ n2_ n3_; clear hb hbox hg; obtain ⟨hcz9_0, hcz9_1⟩ := kk2_ BK101.1; have hfz9_0 := blk_frozen BK101.out 0; have hfz9_1 := blk_frozen BK101.out 1) | (go_at_call 78; (with_reducible refine (impl_CountGaps.calls a0_0 a0_1 t102 _ A4.out).mono ?_); rintro e w10 ⟨rfl, hb⟩; have n0_ := Aside0.mk (blk_below (g := gb101) (o := .cells #[.int .i64 a0_0, .int .i64 a0_1] 40 (0, 0)) BK101.out hb); have n1_ := Aside0.mk (below_step HB.out hb); clear BK101; clear HB; have BK101 := n0_; have HB := n1_; clear n0_ n1_; (try clear hb); (try clear hb2); (try clear hk); (try clear hi)))
  repeat (go_quiet (fail); go_upto_region 2 with (fail))
  (try simp only [Act.put, List.setIfInBounds_toArray, List.set_cons_zero, List.set_cons_succ])
  go_cut [48] (fun v48 wc => ∃ (kq : Nat) (x48_6 : Bool), v48 = .bool x48_6 ∧ Aside0 (impl_CountFixed.j0 kq a1 a2 x48_6 a0_0 a0_1 = some r) ∧ Aside0 (kq ≤ k) ∧ Aside0 (wc.heap[gb101]? = some (.cells #[.int .i64 a0_0, .int .i64 a0_1] 40 (0, 0))) ∧ Aside0 (Below w.heap.size w wc))
  case first =>
    have H := HC7.out
    clear HC7
    obtain ⟨t103, A110, H⟩ := Option.bind_eq_some_iff.mp H
    (try dsimp only at H); have A11 := Aside0.mk A110; clear A110
    by_cases c12 : t103 = true
    · subst c12
      rw [if_pos rfl] at H
      by_cases c13 : a1 < 0
      · rw [if_pos c13] at H
        have c13b0 : decide (a1 < 0) = true := decide_eq_true c13
        clear c13
        (skip)
        have H' := Aside0.mk H
        clear H
        obtain ⟨hcz14_0, hcz14_1⟩ := kk2_ BK101.1
        have hfz14_0 := blk_frozen BK101.out 0
        have hfz14_1 := blk_frozen BK101.out 1
        go_wp2_with ((go_at_call 79; (with_reducible refine (impl_GridOk.calls a0_0 a0_1 true _ A11.out).mono ?_); rintro e w15 ⟨rfl, hb⟩; have n0_ := Aside0.mk (blk_below (g := gb101) (o := .cells #[.int .i64 a0_0, .int .i64 a0_1] 40 (0, 0)) BK101.out hb); have n1_ := Aside0.mk (below_step HB.out hb); clear BK101; clear HB; have BK101 := n0_; have HB := n1_; clear n0_ n1_; (try clear hb); (try clear hb2); (try clear hk); (try clear hi)))
        repeat (go_quiet (fail); try go_wp2_with (fail))
        go_meet
        case rel => exact ⟨_, (true), (by rfl), H', ⟨by omega⟩, ⟨by exact BK101.out⟩, ⟨by repeat ((with_reducible exact HB.out))⟩⟩
      · rw [if_neg c13] at H
        have c13b0 : decide (a1 < 0) = false := decide_eq_false c13
        clear c13
        (skip)
        by_cases c16 : a1 > (wrap64 ((ji6) - 1))
        · rw [if_pos c16] at H
          have c16b0 : decide ((wrap64 ((ji6) - 1)) < a1) = true := decide_eq_true c16
          clear c16
          have H' := Aside0.mk H
          clear H
          obtain ⟨hcz17_0, hcz17_1⟩ := kk2_ BK101.1
          have hfz17_0 := blk_frozen BK101.out 0
          have hfz17_1 := blk_frozen BK101.out 1
          go_wp2_with ((go_at_call 79; (with_reducible refine (impl_GridOk.calls a0_0 a0_1 true _ A11.out).mono ?_); rintro e w18 ⟨rfl, hb⟩; have n0_ := Aside0.mk (blk_below (g := gb101) (o := .cells #[.int .i64 a0_0, .int .i64 a0_1] 40 (0, 0)) BK101.out hb); have n1_ := Aside0.mk (below_step HB.out hb); clear BK101; clear HB; have BK101 := n0_; have HB := n1_; clear n0_ n1_; (try clear hb); (try clear hb2); (try clear hk); (try clear hi)))
          repeat (go_quiet (fail); try go_wp2_with (fail))
          go_meet
          case rel => exact ⟨_, (true), (by rfl), H', ⟨by omega⟩, ⟨by exact BK101.out⟩, ⟨by repeat ((with_reducible exact HB.out))⟩⟩
        · rw [if_neg c16] at H
          have c16b0 : decide ((wrap64 ((ji6) - 1)) < a1) = false := decide_eq_false c16
          clear c16
          by_cases c19 : a2 < 0
          · rw [if_pos c19] at H
            have c19b0 : decide (a2 < 0) = true := decide_eq_true c19
            clear c19
            have H' := Aside0.mk H
            clear H
            obtain ⟨hcz20_0, hcz20_1⟩ := kk2_ BK101.1
            have hfz20_0 := blk_frozen BK101.out 0
            have hfz20_1 := blk_frozen BK101.out 1
            go_wp2_with ((go_at_call 79; (with_reducible refine (impl_GridOk.calls a0_0 a0_1 true _ A11.out).mono ?_); rintro e w21 ⟨rfl, hb⟩; have n0_ := Aside0.mk (blk_below (g := gb101) (o := .cells #[.int .i64 a0_0, .int .i64 a0_1] 40 (0, 0)) BK101.out hb); have n1_ := Aside0.mk (below_step HB.out hb); clear BK101; clear HB; have BK101 := n0_; have HB := n1_; clear n0_ n1_; (try clear hb); (try clear hb2); (try clear hk); (try clear hi)))
            repeat (go_quiet (fail); try go_wp2_with (fail))
            go_meet
            case rel => exact ⟨_, (true), (by rfl), H', ⟨by omega⟩, ⟨by exact BK101.out⟩, ⟨by repeat ((with_reducible exact HB.out))⟩⟩
          · rw [if_neg c19] at H
            have c19b0 : decide (a2 < 0) = false := decide_eq_false c19
            clear c19
            by_cases c22 : a2 > (wrap64 ((ji6) - 1))
            · rw [if_pos c22] at H
              have c22b0 : decide ((wrap64 ((ji6) - 1)) < a2) = true := decide_eq_true c22
              clear c22
              have H' := Aside0.mk H
              clear H
              obtain ⟨hcz23_0, hcz23_1⟩ := kk2_ BK101.1
              have hfz23_0 := blk_frozen BK101.out 0
              have hfz23_1 := blk_frozen BK101.out 1
              go_wp2_with ((go_at_call 79; (with_reducible refine (impl_GridOk.calls a0_0 a0_1 true _ A11.out).mono ?_); rintro e w24 ⟨rfl, hb⟩; have n0_ := Aside0.mk (blk_below (g := gb101) (o := .cells #[.int .i64 a0_0, .int .i64 a0_1] 40 (0, 0)) BK101.out hb); have n1_ := Aside0.mk (below_step HB.out hb); clear BK101; clear HB; have BK101 := n0_; have HB := n1_; clear n0_ n1_; (try clear hb); (try clear hb2); (try clear hk); (try clear hi)))
              repeat (go_quiet (fail); try go_wp2_with (fail))
              go_meet
              case rel => exact ⟨_, (true), (by rfl), H', ⟨by omega⟩, ⟨by exact BK101.out⟩, ⟨by repeat ((with_reducible exact HB.out))⟩⟩
            · rw [if_neg c22] at H
              have c22b0 : decide ((wrap64 ((ji6) - 1)) < a2) = false := decide_eq_false c22
              clear c22
              have H' := Aside0.mk H
              clear H
              obtain ⟨hcz25_0, hcz25_1⟩ := kk2_ BK101.1
              have hfz25_0 := blk_frozen BK101.out 0
              have hfz25_1 := blk_frozen BK101.out 1
              go_wp2_with ((go_at_call 79; (with_reducible refine (impl_GridOk.calls a0_0 a0_1 true _ A11.out).mono ?_); rintro e w26 ⟨rfl, hb⟩; have n0_ := Aside0.mk (blk_below (g := gb101) (o := .cells #[.int .i64 a0_0, .int .i64 a0_1] 40 (0, 0)) BK101.out hb); have n1_ := Aside0.mk (below_step HB.out hb); clear BK101; clear HB; have BK101 := n0_; have HB := n1_; clear n0_ n1_; (try clear hb); (try clear hb2); (try clear hk); (try clear hi)))
              repeat (go_quiet (fail); try go_wp2_with (fail))
              go_meet
              case rel => exact ⟨_, (((Go.bits .and .i64 a1 a2) != 0)), (by rfl), H', ⟨by omega⟩, ⟨by exact BK101.out⟩, ⟨by repeat ((with_reducible exact HB.out))⟩⟩
    · replace c12 := Bool.eq_false_iff.mpr c12
      subst c12
      have H1 : (impl_CountFixed.j0 k a1 a2 true a0_0 a0_1) = some r := by rw [if_neg (show ¬ (false = true) by decide)] at H; exact H
      clear H
      have H := H1
      clear H1
      have H' := Aside0.mk H
      clear H
      obtain ⟨hcz27_0, hcz27_1⟩ := kk2_ BK101.1
      have hfz27_0 := blk_frozen BK101.out 0
      have hfz27_1 := blk_frozen BK101.out 1
      go_wp2_with ((go_at_call 79; (with_reducible refine (impl_GridOk.calls a0_0 a0_1 false _ A11.out).mono ?_); rintro e w28 ⟨rfl, hb⟩; have n0_ := Aside0.mk (blk_below (g := gb101) (o := .cells #[.int .i64 a0_0, .int .i64 a0_1] 40 (0, 0)) BK101.out hb); have n1_ := Aside0.mk (below_step HB.out hb); clear BK101; clear HB; have BK101 := n0_; have HB := n1_; clear n0_ n1_; (try clear hb); (try clear hb2); (try clear hk); (try clear hi)))
      repeat (go_quiet (fail); try go_wp2_with (fail))
      go_meet
      case rel => exact ⟨_, (true), (by rfl), H', ⟨by omega⟩, ⟨by exact BK101.out⟩, ⟨by repeat ((with_reducible exact HB.out))⟩⟩
  case rest =>
    clear HC7; try clear c1; try clear c2; try clear p2; try clear c3; try clear c5; try clear c5b0; try clear c5b1; try clear p6; try clear c12; try clear c13; try clear c13b0; try clear c16; try clear c16b0; try clear c19; try clear c19b0; try clear c22; try clear c22b0; try clear hcz14_0; try clear hcz14_1; try clear hcz17_0; try clear hcz17_1; try clear hcz20_0; try clear hcz20_1; try clear hcz23_0; try clear hcz23_1; try clear hcz25_0; try clear hcz25_1; try clear hcz27_0; try clear hcz27_1; try clear hcz9_0; try clear hcz9_1; try clear hfz14_0; try clear hfz14_1; try clear hfz17_0; try clear hfz17_1; try clear hfz20_0; try clear hfz20_1; try clear hfz23_0; try clear hfz23_1; try clear hfz25_0; try clear hfz25_1; try clear hfz27_0; try clear hfz27_1; try clear hfz9_0; try clear hfz9_1
    obtain ⟨kq, x48_6, rfl, HA, HJ6, BK101, HB⟩ := hcut
    cases kq with
    | zero => exact absurd HA.out (by simp [impl_CountFixed.j0])
    | succ kj6 =>
      have H := HA.out
      clear HA
      simp only [impl_CountFixed.j0] at H
      by_cases c29 : x48_6 = true
      · subst c29
        rw [if_pos rfl] at H
        obtain rfl := Option.some.inj H
        go_wp2
        repeat (go_quiet (fail); try go_wp2)
        go_ret
        exact ⟨by rfl, by repeat ((with_reducible exact HB.out))⟩
      · replace c29 := Bool.eq_false_iff.mpr c29
        subst c29
        have H1 : ((impl_CountLoops.f kj6 a0_0 a0_1 a1).bind fun t105 => (if t105 > 0 then (some 0) else ((impl_CountCells.f a0_0 a0_1).bind fun t106 => (if 0 ≤ t106 then (if (t106 : Int).toNat ≤ 35184372088832 then ((some (List.replicate (t106 : Int).toNat 0 : List Int)).bind fun y107 => (impl_CountFixed.l0 kj6 a1 a2 y107 0 (y107.length : Int) 0 a0_0 a0_1 a0_0 a0_1 a1)) else (none)) else (none))))) = some r := by rw [if_neg (show ¬ (false = true) by decide)] at H; exact H
        clear H
        have H := H1
        clear H1
        obtain ⟨t105, A300, H⟩ := Option.bind_eq_some_iff.mp H
        (try dsimp only at H); have A30 := Aside0.mk A300; clear A300
        by_cases c31 : t105 > 0
        · rw [if_pos c31] at H
          have c31b0 : decide (0 < t105) = true := decide_eq_true c31
          clear c31
          obtain rfl := Option.some.inj H
          obtain ⟨hcz32_0, hcz32_1⟩ := kk2_ BK101.1
          have hfz32_0 := blk_frozen BK101.out 0
          have hfz32_1 := blk_frozen BK101.out 1
          go_wp2_with (first | ((with_reducible refine gate_dst (N := 8) rfl ?_); refine box_event ?hg (N := 8) ?hd (cs := #[.int .i64 0, .int .i64 0, .int .i64 0]) (t := 42) ?hr ?_; (case hd => rfl); (case hg => rfl); (case hr => (go_simp; done)); intro gb104 hg w33 hbox hb; have n0_ := Aside0.mk (blk_below (g := gb101) (o := .cells #[.int .i64 a0_0, .int .i64 a0_1] 40 (0, 0)) BK101.out hb); have n1_ := Aside0.mk (below_step HB.out hb); have n2_ := Aside0.mk (hbox); have n3_ := Aside0.mk ((by rw [hg]; exact (below_size HB.out) : w.heap.size ≤ gb104)); have n4_ := Aside0.mk ((by rw [hg]; exact (below_size HB.out) : w.heap.size ≤ gb104)); have n5_ := Aside0.mk ((by rw [hg]; exact Nat.ne_of_lt (blk_lt (g := gb101) (o := .cells #[.int .i64 a0_0, .int .i64 a0_1] 40 (0, 0)) BK101.out) : gb101 ≠ gb104)); have n6_ := Aside0.mk ((by rw [hg]; exact Nat.ne_of_gt (blk_lt (g := gb101) (o := .cells #[.int .i64 a0_0, .int .i64 a0_1] 40 (0, 0)) BK101.out) : gb104 ≠ gb101)); clear BK101; clear HB; have BK101 := n0_; have HB := n1_; have BK104 := n2_; have GW104 := n3_; have GE104 := n4_; have NB101_104 := n5_; have NB104_101 := n6_; clear n0_ n1_ n2_ n3_ n4_ n5_ n6_; clear hb hbox hg; have hnb34 := NB104_101.out; have hnc34 := NB101_104.out; obtain ⟨hcz35_0, hcz35_1, hcz35_2⟩ := kk3_ BK104.1; have hfz35_0 := blk_frozen BK104.out 0; have hfz35_1 := blk_frozen BK104.out 1; have hfz35_2 := blk_frozen BK104.out 2) | (go_at_call 80; (with_reducible refine (impl_CountLoops.calls kj6 a0_0 a0_1 a1 t105 _ A30.out).mono ?_); rintro e w36 ⟨rfl, hb⟩; have n0_ := Aside0.mk (blk_below (g := gb101) (o := .cells #[.int .i64 a0_0, .int .i64 a0_1] 40 (0, 0)) (by refine blk_far ?_ NB101_104.out _; refine blk_far ?_ NB101_104.out _; refine blk_far ?_ NB101_104.out _; exact BK101.out) hb); have n1_ := Aside0.mk (blk_below (g := gb104) (o := .cells #[.int .i64 a0_0, .int .i64 a0_1, .int .i64 a1] 42 (0, 0)) (by refine blk_put (cs := #[.int .i64 a0_0, .int .i64 a0_1, .int .i64 0]) ?_ 2 _ rfl; refine blk_put (cs := #[.int .i64 a0_0, .int .i64 0, .int .i64 0]) ?_ 1 _ rfl; refine blk_put (cs := #[.int .i64 0, .int .i64 0, .int .i64 0]) ?_ 0 _ rfl; exact BK104.out) hb); have n2_ := Aside0.mk (below_step (by repeat ((with_reducible first | exact HB.out | refine below_set ?_ GE104.out))) hb); clear BK101; clear BK104; clear HB; have BK101 := n0_; have BK104 := n1_; have HB := n2_; clear n0_ n1_ n2_; (try clear hb); (try clear hb2); (try clear hk); (try clear hi)))
          repeat (go_quiet (fail); try go_wp2_with (fail))
          go_ret
          exact ⟨by rfl, by repeat ((with_reducible exact HB.out))⟩
        · rw [if_neg c31] at H
          have c31b0 : decide (0 < t105) = false := decide_eq_false c31
          clear c31
          obtain ⟨t106, A370, H⟩ := Option.bind_eq_some_iff.mp H
          (try dsimp only at H); have A37 := Aside0.mk A370; clear A370
          replace H := iN_ H; obtain ⟨c38, H⟩ := H
          have c38b0 := eq_true c38
          have c38b1 : decide (0 ≤ t106) = true := decide_eq_true c38
          clear c38
          replace H := iN_ H; obtain ⟨c39, H⟩ := H
          have c39b0 := eq_true c39
          have c39b1 : decide ((t106 : Int).toNat ≤ 35184372088832) = true := decide_eq_true c39
          clear c39
          obtain ⟨y107, hy107⟩ : ∃ y_ : List Int, y_ = (List.replicate (t106 : Int).toNat 0) := ⟨_, rfl⟩
          replace H : (impl_CountFixed.l0 kj6 a1 a2 y107 0 (y107.length : Int) 0 a0_0 a0_1 a0_0 a0_1 a1) = some r := by (have H2_ := (Option.bind_some _ _).symm.trans H; rw [hy107]; with_reducible exact H2_)
          have Ny107 := Aside0.mk hy107
          clear hy107
          have H' := Aside0.mk H
          clear H
          obtain ⟨hcz40_0, hcz40_1⟩ := kk2_ BK101.1
          have hfz40_0 := blk_frozen BK101.out 0
          have hfz40_1 := blk_frozen BK101.out 1
          go_wp2_with (first | ((with_reducible refine gate_dst (N := 8) rfl ?_); refine box_event ?hg (N := 8) ?hd (cs := #[.int .i64 0, .int .i64 0, .int .i64 0]) (t := 42) ?hr ?_; (case hd => rfl); (case hg => rfl); (case hr => (go_simp; done)); intro gb104 hg w41 hbox hb; have n0_ := Aside0.mk (blk_below (g := gb101) (o := .cells #[.int .i64 a0_0, .int .i64 a0_1] 40 (0, 0)) BK101.out hb); have n1_ := Aside0.mk (below_step HB.out hb); have n2_ := Aside0.mk (hbox); have n3_ := Aside0.mk ((by rw [hg]; exact (below_size HB.out) : w.heap.size ≤ gb104)); have n4_ := Aside0.mk ((by rw [hg]; exact (below_size HB.out) : w.heap.size ≤ gb104)); have n5_ := Aside0.mk ((by rw [hg]; exact Nat.ne_of_lt (blk_lt (g := gb101) (o := .cells #[.int .i64 a0_0, .int .i64 a0_1] 40 (0, 0)) BK101.out) : gb101 ≠ gb104)); have n6_ := Aside0.mk ((by rw [hg]; exact Nat.ne_of_gt (blk_lt (g := gb101) (o := .cells #[.int .i64 a0_0, .int .i64 a0_1] 40 (0, 0)) BK101.out) : gb104 ≠ gb101)); clear BK101; clear HB; have BK101 := n0_; have HB := n1_; have BK104 := n2_; have GW104 := n3_; have GE104 := n4_; have NB101_104 := n5_; have NB104_101 := n6_; clear n0_ n1_ n2_ n3_ n4_ n5_ n6_; clear hb hbox hg; have hnb42 := NB104_101.out; have hnc42 := NB101_104.out; obtain ⟨hcz43_0, hcz43_1, hcz43_2⟩ := kk3_ BK104.1; have hfz43_0 := blk_frozen BK104.out 0; have hfz43_1 := blk_frozen BK104.out 1; have hfz43_2 := blk_frozen BK104.out 2) | (go_at_call 80; (with_reducible refine (impl_CountLoops.calls kj6 a0_0 a0_1 a1 t105 _ A30.out).mono ?_); rintro e w44 ⟨rfl, hb⟩; have n0_ := Aside0.mk (blk_below (g := gb101) (o := .cells #[.int .i64 a0_0, .int .i64 a0_1] 40 (0, 0)) (by refine blk_far ?_ NB101_104.out _; refine blk_far ?_ NB101_104.out _; refine blk_far ?_ NB101_104.out _; exact BK101.out) hb); have n1_ := Aside0.mk (blk_below (g := gb104) (o := .cells #[.int .i64 a0_0, .int .i64 a0_1, .int .i64 a1] 42 (0, 0)) (by refine blk_put (cs := #[.int .i64 a0_0, .int .i64 a0_1, .int .i64 0]) ?_ 2 _ rfl; refine blk_put (cs := #[.int .i64 a0_0, .int .i64 0, .int .i64 0]) ?_ 1 _ rfl; refine blk_put (cs := #[.int .i64 0, .int .i64 0, .int .i64 0]) ?_ 0 _ rfl; exact BK104.out) hb); have n2_ := Aside0.mk (below_step (by repeat ((with_reducible first | exact HB.out | refine below_set ?_ GE104.out))) hb); clear BK101; clear BK104; clear HB; have BK101 := n0_; have BK104 := n1_; have HB := n2_; clear n0_ n1_ n2_; (try clear hb); (try clear hb2); (try clear hk); (try clear hi); obtain ⟨hcz45_0, hcz45_1⟩ := kk2_ BK101.1; have hfz45_0 := blk_frozen BK101.out 0; have hfz45_1 := blk_frozen BK101.out 1) | (go_at_call 70; (with_reducible refine (impl_CountCells.calls a0_0 a0_1 t106 _ A37.out).mono ?_); rintro e w46 ⟨rfl, hb⟩; have n0_ := Aside0.mk (blk_below (g := gb101) (o := .cells #[.int .i64 a0_0, .int .i64 a0_1] 40 (0, 0)) BK101.out hb); have n1_ := Aside0.mk (blk_below (g := gb104) (o := .cells #[.int .i64 a0_0, .int .i64 a0_1, .int .i64 a1] 42 (0, 0)) BK104.out hb); have n2_ := Aside0.mk (below_step HB.out hb); clear BK101; clear BK104; clear HB; have BK101 := n0_; have BK104 := n1_; have HB := n2_; clear n0_ n1_ n2_; (try clear hb); (try clear hb2); (try clear hk); (try clear hi)) | ((with_reducible refine gate_dst (N := 57) rfl ?_); refine Kd.R_make (Kd.int .i64) _ 3 rfl (N := 57) rfl 29 _ _ rfl t106 rfl rfl Try.underlying29 (.int .i64 0) 8 info3 rfl (by decide) (by omega) 0 (ok := fun _ => True) (okp := fun _ => True) rfl (fun _ hk => hk) trivial (of_decide_eq_true (by with_reducible assumption)) (Nat.le_trans (Nat.mul_le_mul_right _ (of_decide_eq_true (by with_reducible assumption) : t106.toNat ≤ 35184372088832)) (by omega)) (Below.refl _ _) (Nat.le_refl _) ?_; intro v108 w47 ho48 hb hg_ hnew_; clear hg_ hnew_; (rw [← Ny107.out] at ho48); have n0_ := Aside0.mk (Kd.R_lower ho48 (below_size HB.out)); have n1_ := Aside0.mk (blk_below (g := gb101) (o := .cells #[.int .i64 a0_0, .int .i64 a0_1] 40 (0, 0)) BK101.out hb); have n2_ := Aside0.mk (blk_below (g := gb104) (o := .cells #[.int .i64 a0_0, .int .i64 a0_1, .int .i64 a1] 42 (0, 0)) BK104.out hb); have n3_ := Aside0.mk (below_step HB.out hb); clear BK101; clear BK104; clear HB; have HO109 := n0_; have BK101 := n1_; have BK104 := n2_; have HB := n3_; clear n0_ n1_ n2_ n3_; clear hb ho48; obtain ⟨Ao49, co49, eo49⟩ := Kd.R_slice HO109.out; subst eo49))
          repeat (go_quiet (fail); try go_wp2_with (fail))
          go_loopg [10, 60] kj6 (fun kq v10 v60 w' => ∃ (x9_2 : List Int) (x10_2 : Int) (x60_2 : Int), v10 = .int .i64 x10_2 ∧ v60 = .int .i64 x60_2 ∧ Aside0 (impl_CountFixed.l0 kq a1 a2 x9_2 x10_2 (y107.length : Int) x60_2 a0_0 a0_1 a0_0 a0_1 a1 = some r) ∧ Aside0 (kq ≤ kj6) ∧ Aside0 (Kd.R (Kd.int .i64) 3 w' w.heap.size (fun _ => True) (.slice Ao49 y107.length co49) x9_2) ∧ Aside0 (w'.heap[gb101]? = some (.cells #[.int .i64 a0_0, .int .i64 a0_1] 40 (0, 0))) ∧ Aside0 (w'.heap[gb104]? = some (.cells #[.int .i64 a0_0, .int .i64 a0_1, .int .i64 a1] 42 (0, 0))) ∧ Aside0 (Below w.heap.size w w'))
          case atStart => exact ⟨(y107), (0), (0), (by rfl), (by rfl), H', ⟨Nat.le_refl _⟩, ⟨by exact HO109.out⟩, ⟨by exact BK101.out⟩, ⟨by exact BK104.out⟩, ⟨by repeat ((with_reducible exact HB.out))⟩⟩
          case round =>
            clear H'; try clear c1; try clear c2; try clear p2; try clear c3; try clear c4; try clear c5; try clear c5b0; try clear c5b1; try clear p6; try clear c12; try clear c13; try clear c13b0; try clear c16; try clear c16b0; try clear c19; try clear c19b0; try clear c22; try clear c22b0; try clear c29; try clear c31; try clear c31b0; try clear c34; try clear c38; try clear c38b0; try clear c38b1; try clear c39; try clear c39b0; try clear c39b1; try clear c42; try clear hcz14_0; try clear hcz14_1; try clear hcz17_0; try clear hcz17_1; try clear hcz20_0; try clear hcz20_1; try clear hcz23_0; try clear hcz23_1; try clear hcz25_0; try clear hcz25_1; try clear hcz27_0; try clear hcz27_1; try clear hcz32_0; try clear hcz32_1; try clear hcz35_0; try clear hcz35_1; try clear hcz35_2; try clear hcz40_0; try clear hcz40_1; try clear hcz43_0; try clear hcz43_1; try clear hcz43_2; try clear hcz45_0; try clear hcz45_1; try clear hcz9_0; try clear hcz9_1; try clear hfz14_0; try clear hfz14_1; try clear hfz17_0; try clear hfz17_1; try clear hfz20_0; try clear hfz20_1; try clear hfz23_0; try clear hfz23_1; try clear hfz25_0; try clear hfz25_1; try clear hfz27_0; try clear hfz27_1; try clear hfz32_0; try clear hfz32_1; try clear hfz35_0; try clear hfz35_1; try clear hfz35_2; try clear hfz40_0; try clear hfz40_1; try clear hfz43_0; try clear hfz43_1; try clear hfz43_2; try clear hfz45_0; try clear hfz45_1; try clear hfz9_0; try clear hfz9_1; try clear p2; try clear p6
            obtain ⟨x9_2, x10_2, x60_2, rfl, rfl, HA, HK2, HO_9, BK101, BK104, HB⟩ := hrel
            have hl9_2 := (Kd.R_reads' HO_9.out).1
            rw [hl9_2] at HO_9
            (try simp only [hl9_2])
            (try simp only [hl9_2] at BK101)
            (try simp only [hl9_2] at BK104)
            cases gk with
            | zero => exact absurd HA.out (by simp [impl_CountFixed.l0])
            | succ k2 =>
              have H := HA.out
              clear HA
              simp only [impl_CountFixed.l0] at H
              by_cases c50 : x60_2 < (y107.length : Int)
              · rw [if_pos c50] at H
                have c50b0 : decide (x60_2 < (y107.length : Int)) = true := decide_eq_true c50
                (try (have c50b0z_hl13_3 := c50b0; rw [hl13_3] at c50b0z_hl13_3))
                (try (have c50b0z_hl13_4 := c50b0; rw [hl13_4] at c50b0z_hl13_4))
                (try (have c50b0z_hl9_2 := c50b0; rw [hl9_2] at c50b0z_hl9_2))
                (try (have c50b0z_hl9_4 := c50b0; rw [hl9_4] at c50b0z_hl9_4))
                clear c50
                obtain ⟨t110, A510, H⟩ := Option.bind_eq_some_iff.mp H
                (try dsimp only at H); have A51 := Aside0.mk A510; clear A510
                replace H := iN_ H; obtain ⟨c52, H⟩ := H
                have c52b0 : decide (0 < (t110.length : Int)) = true := decide_eq_true c52
                have c52b1 : decide (0 < t110.length) = true := decide_eq_true (by omega)
                clear c52
                by_cases c53 : (rd t110 0) < x60_2
                · rw [if_pos c53] at H
                  have c53b0 : decide ((rd t110 0) < x60_2) = true := decide_eq_true c53
                  clear c53
                  replace H := iN_ H; obtain ⟨c54, H⟩ := H
                  have c54b0 : decide (0 ≤ (rd t110 0)) = true := decide_eq_true c54
                  clear c54
                  replace H := iN_ H; obtain ⟨c55, H⟩ := H
                  have c55b0 : decide ((rd t110 0) < (x9_2.length : Int)) = true := decide_eq_true c55
                  clear c55
                  replace H := iN_ H; obtain ⟨c56, H⟩ := H
                  have c56b0 : decide (0 ≤ x60_2) = true := decide_eq_true c56
                  clear c56
                  replace H := iN_ H; obtain ⟨c57, H⟩ := H
                  have c57b0 : decide (x60_2 < (x9_2.length : Int)) = true := decide_eq_true c57
                  clear c57
                  obtain ⟨y115, hy115⟩ : ∃ y_ : List Int, y_ = (x9_2.set (x60_2 : Int).toNat (rd x9_2 (rd t110 0))) := ⟨_, rfl⟩
                  replace H : (impl_CountFixed.l0 k2 a1 a2 y115 x10_2 (y107.length : Int) (wrap64 (x60_2 + 1)) a0_0 a0_1 a0_0 a0_1 a1) = some r := by (rw [hy115]; with_reducible exact H)
                  have Ny115 := Aside0.mk hy115
                  clear hy115
                  have H' := Aside0.mk H
                  clear H
                  have hnb59 := NB104_101.out
                  have hnc59 := NB101_104.out
                  obtain ⟨hcz60_0, hcz60_1, hcz60_2⟩ := kk3_ BK104.1
                  have hfz60_0 := blk_frozen BK104.out 0
                  have hfz60_1 := blk_frozen BK104.out 1
                  have hfz60_2 := blk_frozen BK104.out 2
                  go_wp2_with (first | (go_at_call 81; (with_reducible refine (impl_Reached.calls k2 a0_0 a0_1 a1 x60_2 t110 _ A51.out).mono ?_); rintro e w61 ⟨v111, rfl, ho0, hb⟩; have n0_ := Aside0.mk (Kd.R_elder' HO_9.out (Kd.R_base ho0) hb); have n1_ := Aside0.mk (Kd.R_lower (Kd.R_new' ho0 (Kd.R_lt HO_9.out)) (below_size HB.out)); have n2_ := Aside0.mk (blk_below (g := gb101) (o := .cells #[.int .i64 a0_0, .int .i64 a0_1] 40 (0, 0)) BK101.out hb); have n3_ := Aside0.mk (blk_below (g := gb104) (o := .cells #[.int .i64 a0_0, .int .i64 a0_1, .int .i64 a1] 42 (0, 0)) BK104.out hb); have n4_ := Aside0.mk (below_step HB.out hb); clear HO_9; clear BK101; clear BK104; clear HB; have HO_9 := n0_; have HO112 := n1_; have BK101 := n2_; have BK104 := n3_; have HB := n4_; clear n0_ n1_ n2_ n3_ n4_; (try clear hb); (try clear hb2); (try clear hk); (try clear hi); (try clear ho0); obtain ⟨Ao62, co62, eo62⟩ := Kd.R_slice HO112.out; subst eo62; have p113 : 0 ≤ (0 : Int) := (by omega); have q113 : 0 < (t110.length : Int) := of_decide_eq_true (by with_reducible assumption); obtain ⟨ad113, e113, hx113_0⟩ := Kd.at_int (Kd.R_reads' HO112.out).2.2 0 p113 q113; cases e113; have qi113 : (0 < t110.length) = True := eq_true (by omega); (try rw [show ((0 : Int)).toNat = 0 from rfl] at hx113_0); (try rw [Addr.add_zero'] at hx113_0); replace p113 := eq_true p113; replace q113 := eq_true q113; have p114 : 0 ≤ ((rd t110 0) : Int) := of_decide_eq_true (by with_reducible assumption); have q114 : (rd t110 0) < (x9_2.length : Int) := of_decide_eq_true (by with_reducible assumption); obtain ⟨ad114, e114, hx114_0⟩ := Kd.at_int (Kd.R_reads' HO_9.out).2.2 (rd t110 0) p114 q114; cases e114; replace p114 := eq_true p114; replace q114 := eq_true q114; have p58 : 0 ≤ (x60_2 : Int) := of_decide_eq_true (by with_reducible assumption); have q58 : (x60_2 : Int) < ((x9_2.length : Int) : Int) := of_decide_eq_true (by with_reducible assumption); obtain ⟨go58, co58, eo58, gb58, gl58, cl58, HG58⟩ := Kd.R_form HO_9.out (by omega); (cases eo58); have GB58 := Aside0.mk gb58; have GG58 := Aside0.mk HG58; clear gb58 gl58 HG58; (simp only [add_plain] at hx114_0); obtain ⟨hx58_0, hf58_0⟩ := Kd.R_celln 0 HO_9.out (x60_2 : Int) p58 q58; replace p58 := eq_true p58; replace q58 := eq_true q58; have n_ := Aside0.mk (Kd.R_mono (ok' := (fun k_ => some k_ ≠ (.slice (some ad113) t110.length co62 : Value).ownBlock)) HO_9.out (fun k_ hk => hk.2)); clear HO_9; have HO_9 := n_; clear n_; obtain ⟨hy63_, hz63_⟩ := Kd.R_celln 0 HO_9.out (x60_2 : Int) (of_decide_eq_true (by with_reducible assumption)) (of_decide_eq_true (by with_reducible assumption)); have HP63 := Kd.R_putg HO_9.out (x60_2 : Int) (rd x9_2 (rd t110 0))) | ((with_reducible refine gate_store (t := 3) (p := 77) rfl ?_); (try (rw [drewN_self w61]; generalize hq_ : World.drewN w61 _ = w61; have n0_ := Aside0.mk (Kd.R_at hq_ HO_9.out); have n1_ := Aside0.mk (Kd.R_at hq_ HO112.out); have n2_ := Aside0.mk (blk_at hq_ BK101.out); have n3_ := Aside0.mk (blk_at hq_ BK104.out); have n4_ := Aside0.mk (below_at hq_ HB.out); clear hq_ HO_9 HO112 BK101 BK104 HB; have HO_9 := n0_; have HO112 := n1_; have BK101 := n2_; have BK104 := n3_; have HB := n4_; clear n0_ n1_ n2_ n3_ n4_; (try (have n_ := Aside0.mk (Kd.R_mono (ok' := (fun k_ => some k_ ≠ (.slice (some ad113) t110.length co62 : Value).ownBlock)) HO_9.out (fun k_ hk => hk.2)); clear HO_9; have HO_9 := n_; clear n_)); (try (obtain ⟨hy63_, hz63_⟩ := Kd.R_celln 0 HO_9.out (x60_2 : Int) (of_decide_eq_true (by fail)) (of_decide_eq_true (by fail)))); (try (have HP63 := Kd.R_putg HO_9.out (x60_2 : Int) (rd x9_2 (rd t110 0)))))); refine store_event (t := 3) (p := 77) (v := ?vo_w64) (w1 := (w61.setCell ⟨go58, (x60_2 : Int).toNat, none⟩ (.int .i64 (rd x9_2 (rd t110 0))))) ?hg ?ho ?hn ?hr ?_; (case ho => rfl); (case hg => rfl); (case hn => rfl); (case hr => (go_simp; done)); intro w64 hw; have hg : w61.grownBy w64 (some go58) := (by rw [hw]; exact HP63.2); have hp_ : Kd.R (Kd.int .i64) 3 w64 w.heap.size (fun k_ => some k_ ≠ (.slice (some ad113) t110.length co62 : Value).ownBlock) (.slice (some ⟨go58, 0, none⟩) x9_2.length co49) y115 := (by rw [hw, Ny115.out]; exact HP63.1); clear HP63; have n0_ := Aside0.mk (hp_); have n1_ := Aside0.mk (blk_grown (g := gb101) (o := .cells #[.int .i64 a0_0, .int .i64 a0_1] 40 (0, 0)) BK101.out hg (Kd.R_ne HO_9.out BK101.out (by decide))); have n2_ := Aside0.mk (blk_grown (g := gb104) (o := .cells #[.int .i64 a0_0, .int .i64 a0_1, .int .i64 a1] 42 (0, 0)) BK104.out hg (Kd.R_ne HO_9.out BK104.out (by decide))); have n3_ := Aside0.mk (Kd.R_after (v := (.slice (some ⟨go58, 0, none⟩) x9_2.length co49)) (v1 := (.slice (some ⟨go58, 0, none⟩) x9_2.length co49)) (ok := (fun _ => True)) HO112.out hg (.inl rfl)); have n4_ := Aside0.mk ((by rw [hw]; exact below_set (HB.out) GB58.out : Below w.heap.size w w64)); clear HO_9; clear BK101; clear BK104; clear HO112; clear HB; have HO_9 := n0_; have BK101 := n1_; have BK104 := n2_; have HO112 := n3_; have HB := n4_; clear n0_ n1_ n2_ n3_ n4_; clear hg hw hp_))
                  repeat (go_quiet (fail); try go_wp2_with (fail))
                  (try simp only [← hl9_2])
                  go_roundg k2
                  case measure => have := HJ6.out; have := HK2.out; omega
                  case rel => exact ⟨(y115), (x10_2), (wrap64 (x60_2 + 1)), (by rfl), (by rfl), H', ⟨by have := HJ6.out; have := HK2.out; omega⟩, ⟨by (try simp only [hl9_2]); exact Kd.R_mono HO_9.out (fun _ hk => trivial)⟩, ⟨by (try simp only [hl9_2]); exact BK101.out⟩, ⟨by (try simp only [hl9_2]); exact BK104.out⟩, ⟨by repeat ((with_reducible exact HB.out))⟩⟩
                · rw [if_neg c53] at H
                  have c53b0 : decide ((rd t110 0) < x60_2) = false := decide_eq_false c53
                  clear c53
                  replace H := iN_ H; obtain ⟨c65, H⟩ := H
                  have c65b0 : decide (0 ≤ x60_2) = true := decide_eq_true c65
                  clear c65
                  replace H := iN_ H; obtain ⟨c66, H⟩ := H
                  have c66b0 : decide (x60_2 < (x9_2.length : Int)) = true := decide_eq_true c66
                  clear c66
                  obtain ⟨y116, hy116⟩ : ∃ y_ : List Int, y_ = (x9_2.set (x60_2 : Int).toNat x10_2) := ⟨_, rfl⟩
                  replace H : (impl_CountFixed.l0 k2 a1 a2 y116 (wrap64 (x10_2 + 1)) (y107.length : Int) (wrap64 (x60_2 + 1)) a0_0 a0_1 a0_0 a0_1 a1) = some r := by (rw [hy116]; with_reducible exact H)
                  have Ny116 := Aside0.mk hy116
                  clear hy116
                  have H' := Aside0.mk H
                  clear H
                  have hnb68 := NB104_101.out
                  have hnc68 := NB101_104.out
                  obtain ⟨hcz69_0, hcz69_1, hcz69_2⟩ := kk3_ BK104.1
                  have hfz69_0 := blk_frozen BK104.out 0
                  have hfz69_1 := blk_frozen BK104.out 1
                  have hfz69_2 := blk_frozen BK104.out 2
                  go_wp2_with (first | (go_at_call 81; (with_reducible refine (impl_Reached.calls k2 a0_0 a0_1 a1 x60_2 t110 _ A51.out).mono ?_); rintro e w70 ⟨v111, rfl, ho0, hb⟩; have n0_ := Aside0.mk (Kd.R_elder' HO_9.out (Kd.R_base ho0) hb); have n1_ := Aside0.mk (Kd.R_lower (Kd.R_new' ho0 (Kd.R_lt HO_9.out)) (below_size HB.out)); have n2_ := Aside0.mk (blk_below (g := gb101) (o := .cells #[.int .i64 a0_0, .int .i64 a0_1] 40 (0, 0)) BK101.out hb); have n3_ := Aside0.mk (blk_below (g := gb104) (o := .cells #[.int .i64 a0_0, .int .i64 a0_1, .int .i64 a1] 42 (0, 0)) BK104.out hb); have n4_ := Aside0.mk (below_step HB.out hb); clear HO_9; clear BK101; clear BK104; clear HB; have HO_9 := n0_; have HO112 := n1_; have BK101 := n2_; have BK104 := n3_; have HB := n4_; clear n0_ n1_ n2_ n3_ n4_; (try clear hb); (try clear hb2); (try clear hk); (try clear hi); (try clear ho0); obtain ⟨Ao71, co71, eo71⟩ := Kd.R_slice HO112.out; subst eo71; have p113 : 0 ≤ (0 : Int) := (by omega); have q113 : 0 < (t110.length : Int) := of_decide_eq_true (by with_reducible assumption); obtain ⟨ad113, e113, hx113_0⟩ := Kd.at_int (Kd.R_reads' HO112.out).2.2 0 p113 q113; cases e113; have qi113 : (0 < t110.length) = True := eq_true (by omega); (try rw [show ((0 : Int)).toNat = 0 from rfl] at hx113_0); (try rw [Addr.add_zero'] at hx113_0); replace p113 := eq_true p113; replace q113 := eq_true q113; have p67 : 0 ≤ (x60_2 : Int) := of_decide_eq_true (by with_reducible assumption); have q67 : (x60_2 : Int) < ((x9_2.length : Int) : Int) := of_decide_eq_true (by with_reducible assumption); obtain ⟨go67, co67, eo67, gb67, gl67, cl67, HG67⟩ := Kd.R_form HO_9.out (by omega); (cases eo67); have GB67 := Aside0.mk gb67; have GG67 := Aside0.mk HG67; clear gb67 gl67 HG67; obtain ⟨hx67_0, hf67_0⟩ := Kd.R_celln 0 HO_9.out (x60_2 : Int) p67 q67; replace p67 := eq_true p67; replace q67 := eq_true q67; have n_ := Aside0.mk (Kd.R_mono (ok' := (fun k_ => some k_ ≠ (.slice (some ad113) t110.length co71 : Value).ownBlock)) HO_9.out (fun k_ hk => hk.2)); clear HO_9; have HO_9 := n_; clear n_; obtain ⟨hy72_, hz72_⟩ := Kd.R_celln 0 HO_9.out (x60_2 : Int) (of_decide_eq_true (by with_reducible assumption)) (of_decide_eq_true (by with_reducible assumption)); have HP72 := Kd.R_putg HO_9.out (x60_2 : Int) x10_2) | ((with_reducible refine gate_store (t := 3) (p := 81) rfl ?_); (try (rw [drewN_self w70]; generalize hq_ : World.drewN w70 _ = w70; have n0_ := Aside0.mk (Kd.R_at hq_ HO_9.out); have n1_ := Aside0.mk (Kd.R_at hq_ HO112.out); have n2_ := Aside0.mk (blk_at hq_ BK101.out); have n3_ := Aside0.mk (blk_at hq_ BK104.out); have n4_ := Aside0.mk (below_at hq_ HB.out); clear hq_ HO_9 HO112 BK101 BK104 HB; have HO_9 := n0_; have HO112 := n1_; have BK101 := n2_; have BK104 := n3_; have HB := n4_; clear n0_ n1_ n2_ n3_ n4_; (try (have n_ := Aside0.mk (Kd.R_mono (ok' := (fun k_ => some k_ ≠ (.slice (some ad113) t110.length co71 : Value).ownBlock)) HO_9.out (fun k_ hk => hk.2)); clear HO_9; have HO_9 := n_; clear n_)); (try (obtain ⟨hy72_, hz72_⟩ := Kd.R_celln 0 HO_9.out (x60_2 : Int) (of_decide_eq_true (by fail)) (of_decide_eq_true (by fail)))); (try (have HP72 := Kd.R_putg HO_9.out (x60_2 : Int) x10_2)))); refine store_event (t := 3) (p := 81) (v := ?vo_w73) (w1 := (w70.setCell ⟨go67, (x60_2 : Int).toNat, none⟩ (.int .i64 x10_2))) ?hg ?ho ?hn ?hr ?_; (case ho => rfl); (case hg => rfl); (case hn => rfl); (case hr => (go_simp; done)); intro w73 hw; have hg : w70.grownBy w73 (some go67) := (by rw [hw]; exact HP72.2); have hp_ : Kd.R (Kd.int .i64) 3 w73 w.heap.size (fun k_ => some k_ ≠ (.slice (some ad113) t110.length co71 : Value).ownBlock) (.slice (some ⟨go67, 0, none⟩) x9_2.length co49) y116 := (by rw [hw, Ny116.out]; exact HP72.1); clear HP72; have n0_ := Aside0.mk (hp_); have n1_ := Aside0.mk (blk_grown (g := gb101) (o := .cells #[.int .i64 a0_0, .int .i64 a0_1] 40 (0, 0)) BK101.out hg (Kd.R_ne HO_9.out BK101.out (by decide))); have n2_ := Aside0.mk (blk_grown (g := gb104) (o := .cells #[.int .i64 a0_0, .int .i64 a0_1, .int .i64 a1] 42 (0, 0)) BK104.out hg (Kd.R_ne HO_9.out BK104.out (by decide))); have n3_ := Aside0.mk (Kd.R_after (v := (.slice (some ⟨go67, 0, none⟩) x9_2.length co49)) (v1 := (.slice (some ⟨go67, 0, none⟩) x9_2.length co49)) (ok := (fun _ => True)) HO112.out hg (.inl rfl)); have n4_ := Aside0.mk ((by rw [hw]; exact below_set (HB.out) GB67.out : Below w.heap.size w w73)); clear HO_9; clear BK101; clear BK104; clear HO112; clear HB; have HO_9 := n0_; have BK101 := n1_; have BK104 := n2_; have HO112 := n3_; have HB := n4_; clear n0_ n1_ n2_ n3_ n4_; clear hg hw hp_))
                  repeat (go_quiet (fail); try go_wp2_with (fail))
                  (try simp only [← hl9_2])
                  go_roundg k2
                  case measure => have := HJ6.out; have := HK2.out; omega
                  case rel => exact ⟨(y116), (wrap64 (x10_2 + 1)), (wrap64 (x60_2 + 1)), (by rfl), (by rfl), H', ⟨by have := HJ6.out; have := HK2.out; omega⟩, ⟨by (try simp only [hl9_2]); exact Kd.R_mono HO_9.out (fun _ hk => trivial)⟩, ⟨by (try simp only [hl9_2]); exact BK101.out⟩, ⟨by (try simp only [hl9_2]); exact BK104.out⟩, ⟨by repeat ((with_reducible exact HB.out))⟩⟩
              · rw [if_neg c50] at H
                have c50b0 : decide (x60_2 < (y107.length : Int)) = false := decide_eq_false c50
                (try (have c50b0z_hl13_3 := c50b0; rw [hl13_3] at c50b0z_hl13_3))
                (try (have c50b0z_hl13_4 := c50b0; rw [hl13_4] at c50b0z_hl13_4))
                (try (have c50b0z_hl9_2 := c50b0; rw [hl9_2] at c50b0z_hl9_2))
                (try (have c50b0z_hl9_4 := c50b0; rw [hl9_4] at c50b0z_hl9_4))
                clear c50
                replace H := iN_ H; obtain ⟨c74, H⟩ := H
                have c74b0 := eq_true c74
                have c74b1 : decide (0 ≤ x10_2) = true := decide_eq_true c74
                clear c74
                replace H := iN_ H; obtain ⟨c75, H⟩ := H
                have c75b0 := eq_true c75
                have c75b1 : decide ((x10_2 : Int).toNat ≤ 11728124029610) = true := decide_eq_true c75
                clear c75
                obtain ⟨y117, hy117⟩ : ∃ y_ : List (List Int), y_ = (List.replicate (x10_2 : Int).toNat []) := ⟨_, rfl⟩
                replace H : (impl_CountFixed.l1 k2 a1 a2 x9_2 x10_2 y117 (y117.length : Int) 0 a0_0 a0_1) = some r := by (have H2_ := (Option.bind_some _ _).symm.trans H; rw [hy117]; with_reducible exact H2_)
                have Ny117 := Aside0.mk hy117
                clear hy117
                have H' := Aside0.mk H
                clear H
                go_wp2_with (((with_reducible refine gate_dst (N := 86) rfl ?_); refine Kd.S_make (Kd.slice 3 (Kd.int .i64)) _ 29 rfl (N := 86) rfl 24 _ _ rfl x10_2 rfl rfl Try.underlying24 (.slice none 0 0) 24 info29 rfl (by decide) (by omega) [] (ok := fun _ => True) (okp := fun _ => True) ⟨_, rfl, Kd.R_nil _ _ _ _ _⟩ (fun _ hk => hk) trivial (of_decide_eq_true (by with_reducible assumption)) (Nat.le_trans (Nat.mul_le_mul_right _ (of_decide_eq_true (by with_reducible assumption) : x10_2.toNat ≤ 11728124029610)) (by omega)) (Below.refl _ _) (Nat.le_refl _) ?_; intro v118 w76 ho77 hb hg_ hnew_; clear hg_ hnew_; (rw [← Ny117.out] at ho77); have n0_ := Aside0.mk (Kd.R_below HO_9.out hb); have n1_ := Aside0.mk (Kd.S_lower (Kd.S_new' ho77 (Kd.R_lt HO_9.out)) (below_size HB.out)); have n2_ := Aside0.mk (blk_below (g := gb101) (o := .cells #[.int .i64 a0_0, .int .i64 a0_1] 40 (0, 0)) BK101.out hb); have n3_ := Aside0.mk (blk_below (g := gb104) (o := .cells #[.int .i64 a0_0, .int .i64 a0_1, .int .i64 a1] 42 (0, 0)) BK104.out hb); have n4_ := Aside0.mk (below_step HB.out hb); clear HO_9; clear BK101; clear BK104; clear HB; have HO_9 := n0_; have HO119 := n1_; have BK101 := n2_; have BK104 := n3_; have HB := n4_; clear n0_ n1_ n2_ n3_ n4_; clear hb ho77; obtain ⟨Ao78, co78, eo78⟩ := Kd.S_slice HO119.out; subst eo78))
                repeat (go_quiet (fail); try go_wp2_with (fail))
                go_loopg [89] k2 (fun kq v89 w' => ∃ (x13_3 : List (List Int)) (x89_3 : Int), v89 = .int .i64 x89_3 ∧ Aside0 (impl_CountFixed.l1 kq a1 a2 x9_2 x10_2 x13_3 (y117.length : Int) x89_3 a0_0 a0_1 = some r) ∧ Aside0 (kq ≤ k2) ∧ Aside0 (Kd.R (Kd.int .i64) 3 w' w.heap.size (fun _ => True) (.slice Ao49 x9_2.length co49) x9_2) ∧ Aside0 (Kd.S (Kd.slice 3 (Kd.int .i64)) 29 w' w.heap.size (fun k_ => some k_ ≠ ((.slice Ao49 x9_2.length co49) : Value).ownBlock) (.slice Ao78 y117.length co78) x13_3) ∧ Aside0 (w'.heap[gb101]? = some (.cells #[.int .i64 a0_0, .int .i64 a0_1] 40 (0, 0))) ∧ Aside0 (w'.heap[gb104]? = some (.cells #[.int .i64 a0_0, .int .i64 a0_1, .int .i64 a1] 42 (0, 0))) ∧ Aside0 (Below w.heap.size w w'))
                case atStart => exact ⟨(y117), (0), (by rfl), H', ⟨Nat.le_refl _⟩, ⟨by (try simp only [hl9_2]); exact HO_9.out⟩, ⟨by (try simp only [hl9_2]); exact Kd.S_mono HO119.out (fun _ hk => hk.2)⟩, ⟨by (try simp only [hl9_2]); exact BK101.out⟩, ⟨by (try simp only [hl9_2]); exact BK104.out⟩, ⟨by repeat ((with_reducible exact HB.out))⟩⟩
                case round =>
                  clear H'; try clear c1; try clear p1; try clear q1; try clear hx1; try clear qi1; try clear c2; try clear p2; try clear c3; try clear c4; try clear c5; try clear c5b0; try clear c5b1; try clear p5; try clear q5; try clear hx5; try clear hf5; try clear c6; try clear p6; try clear q6; try clear hx6; try clear hf6; try clear c7; try clear p11; try clear q11; try clear hx11; try clear qi11; try clear c12; try clear c13; try clear c13b0; try clear c16; try clear c16b0; try clear c19; try clear c19b0; try clear c22; try clear c22b0; try clear c29; try clear c31; try clear c31b0; try clear c34; try clear c38; try clear c38b0; try clear c38b1; try clear c39; try clear c39b0; try clear c39b1; try clear c42; try clear c50; try clear c50b0; try clear c52; try clear c52b0; try clear c52b1; try clear c53; try clear c53b0; try clear c54; try clear c54b0; try clear c55; try clear c55b0; try clear c56; try clear c56b0; try clear c57; try clear c57b0; try clear p58; try clear q58; try clear hx58; try clear hf58; try clear c59; try clear p64; try clear c65; try clear c65b0; try clear c66; try clear c66b0; try clear p67; try clear q67; try clear hx67; try clear hf67; try clear c68; try clear c74; try clear c74b0; try clear c74b1; try clear c75; try clear c75b0; try clear c75b1; try clear hcz14_0; try clear hcz14_1; try clear hcz17_0; try clear hcz17_1; try clear hcz20_0; try clear hcz20_1; try clear hcz23_0; try clear hcz23_1; try clear hcz25_0; try clear hcz25_1; try clear hcz27_0; try clear hcz27_1; try clear hcz32_0; try clear hcz32_1; try clear hcz35_0; try clear hcz35_1; try clear hcz35_2; try clear hcz40_0; try clear hcz40_1; try clear hcz43_0; try clear hcz43_1; try clear hcz43_2; try clear hcz45_0; try clear hcz45_1; try clear hcz60_0; try clear hcz60_1; try clear hcz60_2; try clear hcz69_0; try clear hcz69_1; try clear hcz69_2; try clear hcz9_0; try clear hcz9_1; try clear hfz14_0; try clear hfz14_1; try clear hfz17_0; try clear hfz17_1; try clear hfz20_0; try clear hfz20_1; try clear hfz23_0; try clear hfz23_1; try clear hfz25_0; try clear hfz25_1; try clear hfz27_0; try clear hfz27_1; try clear hfz32_0; try clear hfz32_1; try clear hfz35_0; try clear hfz35_1; try clear hfz35_2; try clear hfz40_0; try clear hfz40_1; try clear hfz43_0; try clear hfz43_1; try clear hfz43_2; try clear hfz45_0; try clear hfz45_1; try clear hfz60_0; try clear hfz60_1; try clear hfz60_2; try clear hfz69_0; try clear hfz69_1; try clear hfz69_2; try clear hfz9_0; try clear hfz9_1; try clear hx113_0; try clear hx114_0; try clear hx58_0; try clear hx67_0; try clear p113; try clear p114; try clear p2; try clear p58; try clear p6; try clear p67; try clear q113; try clear q114; try clear q58; try clear q67
                  obtain ⟨x13_3, x89_3, rfl, HA, HK3, HO_9, HO_13, BK101, BK104, HB⟩ := hrel
                  have hl13_3 := (Kd.S_reads' HO_13.out).1
                  rw [hl13_3] at HO_13
                  (try simp only [hl13_3])
                  (try simp only [hl13_3] at BK101)
                  (try simp only [hl13_3] at BK104)
                  (try simp only [hl13_3] at HO_9)
                  cases gk with
                  | zero => exact absurd HA.out (by simp [impl_CountFixed.l1])
                  | succ k3 =>
                    have H := HA.out
                    clear HA
                    simp only [impl_CountFixed.l1] at H
                    by_cases c79 : x89_3 < (y117.length : Int)
                    · rw [if_pos c79] at H
                      have c79b0 : decide (x89_3 < (y117.length : Int)) = true := decide_eq_true c79
                      (try (have c79b0z_hl13_3 := c79b0; rw [hl13_3] at c79b0z_hl13_3))
                      (try (have c79b0z_hl13_4 := c79b0; rw [hl13_4] at c79b0z_hl13_4))
                      (try (have c79b0z_hl9_2 := c79b0; rw [hl9_2] at c79b0z_hl9_2))
                      (try (have c79b0z_hl9_4 := c79b0; rw [hl9_4] at c79b0z_hl9_4))
                      clear c79
                      replace H := iN_ H; obtain ⟨c80, H⟩ := H
                      have c80b0 := eq_true c80
                      have c80b1 : decide (0 ≤ x10_2) = true := decide_eq_true c80
                      clear c80
                      replace H := iN_ H; obtain ⟨c81, H⟩ := H
                      have c81b0 := eq_true c81
                      have c81b1 : decide ((x10_2 : Int).toNat ≤ 35184372088832) = true := decide_eq_true c81
                      clear c81
                      obtain ⟨y120, hy120⟩ : ∃ y_ : List Int, y_ = (List.replicate (x10_2 : Int).toNat 0) := ⟨_, rfl⟩
                      replace H : (if 0 ≤ x89_3 then (if x89_3 < (x13_3.length : Int) then (impl_CountFixed.l1 k3 a1 a2 x9_2 x10_2 (x13_3.set (x89_3 : Int).toNat y120) (y117.length : Int) (wrap64 (x89_3 + 1)) a0_0 a0_1) else (none)) else (none)) = some r := by (rw [hy120]; with_reducible exact H)
                      have Ny120 := Aside0.mk hy120
                      clear hy120
                      replace H := iN_ H; obtain ⟨c82, H⟩ := H
                      have c82b0 : decide (0 ≤ x89_3) = true := decide_eq_true c82
                      clear c82
                      replace H := iN_ H; obtain ⟨c83, H⟩ := H
                      have c83b0 : decide (x89_3 < (x13_3.length : Int)) = true := decide_eq_true c83
                      clear c83
                      obtain ⟨y123, hy123⟩ : ∃ y_ : List (List Int), y_ = (x13_3.set (x89_3 : Int).toNat y120) := ⟨_, rfl⟩
                      replace H : (impl_CountFixed.l1 k3 a1 a2 x9_2 x10_2 y123 (y117.length : Int) (wrap64 (x89_3 + 1)) a0_0 a0_1) = some r := by (rw [hy123]; with_reducible exact H)
                      have Ny123 := Aside0.mk hy123
                      clear hy123
                      have H' := Aside0.mk H
                      clear H
                      go_wp2_with (first | ((with_reducible refine gate_dst (N := 95) rfl ?_); refine Kd.R_make (Kd.int .i64) _ 3 rfl (N := 95) rfl 29 _ _ rfl x10_2 rfl rfl Try.underlying29 (.int .i64 0) 8 info3 rfl (by decide) (by omega) 0 (ok := fun _ => True) (okp := fun _ => True) rfl (fun _ hk => hk) trivial (of_decide_eq_true (by with_reducible assumption)) (Nat.le_trans (Nat.mul_le_mul_right _ (of_decide_eq_true (by with_reducible assumption) : x10_2.toNat ≤ 35184372088832)) (by omega)) (Below.refl _ _) (Nat.le_refl _) ?_; intro v121 w85 ho86 hb hg_ hnew_; clear hg_ hnew_; (rw [← Ny120.out] at ho86); have n0_ := Aside0.mk (Kd.R_elder' HO_9.out (Kd.R_base ho86) hb); have n1_ := Aside0.mk (Kd.S_elder' HO_13.out (Kd.R_base ho86) hb); have n2_ := Aside0.mk (Kd.R_lower (Kd.R_new' ho86 (Kd.R_lt HO_9.out)) (below_size HB.out)); have n3_ := Aside0.mk (blk_below (g := gb101) (o := .cells #[.int .i64 a0_0, .int .i64 a0_1] 40 (0, 0)) BK101.out hb); have n4_ := Aside0.mk (blk_below (g := gb104) (o := .cells #[.int .i64 a0_0, .int .i64 a0_1, .int .i64 a1] 42 (0, 0)) BK104.out hb); have n5_ := Aside0.mk (below_step HB.out hb); clear HO_9; clear HO_13; clear BK101; clear BK104; clear HB; have HO_9 := n0_; have HO_13 := n1_; have HO122 := n2_; have BK101 := n3_; have BK104 := n4_; have HB := n5_; clear n0_ n1_ n2_ n3_ n4_ n5_; clear hb ho86; have p84 : 0 ≤ (x89_3 : Int) := of_decide_eq_true (by with_reducible assumption); have q84 : (x89_3 : Int) < ((x13_3.length : Int) : Int) := of_decide_eq_true (by with_reducible assumption); obtain ⟨go84, co84, eo84, gb84, gl84, cl84, HG84⟩ := Kd.S_form HO_13.out (by omega); (cases eo84); have GB84 := Aside0.mk gb84; have GG84 := Aside0.mk HG84; clear gb84 gl84 HG84; obtain ⟨_, ce84, hcl84, hM84, hcc84, hfr84, _, _⟩ := Kd.S_elem HO_13.out [] (x89_3 : Int) p84 q84; obtain ⟨ve84_0, rfl, ge84_0⟩ := hM84; have hx84_0 := hcc84 0 _ rfl; have hf84_0 := hfr84 0; (try simp only [show ((Kd.slice 3 (Kd.int .i64))).sz = 1 from rfl, Nat.mul_one, Nat.add_zero] at hx84_0); (try simp only [show ((Kd.slice 3 (Kd.int .i64))).sz = 1 from rfl, Nat.mul_one, Nat.add_zero] at hf84_0); (try clear hM84); clear hcl84 hcc84 hfr84; replace p84 := eq_true p84; replace q84 := eq_true q84; have HX87 := Aside0.mk (show Kd.S (Kd.slice 3 (Kd.int .i64)) 29 w85 w.heap.size (fun k_ => ((fun k_ => some k_ ≠ (.slice Ao49 x9_2.length co49 : Value).ownBlock)) k_ ∧ ¬ ((fun k_ => some k_ = (v121 : Value).ownBlock)) k_) (.slice (some ⟨go84, 0, none⟩) x13_3.length co78) x13_3 from (by exact Kd.S_mono HO_13.out (fun k_ hk => ⟨hk.1, fun e_ => hk.2 e_⟩))); obtain ⟨oki87, ce87, hcl87, hM87, hcc87, hfr87, hoki87, hH87⟩ := Kd.S_elem HX87.out [] (x89_3 : Int) (of_decide_eq_true (by with_reducible assumption)) (by have h_ : (x89_3 : Int) < ((x13_3.length : Int) : Int) := of_decide_eq_true (by with_reducible assumption); exact h_); obtain ⟨ve87_0, rfl, ge87_0⟩ := hM87; have HP87 := Kd.S_seg hH87 (of_decide_eq_true (by with_reducible assumption)) (by have h_ : (x89_3 : Int) < ((x13_3.length : Int) : Int) := of_decide_eq_true (by with_reducible assumption); exact h_) (seg := [v121]) (j := 0) (show 1 ≤ 1 from by decide) (x' := y120) (Kd.M_row (Kd.R_mono (Kd.R_tight rfl (Kd.R_mono (ok' := fun k_ => ((fun k_ => some k_ ≠ (.slice Ao49 x9_2.length co49 : Value).ownBlock)) k_ ∧ k_ ≠ go84) (Kd.R_apart' (HO122.out) (Kd.S_typed HO_13.out) (by decide)) (fun k_ hk => ⟨hk.1.2, fun e_ => (hk.2) (by rw [e_]; rfl)⟩))) (fun _ h_ => Or.inr (h_)))) (fun _ hk => hk) (fun k_ hk_ => ((Kd.R_mono (ok' := fun k_ => ((fun k_ => some k_ ≠ (.slice Ao49 x9_2.length co49 : Value).ownBlock)) k_ ∧ k_ ≠ go84) (Kd.R_apart' (HO122.out) (Kd.S_typed HO_13.out) (by decide)) (fun k_ hk => ⟨hk.1.2, fun e_ => (hk.2) (by rw [e_]; rfl)⟩))).1 k_ hk_.symm); have hx87_0 := hcc87 0 _ rfl; (try simp only [show ((Kd.slice 3 (Kd.int .i64))).sz = 1 from rfl, Nat.mul_one, Nat.add_zero] at hx87_0); have hf87_0 := hfr87 0; (try simp only [show ((Kd.slice 3 (Kd.int .i64))).sz = 1 from rfl, Nat.mul_one, Nat.add_zero] at hf87_0); (try clear hM87); clear hcl87 hcc87 hfr87 hoki87 hH87; (try simp only [show ((Kd.slice 3 (Kd.int .i64))).sz = 1 from rfl, Nat.mul_one, Nat.add_zero] at HP87)) | ((with_reducible refine gate_store (t := 29) (p := 96) rfl ?_); (try (rw [drewN_self w85]; generalize hq_ : World.drewN w85 _ = w85; have n0_ := Aside0.mk (Kd.R_at hq_ HO_9.out); have n1_ := Aside0.mk (Kd.S_at hq_ HO_13.out); have n2_ := Aside0.mk (blk_at hq_ BK101.out); have n3_ := Aside0.mk (blk_at hq_ BK104.out); have n4_ := Aside0.mk (below_at hq_ HB.out); clear hq_ HO_9 HO_13 BK101 BK104 HB; have HO_9 := n0_; have HO_13 := n1_; have BK101 := n2_; have BK104 := n3_; have HB := n4_; clear n0_ n1_ n2_ n3_ n4_; (try (have HX87 := Aside0.mk (show Kd.S (Kd.slice 3 (Kd.int .i64)) 29 w85 w.heap.size (fun k_ => ((fun k_ => some k_ ≠ (.slice Ao49 x9_2.length co49 : Value).ownBlock)) k_ ∧ ¬ ((fun k_ => some k_ = (v121 : Value).ownBlock)) k_) (.slice (some ⟨go84, 0, none⟩) x13_3.length co78) x13_3 from (by exact Kd.S_mono HO_13.out (fun k_ hk => ⟨hk.1, fun e_ => hk.2 e_⟩))))); (try (obtain ⟨oki87, ce87, hcl87, hM87, hcc87, hfr87, hoki87, hH87⟩ := Kd.S_elem HX87.out [] (x89_3 : Int) (of_decide_eq_true (by fail)) (by have h_ : (x89_3 : Int) < ((x13_3.length : Int) : Int) := of_decide_eq_true (by fail); fail))); (try (obtain ⟨ve87_0, rfl, ge87_0⟩ := hM87)); (try (have HP87 := Kd.S_seg hH87 (of_decide_eq_true (by fail)) (by have h_ : (x89_3 : Int) < ((x13_3.length : Int) : Int) := of_decide_eq_true (by fail); fail) (seg := [v121]) (j := 0) (show 1 ≤ 1 from by decide) (x' := y120) (Kd.M_row (Kd.R_mono (Kd.R_tight rfl (Kd.R_mono (ok' := fun k_ => ((fun k_ => some k_ ≠ (.slice Ao49 x9_2.length co49 : Value).ownBlock)) k_ ∧ k_ ≠ go84) (Kd.R_apart' (HO122.out) (Kd.S_typed HO_13.out) (by decide)) (fun k_ hk => ⟨hk.1.2, fun e_ => (hk.2) (by rw [e_]; rfl)⟩))) (fun _ h_ => Or.inr (h_)))) (fun _ hk => hk) (fun k_ hk_ => ((Kd.R_mono (ok' := fun k_ => ((fun k_ => some k_ ≠ (.slice Ao49 x9_2.length co49 : Value).ownBlock)) k_ ∧ k_ ≠ go84) (Kd.R_apart' (HO122.out) (Kd.S_typed HO_13.out) (by decide)) (fun k_ hk => ⟨hk.1.2, fun e_ => (hk.2) (by rw [e_]; rfl)⟩))).1 k_ hk_.symm))); (try (have hx87_0 := hcc87 0 _ rfl)); (try (try simp only [show ((Kd.slice 3 (Kd.int .i64))).sz = 1 from rfl, Nat.mul_one, Nat.add_zero] at hx87_0)); (try (have hf87_0 := hfr87 0)); (try (try simp only [show ((Kd.slice 3 (Kd.int .i64))).sz = 1 from rfl, Nat.mul_one, Nat.add_zero] at hf87_0)); (try ((try clear hM87); clear hcl87 hcc87 hfr87 hoki87 hH87)); (try (try simp only [show ((Kd.slice 3 (Kd.int .i64))).sz = 1 from rfl, Nat.mul_one, Nat.add_zero] at HP87)))); refine store_event (t := 29) (p := 96) (v := ?vo_w88) (w1 := (w85.setCell ⟨go84, (x89_3 : Int).toNat, none⟩ (v121))) ?hg ?ho ?hn ?hr ?_; (case ho => rfl); (case hg => rfl); (case hn => rfl); (case hr => (have ev_ := ‹Aside0 (Kd.R _ _ _ _ _ v121 _)›; obtain ⟨_, _, ev_⟩ := Kd.R_slice ev_.out; subst ev_; (go_simp; done))); intro w88 hw; have hg : w85.grownBy w88 (some go84) := (by rw [hw]; exact HP87.2); have hp_ : Kd.S (Kd.slice 3 (Kd.int .i64)) 29 w88 w.heap.size (fun k_ => some k_ ≠ (.slice Ao49 x9_2.length co49 : Value).ownBlock) (.slice (some ⟨go84, 0, none⟩) x13_3.length co78) y123 := (by rw [hw, Ny123.out]; exact HP87.1); clear HP87; have n0_ := Aside0.mk (Kd.R_over' (v := (.slice (some ⟨go84, 0, none⟩) x13_3.length co78)) HO_9.out (Kd.S_typed HO_13.out) (by decide) hg); have n1_ := Aside0.mk (hp_); have n2_ := Aside0.mk (blk_grown (g := gb101) (o := .cells #[.int .i64 a0_0, .int .i64 a0_1] 40 (0, 0)) BK101.out hg (Kd.S_ne HO_13.out BK101.out (by decide))); have n3_ := Aside0.mk (blk_grown (g := gb104) (o := .cells #[.int .i64 a0_0, .int .i64 a0_1, .int .i64 a1] 42 (0, 0)) BK104.out hg (Kd.S_ne HO_13.out BK104.out (by decide))); have n4_ := Aside0.mk ((by rw [hw]; exact below_set (HB.out) GB84.out : Below w.heap.size w w88)); clear HO_9; clear HO_13; clear BK101; clear BK104; clear HB; clear HO122; have HO_9 := n0_; have HO_13 := n1_; have BK101 := n2_; have BK104 := n3_; have HB := n4_; clear n0_ n1_ n2_ n3_ n4_; clear hg hw hp_))
                      repeat (go_quiet (fail); try go_wp2_with (fail))
                      (try simp only [← hl13_3])
                      go_roundg k3
                      case measure => have := HJ6.out; have := HK2.out; have := HK3.out; omega
                      case rel => exact ⟨(y123), (wrap64 (x89_3 + 1)), (by rfl), H', ⟨by have := HJ6.out; have := HK2.out; have := HK3.out; omega⟩, ⟨by (try simp only [hl9_2]); (try simp only [hl13_3]); exact Kd.R_mono HO_9.out (fun _ hk => trivial)⟩, ⟨by (try simp only [hl9_2]); (try simp only [hl13_3]); exact HO_13.out⟩, ⟨by (try simp only [hl9_2]); (try simp only [hl13_3]); exact BK101.out⟩, ⟨by (try simp only [hl9_2]); (try simp only [hl13_3]); exact BK104.out⟩, ⟨by repeat ((with_reducible exact HB.out))⟩⟩
                    · rw [if_neg c79] at H
                      have c79b0 : decide (x89_3 < (y117.length : Int)) = false := decide_eq_false c79
                      (try (have c79b0z_hl13_3 := c79b0; rw [hl13_3] at c79b0z_hl13_3))
                      (try (have c79b0z_hl13_4 := c79b0; rw [hl13_4] at c79b0z_hl13_4))
                      (try (have c79b0z_hl9_2 := c79b0; rw [hl9_2] at c79b0z_hl9_2))
                      (try (have c79b0z_hl9_4 := c79b0; rw [hl9_4] at c79b0z_hl9_4))
                      clear c79
                      have H' := Aside0.mk H
                      clear H
                      go_wp2
                      repeat (go_quiet (fail); try go_wp2)
                      go_loopg [15] k3 (fun kq v15 w' => ∃ (x9_4 : List Int) (x13_4 : List (List Int)) (x15_4 : Int), v15 = .int .i64 x15_4 ∧ Aside0 (impl_CountFixed.l2 kq a1 a2 x9_4 x13_4 x15_4 a0_0 a0_1 = some r) ∧ Aside0 (kq ≤ k3) ∧ Aside0 (Kd.R (Kd.int .i64) 3 w' w.heap.size (fun _ => True) (.slice Ao49 x9_2.length co49) x9_4) ∧ Aside0 (Kd.S (Kd.slice 3 (Kd.int .i64)) 29 w' w.heap.size (fun k_ => some k_ ≠ ((.slice Ao49 x9_2.length co49) : Value).ownBlock) (.slice Ao78 x13_3.length co78) x13_4) ∧ Aside0 (w'.heap[gb101]? = some (.cells #[.int .i64 a0_0, .int .i64 a0_1] 40 (0, 0))) ∧ Aside0 (w'.heap[gb104]? = some (.cells #[.int .i64 a0_0, .int .i64 a0_1, .int .i64 a1] 42 (0, 0))) ∧ Aside0 (Below w.heap.size w w'))
                      case atStart => exact ⟨(x9_2), (x13_3), (0), (by rfl), H', ⟨Nat.le_refl _⟩, ⟨by (try simp only [hl9_2]); (try simp only [hl13_3]); exact HO_9.out⟩, ⟨by (try simp only [hl9_2]); (try simp only [hl13_3]); exact HO_13.out⟩, ⟨by (try simp only [hl9_2]); (try simp only [hl13_3]); exact BK101.out⟩, ⟨by (try simp only [hl9_2]); (try simp only [hl13_3]); exact BK104.out⟩, ⟨by repeat ((with_reducible exact HB.out))⟩⟩
                      case round =>
                        clear H'; try clear c1; try clear p1; try clear q1; try clear hx1; try clear qi1; try clear c2; try clear p2; try clear c3; try clear c4; try clear c5; try clear c5b0; try clear c5b1; try clear p5; try clear q5; try clear hx5; try clear hf5; try clear c6; try clear p6; try clear q6; try clear hx6; try clear hf6; try clear c7; try clear c8; try clear p8; try clear q8; try clear hx8; try clear hf8; try clear p11; try clear q11; try clear hx11; try clear qi11; try clear c12; try clear c13; try clear c13b0; try clear c16; try clear c16b0; try clear c19; try clear c19b0; try clear c22; try clear c22b0; try clear c29; try clear c31; try clear c31b0; try clear c34; try clear c38; try clear c38b0; try clear c38b1; try clear c39; try clear c39b0; try clear c39b1; try clear c42; try clear c50; try clear c50b0; try clear c52; try clear c52b0; try clear c52b1; try clear c53; try clear c53b0; try clear c54; try clear c54b0; try clear c55; try clear c55b0; try clear c56; try clear c56b0; try clear c57; try clear c57b0; try clear p58; try clear q58; try clear hx58; try clear hf58; try clear c59; try clear p64; try clear c65; try clear c65b0; try clear c66; try clear c66b0; try clear p67; try clear q67; try clear hx67; try clear hf67; try clear c68; try clear c74; try clear c74b0; try clear c74b1; try clear c75; try clear c75b0; try clear c75b1; try clear c79; try clear c79b0; try clear c80; try clear c80b0; try clear c80b1; try clear c81; try clear c81b0; try clear c81b1; try clear c82; try clear c82b0; try clear c83; try clear c83b0; try clear c84; try clear p84; try clear q84; try clear hx84; try clear hf84; try clear c87; try clear hx87; try clear hf87; try clear hcz14_0; try clear hcz14_1; try clear hcz17_0; try clear hcz17_1; try clear hcz20_0; try clear hcz20_1; try clear hcz23_0; try clear hcz23_1; try clear hcz25_0; try clear hcz25_1; try clear hcz27_0; try clear hcz27_1; try clear hcz32_0; try clear hcz32_1; try clear hcz35_0; try clear hcz35_1; try clear hcz35_2; try clear hcz40_0; try clear hcz40_1; try clear hcz43_0; try clear hcz43_1; try clear hcz43_2; try clear hcz45_0; try clear hcz45_1; try clear hcz60_0; try clear hcz60_1; try clear hcz60_2; try clear hcz69_0; try clear hcz69_1; try clear hcz69_2; try clear hcz9_0; try clear hcz9_1; try clear hfz14_0; try clear hfz14_1; try clear hfz17_0; try clear hfz17_1; try clear hfz20_0; try clear hfz20_1; try clear hfz23_0; try clear hfz23_1; try clear hfz25_0; try clear hfz25_1; try clear hfz27_0; try clear hfz27_1; try clear hfz32_0; try clear hfz32_1; try clear hfz35_0; try clear hfz35_1; try clear hfz35_2; try clear hfz40_0; try clear hfz40_1; try clear hfz43_0; try clear hfz43_1; try clear hfz43_2; try clear hfz45_0; try clear hfz45_1; try clear hfz60_0; try clear hfz60_1; try clear hfz60_2; try clear hfz69_0; try clear hfz69_1; try clear hfz69_2; try clear hfz9_0; try clear hfz9_1; try clear hx113_0; try clear hx114_0; try clear hx58_0; try clear hx67_0; try clear hx84_0; try clear hx87_0; try clear p1; try clear p11; try clear p113; try clear p114; try clear p2; try clear p5; try clear p58; try clear p6; try clear p64; try clear p67; try clear p84; try clear q1; try clear q11; try clear q113; try clear q114; try clear q5; try clear q58; try clear q6; try clear q67; try clear q84
                        obtain ⟨x9_4, x13_4, x15_4, rfl, HA, HK4, HO_9, HO_13, BK101, BK104, HB⟩ := hrel
                        have hl9_4 := (Kd.R_reads' HO_9.out).1
                        rw [hl9_4] at HO_9
                        (try simp only [hl9_4])
                        (try simp only [hl9_4] at BK101)
                        (try simp only [hl9_4] at BK104)
                        (try simp only [hl9_4] at HO_13)
                        have hl13_4 := (Kd.S_reads' HO_13.out).1
                        rw [hl13_4] at HO_13
                        (try simp only [hl13_4])
                        (try simp only [hl13_4] at BK101)
                        (try simp only [hl13_4] at BK104)
                        (try simp only [hl13_4] at HO_9)
                        cases gk with
                        | zero => exact absurd HA.out (by simp [impl_CountFixed.l2])
                        | succ k4 =>
                          have H := HA.out
                          clear HA
                          simp only [impl_CountFixed.l2] at H
                          obtain ⟨t124, A890, H⟩ := Option.bind_eq_some_iff.mp H
                          (try dsimp only at H); have A89 := Aside0.mk A890; clear A890
                          by_cases c90 : x15_4 < t124
                          · rw [if_pos c90] at H
                            have c90b0 : decide (x15_4 < t124) = true := decide_eq_true c90
                            clear c90
                            replace H := iN_ H; obtain ⟨c91, H⟩ := H
                            have c91b0 := eq_true c91
                            have c91b1 : decide (0 ≤ x15_4) = true := decide_eq_true c91
                            clear c91
                            obtain ⟨ji92, hji92⟩ : ∃ j_ : Int, (shr .i64 (Go.bits .or .i64 a1 a2) x15_4) = j_ := ⟨_, rfl⟩
                            replace H : (if (Go.bits .and .i64 (ji92) 1) = 1 then (impl_CountFixed.l2 k4 a1 a2 x9_4 x13_4 (wrap64 (x15_4 + 1)) a0_0 a0_1) else ((impl_EndsOf.f a0_0 a0_1 x15_4).bind fun bt125 => (if 0 ≤ bt125.1 then (if bt125.1 < (x9_4.length : Int) then (if 0 ≤ bt125.2 then (if bt125.2 < (x9_4.length : Int) then (if 0 ≤ (rd x9_4 bt125.1) then (if (rd x9_4 bt125.1) < (x13_4.length : Int) then (if (rd x9_4 bt125.1) < ((rd_L2 x13_4 (rd x9_4 bt125.1)).length : Int) then ((some (x13_4.set ((rd x9_4 bt125.1) : Int).toNat ((rd_L2 x13_4 (rd x9_4 bt125.1)).set ((rd x9_4 bt125.1) : Int).toNat (wrap64 ((rd (rd_L2 x13_4 (rd x9_4 bt125.1)) (rd x9_4 bt125.1)) + 1))) : List (List Int))).bind fun y133 => (if 0 ≤ (rd x9_4 bt125.2) then (if (rd x9_4 bt125.2) < (x13_4.length : Int) then (if (rd x9_4 bt125.2) < ((rd_L2 y133 (rd x9_4 bt125.2)).length : Int) then ((some (y133.set ((rd x9_4 bt125.2) : Int).toNat ((rd_L2 y133 (rd x9_4 bt125.2)).set ((rd x9_4 bt125.2) : Int).toNat (wrap64 ((rd (rd_L2 y133 (rd x9_4 bt125.2)) (rd x9_4 bt125.2)) + 1))) : List (List Int))).bind fun y138 => (if (rd x9_4 bt125.2) < ((rd_L2 y138 (rd x9_4 bt125.1)).length : Int) then ((some (y138.set ((rd x9_4 bt125.1) : Int).toNat ((rd_L2 y138 (rd x9_4 bt125.1)).set ((rd x9_4 bt125.2) : Int).toNat (wrap64 ((rd (rd_L2 y138 (rd x9_4 bt125.1)) (rd x9_4 bt125.2)) - 1))) : List (List Int))).bind fun y143 => (if (rd x9_4 bt125.1) < ((rd_L2 y143 (rd x9_4 bt125.2)).length : Int) then (impl_CountFixed.l2 k4 a1 a2 x9_4 (y143.set ((rd x9_4 bt125.2) : Int).toNat ((rd_L2 y143 (rd x9_4 bt125.2)).set ((rd x9_4 bt125.1) : Int).toNat (wrap64 ((rd (rd_L2 y143 (rd x9_4 bt125.2)) (rd x9_4 bt125.1)) - 1)))) (wrap64 (x15_4 + 1)) a0_0 a0_1) else (none))) else (none))) else (none)) else (none)) else (none))) else (none)) else (none)) else (none)) else (none)) else (none)) else (none)) else (none)))) = some r := by (rw [hji92] at H; exact H)
                            (try rw [hji92] at A89)
                            have hji92_ : ((Go.bits .or .i64 a1 a2) / 2 ^ min x15_4.toNat 64) = ji92 := hji92
                            have hji92z : x15_4 ≤ 64 → ((Go.bits .or .i64 a1 a2) / 2 ^ x15_4.toNat) = ji92 := shr_small hji92
                            by_cases c93 : (Go.bits .and .i64 (ji92) 1) = 1
                            · rw [if_pos c93] at H
                              have c93b0 : ((Go.bits .and .i64 (ji92) 1) == 1) = true := beq_iff_eq.mpr c93
                              have c93b1 : ((Go.bits .and .i64 (ji92) 1) != 1) = false := bne_eq_false_iff_eq.mpr c93
                              clear c93
                              have H' := Aside0.mk H
                              clear H
                              have hnb94 := NB101_104.out
                              have hnc94 := NB104_101.out
                              obtain ⟨hcz95_0, hcz95_1⟩ := kk2_ BK101.1
                              have hfz95_0 := blk_frozen BK101.out 0
                              have hfz95_1 := blk_frozen BK101.out 1
                              go_wp2_with ((go_at_call 78; (with_reducible refine (impl_CountGaps.calls a0_0 a0_1 t124 _ A89.out).mono ?_); rintro e w96 ⟨rfl, hb⟩; have n0_ := Aside0.mk (Kd.R_below HO_9.out hb); have n1_ := Aside0.mk (Kd.S_below HO_13.out hb); have n2_ := Aside0.mk (blk_below (g := gb101) (o := .cells #[.int .i64 a0_0, .int .i64 a0_1] 40 (0, 0)) BK101.out hb); have n3_ := Aside0.mk (blk_below (g := gb104) (o := .cells #[.int .i64 a0_0, .int .i64 a0_1, .int .i64 a1] 42 (0, 0)) BK104.out hb); have n4_ := Aside0.mk (below_step HB.out hb); clear HO_9; clear HO_13; clear BK101; clear BK104; clear HB; have HO_9 := n0_; have HO_13 := n1_; have BK101 := n2_; have BK104 := n3_; have HB := n4_; clear n0_ n1_ n2_ n3_ n4_; (try clear hb); (try clear hb2); (try clear hk); (try clear hi)))
                              repeat (go_quiet (fail); try go_wp2_with (fail))
                              (try simp only [← hl9_4, ← hl13_4])
                              go_roundg k4
                              case measure => have := HJ6.out; have := HK2.out; have := HK3.out; have := HK4.out; omega
                              case rel => exact ⟨(x9_4), (x13_4), (wrap64 (x15_4 + 1)), (by rfl), H', ⟨by have := HJ6.out; have := HK2.out; have := HK3.out; have := HK4.out; omega⟩, ⟨by (try simp only [hl9_2]); (try simp only [hl13_3]); (try simp only [hl9_4]); (try simp only [hl13_4]); exact HO_9.out⟩, ⟨by (try simp only [hl9_2]); (try simp only [hl13_3]); (try simp only [hl9_4]); (try simp only [hl13_4]); exact HO_13.out⟩, ⟨by (try simp only [hl9_2]); (try simp only [hl13_3]); (try simp only [hl9_4]); (try simp only [hl13_4]); exact BK101.out⟩, ⟨by (try simp only [hl9_2]); (try simp only [hl13_3]); (try simp only [hl9_4]); (try simp only [hl13_4]); exact BK104.out⟩, ⟨by repeat ((with_reducible exact HB.out))⟩⟩
                            · rw [if_neg c93] at H
                              have c93b0 : ((Go.bits .and .i64 (ji92) 1) == 1) = false := beq_eq_false_iff_ne.mpr c93
                              have c93b1 : ((Go.bits .and .i64 (ji92) 1) != 1) = true := bne_iff_ne.mpr c93
                              obtain ⟨⟨t125, t126⟩, A970, H⟩ := Option.bind_eq_some_iff.mp H
                              (try dsimp only at H); have A97 := Aside0.mk A970; clear A970
                              replace H := iN_ H; obtain ⟨c98, H⟩ := H
                              have c98b0 : decide (0 ≤ t125) = true := decide_eq_true c98
                              clear c98
                              replace H := iN_ H; obtain ⟨c99, H⟩ := H
                              have c99b0 : decide (t125 < (x9_4.length : Int)) = true := decide_eq_true c99
                              clear c99
                              replace H := iN_ H; obtain ⟨c100, H⟩ := H
                              have c100b0 : decide (0 ≤ t126) = true := decide_eq_true c100
                              clear c100
                              replace H := iN_ H; obtain ⟨c101, H⟩ := H
                              have c101b0 : decide (t126 < (x9_4.length : Int)) = true := decide_eq_true c101
                              clear c101
                              replace H := iN_ H; obtain ⟨c102, H⟩ := H
                              have c102b0 : decide (0 ≤ (rd x9_4 t125)) = true := decide_eq_true c102
                              clear c102
                              replace H := iN_ H; obtain ⟨c103, H⟩ := H
                              have c103b0 : decide ((rd x9_4 t125) < (x13_4.length : Int)) = true := decide_eq_true c103
                              clear c103
                              replace H := iN_ H; obtain ⟨c104, H⟩ := H
                              have c104b0 : decide ((rd x9_4 t125) < ((rd_L2 x13_4 (rd x9_4 t125)).length : Int)) = true := decide_eq_true c104
                              clear c104
                              obtain ⟨y131, hy131⟩ : ∃ y_ : List Int, y_ = ((rd_L2 x13_4 (rd x9_4 t125)).set ((rd x9_4 t125) : Int).toNat (wrap64 ((rd (rd_L2 x13_4 (rd x9_4 t125)) (rd x9_4 t125)) + 1))) := ⟨_, rfl⟩
                              replace H : ((some (x13_4.set ((rd x9_4 t125) : Int).toNat y131 : List (List Int))).bind fun y133 => (if 0 ≤ (rd x9_4 t126) then (if (rd x9_4 t126) < (x13_4.length : Int) then (if (rd x9_4 t126) < ((rd_L2 y133 (rd x9_4 t126)).length : Int) then ((some (y133.set ((rd x9_4 t126) : Int).toNat ((rd_L2 y133 (rd x9_4 t126)).set ((rd x9_4 t126) : Int).toNat (wrap64 ((rd (rd_L2 y133 (rd x9_4 t126)) (rd x9_4 t126)) + 1))) : List (List Int))).bind fun y138 => (if (rd x9_4 t126) < ((rd_L2 y138 (rd x9_4 t125)).length : Int) then ((some (y138.set ((rd x9_4 t125) : Int).toNat ((rd_L2 y138 (rd x9_4 t125)).set ((rd x9_4 t126) : Int).toNat (wrap64 ((rd (rd_L2 y138 (rd x9_4 t125)) (rd x9_4 t126)) - 1))) : List (List Int))).bind fun y143 => (if (rd x9_4 t125) < ((rd_L2 y143 (rd x9_4 t126)).length : Int) then (impl_CountFixed.l2 k4 a1 a2 x9_4 (y143.set ((rd x9_4 t126) : Int).toNat ((rd_L2 y143 (rd x9_4 t126)).set ((rd x9_4 t125) : Int).toNat (wrap64 ((rd (rd_L2 y143 (rd x9_4 t126)) (rd x9_4 t125)) - 1)))) (wrap64 (x15_4 + 1)) a0_0 a0_1) else (none))) else (none))) else (none)) else (none)) else (none))) = some r := by (rw [hy131]; with_reducible exact H)
                              have Ny131 := Aside0.mk hy131
                              clear hy131
                              obtain ⟨y133, hy133⟩ : ∃ y_ : List (List Int), y_ = (x13_4.set ((rd x9_4 t125) : Int).toNat y131) := ⟨_, rfl⟩
                              replace H : (if 0 ≤ (rd x9_4 t126) then (if (rd x9_4 t126) < (x13_4.length : Int) then (if (rd x9_4 t126) < ((rd_L2 y133 (rd x9_4 t126)).length : Int) then ((some (y133.set ((rd x9_4 t126) : Int).toNat ((rd_L2 y133 (rd x9_4 t126)).set ((rd x9_4 t126) : Int).toNat (wrap64 ((rd (rd_L2 y133 (rd x9_4 t126)) (rd x9_4 t126)) + 1))) : List (List Int))).bind fun y138 => (if (rd x9_4 t126) < ((rd_L2 y138 (rd x9_4 t125)).length : Int) then ((some (y138.set ((rd x9_4 t125) : Int).toNat ((rd_L2 y138 (rd x9_4 t125)).set ((rd x9_4 t126) : Int).toNat (wrap64 ((rd (rd_L2 y138 (rd x9_4 t125)) (rd x9_4 t126)) - 1))) : List (List Int))).bind fun y143 => (if (rd x9_4 t125) < ((rd_L2 y143 (rd x9_4 t126)).length : Int) then (impl_CountFixed.l2 k4 a1 a2 x9_4 (y143.set ((rd x9_4 t126) : Int).toNat ((rd_L2 y143 (rd x9_4 t126)).set ((rd x9_4 t125) : Int).toNat (wrap64 ((rd (rd_L2 y143 (rd x9_4 t126)) (rd x9_4 t125)) - 1)))) (wrap64 (x15_4 + 1)) a0_0 a0_1) else (none))) else (none))) else (none)) else (none)) else (none)) = some r := by (have H2_ := (Option.bind_some _ _).symm.trans H; rw [hy133]; with_reducible exact H2_)
                              have Ny133 := Aside0.mk hy133
                              clear hy133
                              replace H := iN_ H; obtain ⟨c106, H⟩ := H
                              have c106b0 : decide (0 ≤ (rd x9_4 t126)) = true := decide_eq_true c106
                              clear c106
                              replace H := iN_ H; obtain ⟨c107, H⟩ := H
                              have c107b0 : decide ((rd x9_4 t126) < (x13_4.length : Int)) = true := decide_eq_true c107
                              clear c107
                              replace H := iN_ H; obtain ⟨c108, H⟩ := H
                              have c108b0 : decide ((rd x9_4 t126) < ((rd_L2 y133 (rd x9_4 t126)).length : Int)) = true := decide_eq_true c108
                              clear c108
                              obtain ⟨y136, hy136⟩ : ∃ y_ : List Int, y_ = ((rd_L2 y133 (rd x9_4 t126)).set ((rd x9_4 t126) : Int).toNat (wrap64 ((rd (rd_L2 y133 (rd x9_4 t126)) (rd x9_4 t126)) + 1))) := ⟨_, rfl⟩
                              replace H : ((some (y133.set ((rd x9_4 t126) : Int).toNat y136 : List (List Int))).bind fun y138 => (if (rd x9_4 t126) < ((rd_L2 y138 (rd x9_4 t125)).length : Int) then ((some (y138.set ((rd x9_4 t125) : Int).toNat ((rd_L2 y138 (rd x9_4 t125)).set ((rd x9_4 t126) : Int).toNat (wrap64 ((rd (rd_L2 y138 (rd x9_4 t125)) (rd x9_4 t126)) - 1))) : List (List Int))).bind fun y143 => (if (rd x9_4 t125) < ((rd_L2 y143 (rd x9_4 t126)).length : Int) then (impl_CountFixed.l2 k4 a1 a2 x9_4 (y143.set ((rd x9_4 t126) : Int).toNat ((rd_L2 y143 (rd x9_4 t126)).set ((rd x9_4 t125) : Int).toNat (wrap64 ((rd (rd_L2 y143 (rd x9_4 t126)) (rd x9_4 t125)) - 1)))) (wrap64 (x15_4 + 1)) a0_0 a0_1) else (none))) else (none))) = some r := by (rw [hy136]; with_reducible exact H)
                              have Ny136 := Aside0.mk hy136
                              clear hy136
                              obtain ⟨y138, hy138⟩ : ∃ y_ : List (List Int), y_ = (y133.set ((rd x9_4 t126) : Int).toNat y136) := ⟨_, rfl⟩
                              replace H : (if (rd x9_4 t126) < ((rd_L2 y138 (rd x9_4 t125)).length : Int) then ((some (y138.set ((rd x9_4 t125) : Int).toNat ((rd_L2 y138 (rd x9_4 t125)).set ((rd x9_4 t126) : Int).toNat (wrap64 ((rd (rd_L2 y138 (rd x9_4 t125)) (rd x9_4 t126)) - 1))) : List (List Int))).bind fun y143 => (if (rd x9_4 t125) < ((rd_L2 y143 (rd x9_4 t126)).length : Int) then (impl_CountFixed.l2 k4 a1 a2 x9_4 (y143.set ((rd x9_4 t126) : Int).toNat ((rd_L2 y143 (rd x9_4 t126)).set ((rd x9_4 t125) : Int).toNat (wrap64 ((rd (rd_L2 y143 (rd x9_4 t126)) (rd x9_4 t125)) - 1)))) (wrap64 (x15_4 + 1)) a0_0 a0_1) else (none))) else (none)) = some r := by (have H2_ := (Option.bind_some _ _).symm.trans H; rw [hy138]; with_reducible exact H2_)
                              have Ny138 := Aside0.mk hy138
                              clear hy138
                              replace H := iN_ H; obtain ⟨c110, H⟩ := H
                              have c110b0 : decide ((rd x9_4 t126) < ((rd_L2 y138 (rd x9_4 t125)).length : Int)) = true := decide_eq_true c110
                              clear c110
                              obtain ⟨y141, hy141⟩ : ∃ y_ : List Int, y_ = ((rd_L2 y138 (rd x9_4 t125)).set ((rd x9_4 t126) : Int).toNat (wrap64 ((rd (rd_L2 y138 (rd x9_4 t125)) (rd x9_4 t126)) - 1))) := ⟨_, rfl⟩
                              replace H : ((some (y138.set ((rd x9_4 t125) : Int).toNat y141 : List (List Int))).bind fun y143 => (if (rd x9_4 t125) < ((rd_L2 y143 (rd x9_4 t126)).length : Int) then (impl_CountFixed.l2 k4 a1 a2 x9_4 (y143.set ((rd x9_4 t126) : Int).toNat ((rd_L2 y143 (rd x9_4 t126)).set ((rd x9_4 t125) : Int).toNat (wrap64 ((rd (rd_L2 y143 (rd x9_4 t126)) (rd x9_4 t125)) - 1)))) (wrap64 (x15_4 + 1)) a0_0 a0_1) else (none))) = some r := by (rw [hy141]; with_reducible exact H)
                              have Ny141 := Aside0.mk hy141
                              clear hy141
                              obtain ⟨y143, hy143⟩ : ∃ y_ : List (List Int), y_ = (y138.set ((rd x9_4 t125) : Int).toNat y141) := ⟨_, rfl⟩
                              replace H : (if (rd x9_4 t125) < ((rd_L2 y143 (rd x9_4 t126)).length : Int) then (impl_CountFixed.l2 k4 a1 a2 x9_4 (y143.set ((rd x9_4 t126) : Int).toNat ((rd_L2 y143 (rd x9_4 t126)).set ((rd x9_4 t125) : Int).toNat (wrap64 ((rd (rd_L2 y143 (rd x9_4 t126)) (rd x9_4 t125)) - 1)))) (wrap64 (x15_4 + 1)) a0_0 a0_1) else (none)) = some r := by (have H2_ := (Option.bind_some _ _).symm.trans H; rw [hy143]; with_reducible exact H2_)
                              have Ny143 := Aside0.mk hy143
                              clear hy143
                              replace H := iN_ H; obtain ⟨c112, H⟩ := H
                              have c112b0 : decide ((rd x9_4 t125) < ((rd_L2 y143 (rd x9_4 t126)).length : Int)) = true := decide_eq_true c112
                              clear c112
                              obtain ⟨y146, hy146⟩ : ∃ y_ : List Int, y_ = ((rd_L2 y143 (rd x9_4 t126)).set ((rd x9_4 t125) : Int).toNat (wrap64 ((rd (rd_L2 y143 (rd x9_4 t126)) (rd x9_4 t125)) - 1))) := ⟨_, rfl⟩
                              replace H : (impl_CountFixed.l2 k4 a1 a2 x9_4 (y143.set ((rd x9_4 t126) : Int).toNat y146) (wrap64 (x15_4 + 1)) a0_0 a0_1) = some r := by (rw [hy146]; with_reducible exact H)
                              have Ny146 := Aside0.mk hy146
                              clear hy146
                              obtain ⟨y148, hy148⟩ : ∃ y_ : List (List Int), y_ = (y143.set ((rd x9_4 t126) : Int).toNat y146) := ⟨_, rfl⟩
                              replace H : (impl_CountFixed.l2 k4 a1 a2 x9_4 y148 (wrap64 (x15_4 + 1)) a0_0 a0_1) = some r := by (rw [hy148]; with_reducible exact H)
                              have Ny148 := Aside0.mk hy148
                              clear hy148
                              have H' := Aside0.mk H
                              clear H
                              have hnb114 := NB101_104.out
                              have hnc114 := NB104_101.out
                              obtain ⟨hcz115_0, hcz115_1⟩ := kk2_ BK101.1
                              have hfz115_0 := blk_frozen BK101.out 0
                              have hfz115_1 := blk_frozen BK101.out 1
                              go_wp2_with (first | (go_at_call 78; (with_reducible refine (impl_CountGaps.calls a0_0 a0_1 t124 _ A89.out).mono ?_); rintro e w116 ⟨rfl, hb⟩; have n0_ := Aside0.mk (Kd.R_below HO_9.out hb); have n1_ := Aside0.mk (Kd.S_below HO_13.out hb); have n2_ := Aside0.mk (blk_below (g := gb101) (o := .cells #[.int .i64 a0_0, .int .i64 a0_1] 40 (0, 0)) BK101.out hb); have n3_ := Aside0.mk (blk_below (g := gb104) (o := .cells #[.int .i64 a0_0, .int .i64 a0_1, .int .i64 a1] 42 (0, 0)) BK104.out hb); have n4_ := Aside0.mk (below_step HB.out hb); clear HO_9; clear HO_13; clear BK101; clear BK104; clear HB; have HO_9 := n0_; have HO_13 := n1_; have BK101 := n2_; have BK104 := n3_; have HB := n4_; clear n0_ n1_ n2_ n3_ n4_; (try clear hb); (try clear hb2); (try clear hk); (try clear hi); obtain ⟨hcz117_0, hcz117_1⟩ := kk2_ BK101.1; have hfz117_0 := blk_frozen BK101.out 0; have hfz117_1 := blk_frozen BK101.out 1) | (go_at_call 82; (with_reducible refine (impl_EndsOf.calls a0_0 a0_1 x15_4 t125 t126 _ A97.out).mono ?_); rintro e w118 ⟨rfl, hb⟩; have n0_ := Aside0.mk (Kd.R_below HO_9.out hb); have n1_ := Aside0.mk (Kd.S_below HO_13.out hb); have n2_ := Aside0.mk (blk_below (g := gb101) (o := .cells #[.int .i64 a0_0, .int .i64 a0_1] 40 (0, 0)) BK101.out hb); have n3_ := Aside0.mk (blk_below (g := gb104) (o := .cells #[.int .i64 a0_0, .int .i64 a0_1, .int .i64 a1] 42 (0, 0)) BK104.out hb); have n4_ := Aside0.mk (below_step HB.out hb); clear HO_9; clear HO_13; clear BK101; clear BK104; clear HB; have HO_9 := n0_; have HO_13 := n1_; have BK101 := n2_; have BK104 := n3_; have HB := n4_; clear n0_ n1_ n2_ n3_ n4_; (try clear hb); (try clear hb2); (try clear hk); (try clear hi); have p127 : 0 ≤ (t125 : Int) := of_decide_eq_true (by with_reducible assumption); have q127 : t125 < (x9_4.length : Int) := of_decide_eq_true (by with_reducible assumption); obtain ⟨ad127, e127, hx127_0⟩ := Kd.at_int (Kd.R_reads' HO_9.out).2.2 t125 p127 q127; cases e127; replace p127 := eq_true p127; replace q127 := eq_true q127; have p128 : 0 ≤ (t126 : Int) := of_decide_eq_true (by with_reducible assumption); have q128 : t126 < (x9_4.length : Int) := of_decide_eq_true (by with_reducible assumption); obtain ⟨ad128, e128, hx128_0⟩ := Kd.at_int (Kd.R_reads' HO_9.out).2.2 t126 p128 q128; obtain rfl : ad127 = ad128 := (by injection e128); replace p128 := eq_true p128; replace q128 := eq_true q128; have p129 : 0 ≤ ((rd x9_4 t125) : Int) := of_decide_eq_true (by with_reducible assumption); have q129 : (rd x9_4 t125) < (x13_4.length : Int) := of_decide_eq_true (by with_reducible assumption); obtain ⟨ad129, A129_0, c129_0, e129, hx129_0, hl129_0, hi129_0⟩ := at_L2 (Kd.S_reads' HO_13.out).2.2 (rd x9_4 t125) p129 q129; cases e129; obtain ⟨ce129, hce129, hMe129, hcc129⟩ := Kd.S_get HO_13.out [] (rd x9_4 t125) p129 (by exact q129); obtain ⟨ve129_0, rfl, ge129_0⟩ := hMe129; have hv129_0 := hcc129 0 _ rfl; rw [Nat.add_zero, show ((Kd.slice 3 (Kd.int .i64))).sz = 1 from rfl, Nat.mul_one] at hv129_0; replace hv129_0 := Option.some.inj (hv129_0.symm.trans hx129_0); rw [hv129_0] at ge129_0; have HL129_0 := Aside0.mk (show Kd.R (Kd.int .i64) 3 _ _ _ _ (rd_L2 x13_4 (rd x9_4 t125)) from ge129_0); clear hv129_0 ge129_0; have HX129_0 := Aside0.mk hx129_0; clear hcc129 hce129; have HR129_0 := Aside0.mk hi129_0; have HC129_0 := Aside0.mk hl129_0; clear hi129_0 hl129_0; replace p129 := eq_true p129; replace q129 := eq_true q129; have p130 : 0 ≤ ((rd x9_4 t125) : Int) := of_decide_eq_true (by with_reducible assumption); have q130 : (rd x9_4 t125) < ((rd_L2 x13_4 (rd x9_4 t125)).length : Int) := of_decide_eq_true (by with_reducible assumption); obtain ⟨ad130, e130, hx130_0⟩ := Kd.at_int HR129_0.out (rd x9_4 t125) p130 q130; cases e130; replace p130 := eq_true p130; replace q130 := eq_true q130; have p105 : 0 ≤ ((rd x9_4 t125) : Int) := of_decide_eq_true (by with_reducible assumption); have q105 : ((rd x9_4 t125) : Int) < (((rd_L2 x13_4 (rd x9_4 t125)).length : Int) : Int) := of_decide_eq_true (by with_reducible assumption); obtain ⟨go105, co105, eo105, gb105, gl105, cl105, HG105⟩ := Kd.R_form HL129_0.out (by omega); (cases eo105); have GB105 := Aside0.mk gb105; have GG105 := Aside0.mk HG105; clear gb105 gl105 HG105; (simp only [add_plain] at hx130_0); obtain ⟨hx105_0, hf105_0⟩ := Kd.R_celln 0 HL129_0.out ((rd x9_4 t125) : Int) p105 q105; replace p105 := eq_true p105; replace q105 := eq_true q105; have hq119 : ((rd x9_4 t125) : Int) < (x13_4.length : Int) := (by have h_ : ((rd x9_4 t125) : Int) < ((x13_4.length : Int) : Int) := of_decide_eq_true (by with_reducible assumption); exact h_); obtain ⟨oki119, ce119, hcl119, hM119, hcc119, hok119, hbk119⟩ := Kd.S_borrow HO_13.out [] ((rd x9_4 t125) : Int) (of_decide_eq_true (by with_reducible assumption)) hq119; obtain ⟨ve119_0, rfl, ge119_0⟩ := hM119; have hv119 := hcc119 0 _ rfl; rw [Nat.add_zero, show ((Kd.slice 3 (Kd.int .i64))).sz = 1 from rfl, Nat.mul_one] at hv119; replace hv119 := Option.some.inj (hv119.symm.trans HX129_0.out); subst hv119; clear hcc119 hcl119; replace ge119_0 := (show Kd.R (Kd.int .i64) 3 _ _ _ _ (rd_L2 x13_4 (rd x9_4 t125)) from ge119_0); have HP119 := Kd.R_putg ge119_0 ((rd x9_4 t125) : Int) (wrap64 ((rd (rd_L2 x13_4 (rd x9_4 t125)) (rd x9_4 t125)) + 1))))
                              repeat (go_quiet (fail); try go_wp2_with (first | ((with_reducible refine gate_store (t := 3) (p := 133) rfl ?_); (try (rw [drewN_self w118]; generalize hq_ : World.drewN w118 _ = w118; have n0_ := Aside0.mk (Kd.R_at hq_ HO_9.out); have n1_ := Aside0.mk (Kd.S_at hq_ HO_13.out); have n2_ := Aside0.mk (Kd.R_at hq_ HL129_0.out); have n3_ := Aside0.mk (blk_at hq_ BK101.out); have n4_ := Aside0.mk (blk_at hq_ BK104.out); have n5_ := Aside0.mk (below_at hq_ HB.out); have nx0_ := Aside0.mk (cell_at hq_ HX129_0.out); clear hq_ HO_9 HO_13 HL129_0 BK101 BK104 HB; clear HX129_0; have HX129_0 := nx0_; clear nx0_; have HO_9 := n0_; have HO_13 := n1_; have HL129_0 := n2_; have BK101 := n3_; have BK104 := n4_; have HB := n5_; clear n0_ n1_ n2_ n3_ n4_ n5_; (try (have hq119 : ((rd x9_4 t125) : Int) < (x13_4.length : Int) := (by have h_ : ((rd x9_4 t125) : Int) < ((x13_4.length : Int) : Int) := of_decide_eq_true (by with_reducible assumption); exact h_))); (try (obtain ⟨oki119, ce119, hcl119, hM119, hcc119, hok119, hbk119⟩ := Kd.S_borrow HO_13.out [] ((rd x9_4 t125) : Int) (of_decide_eq_true (by with_reducible assumption)) hq119)); (try (obtain ⟨ve119_0, rfl, ge119_0⟩ := hM119)); (try (have hv119 := hcc119 0 _ rfl)); (try (rw [Nat.add_zero, show ((Kd.slice 3 (Kd.int .i64))).sz = 1 from rfl, Nat.mul_one] at hv119)); (try (replace hv119 := Option.some.inj (hv119.symm.trans HX129_0.out))); (try (subst hv119)); (try (clear hcc119 hcl119)); (try (replace ge119_0 := (show Kd.R (Kd.int .i64) 3 _ _ _ _ (rd_L2 x13_4 (rd x9_4 t125)) from ge119_0))); (try (obtain ⟨hyr_, hzr_⟩ := Kd.R_celln 0 ge119_0 ((rd x9_4 t125) : Int) (of_decide_eq_true (by with_reducible assumption)) (of_decide_eq_true (by with_reducible assumption)))); (try (have HP119 := Kd.R_putg ge119_0 ((rd x9_4 t125) : Int) (wrap64 ((rd (rd_L2 x13_4 (rd x9_4 t125)) (rd x9_4 t125)) + 1)))))); refine store_event (t := 3) (p := 133) (v := ?vo_w120) (w1 := (w118.setCell ⟨go105, ((rd x9_4 t125) : Int).toNat, none⟩ (.int .i64 (wrap64 ((rd (rd_L2 x13_4 (rd x9_4 t125)) (rd x9_4 t125)) + 1))))) ?hg ?ho ?hn ?hr ?_; (case ho => rfl); (case hg => rfl); (case hn => rfl); (case hr => (go_simp; done)); intro w120 hw; have hg : w118.grownBy w120 (some go105) := (by rw [hw]; exact HP119.2); have hz_ : Kd.R (Kd.int .i64) 3 w120 w.heap.size oki119 (.slice (some ⟨go105, 0, none⟩) (rd_L2 x13_4 (rd x9_4 t125)).length c129_0) y131 := (by rw [hw, Ny131.out]; exact HP119.1); have hp_ : Kd.S (Kd.slice 3 (Kd.int .i64)) 29 w120 w.heap.size (fun k_ => some k_ ≠ (.slice (some ad127) x9_4.length co49 : Value).ownBlock) (.slice (some ad129) x13_4.length co78) y133 := (by rw [Ny133.out]; exact hbk119 hg (fun k_ e_ => by injection e_ with e_; subst e_; exact ge119_0.1 _ rfl) (Kd.M_row hz_)); have hm_ := Kd.R_mono hz_ hok119; clear HP119 hbk119; have n0_ := Aside0.mk (Kd.R_grown1 HO_9.out rfl hg ((HL129_0.out.1 _ rfl).1)); have n1_ := Aside0.mk (hp_); have n2_ := Aside0.mk (blk_grown (g := gb101) (o := .cells #[.int .i64 a0_0, .int .i64 a0_1] 40 (0, 0)) BK101.out hg (Kd.R_ne HL129_0.out BK101.out (by decide))); have n3_ := Aside0.mk (blk_grown (g := gb104) (o := .cells #[.int .i64 a0_0, .int .i64 a0_1, .int .i64 a1] 42 (0, 0)) BK104.out hg (Kd.R_ne HL129_0.out BK104.out (by decide))); have n4_ := Aside0.mk ((by rw [hw]; exact below_set (HB.out) GB105.out : Below w.heap.size w w120)); have n5_ := Aside0.mk (hm_); have n6_ := Aside0.mk ((Kd.R_reads' hm_).2.1); clear HO_9; clear HO_13; clear BK101; clear BK104; clear HB; clear HL129_0; have HO_9 := n0_; have HO_13 := n1_; have BK101 := n2_; have BK104 := n3_; have HB := n4_; have HL153 := n5_; have HC132 := n6_; clear n0_ n1_ n2_ n3_ n4_ n5_ n6_; clear hg hw hp_ hz_ hm_ hok119; have p134 : 0 ≤ ((rd x9_4 t126) : Int) := of_decide_eq_true (by with_reducible assumption); have q134 : (rd x9_4 t126) < (y133.length : Int) := (by have h_ : ((rd x9_4 t126) : Int) < ((x13_4.length : Int) : Int) := of_decide_eq_true (by with_reducible assumption); (have e_ := (Kd.S_reads' HO_13.out).1; omega)); have ql134 : (((rd x9_4 t126) : Int) < ((x13_4.length : Int) : Int)) = True := eq_true (of_decide_eq_true (by with_reducible assumption)); obtain ⟨ad134, A134_0, c134_0, e134, hx134_0, hl134_0, hi134_0⟩ := at_L2 (Kd.S_reads' HO_13.out).2.2 (rd x9_4 t126) p134 q134; obtain rfl : ad129 = ad134 := (by injection e134); obtain ⟨ce134, hce134, hMe134, hcc134⟩ := Kd.S_get HO_13.out [] (rd x9_4 t126) p134 (by exact of_decide_eq_true (by with_reducible assumption)); obtain ⟨ve134_0, rfl, ge134_0⟩ := hMe134; have hv134_0 := hcc134 0 _ rfl; rw [Nat.add_zero, show ((Kd.slice 3 (Kd.int .i64))).sz = 1 from rfl, Nat.mul_one] at hv134_0; replace hv134_0 := Option.some.inj (hv134_0.symm.trans hx134_0); rw [hv134_0] at ge134_0; have HL134_0 := Aside0.mk (show Kd.R (Kd.int .i64) 3 _ _ _ _ (rd_L2 y133 (rd x9_4 t126)) from ge134_0); clear hv134_0 ge134_0; have HX134_0 := Aside0.mk hx134_0; clear hcc134 hce134; have HR134_0 := Aside0.mk hi134_0; have HC134_0 := Aside0.mk hl134_0; clear hi134_0 hl134_0; replace p134 := eq_true p134; replace q134 := eq_true q134; have p135 : 0 ≤ ((rd x9_4 t126) : Int) := of_decide_eq_true (by with_reducible assumption); have q135 : (rd x9_4 t126) < ((rd_L2 y133 (rd x9_4 t126)).length : Int) := of_decide_eq_true (by with_reducible assumption); obtain ⟨ad135, e135, hx135_0⟩ := Kd.at_int HR134_0.out (rd x9_4 t126) p135 q135; cases e135; replace p135 := eq_true p135; replace q135 := eq_true q135; have p109 : 0 ≤ ((rd x9_4 t126) : Int) := of_decide_eq_true (by with_reducible assumption); have q109 : ((rd x9_4 t126) : Int) < (((rd_L2 y133 (rd x9_4 t126)).length : Int) : Int) := of_decide_eq_true (by with_reducible assumption); obtain ⟨go109, co109, eo109, gb109, gl109, cl109, HG109⟩ := Kd.R_form HL134_0.out (by omega); (cases eo109); have GB109 := Aside0.mk gb109; have GG109 := Aside0.mk HG109; clear gb109 gl109 HG109; (simp only [add_plain] at hx135_0); obtain ⟨hx109_0, hf109_0⟩ := Kd.R_celln 0 HL134_0.out ((rd x9_4 t126) : Int) p109 q109; replace p109 := eq_true p109; replace q109 := eq_true q109; have hq121 : ((rd x9_4 t126) : Int) < (x13_4.length : Int) := (by have h_ : ((rd x9_4 t126) : Int) < ((x13_4.length : Int) : Int) := of_decide_eq_true (by with_reducible assumption); exact h_); obtain ⟨oki121, ce121, hcl121, hM121, hcc121, hok121, hbk121⟩ := Kd.S_borrow HO_13.out [] ((rd x9_4 t126) : Int) (of_decide_eq_true (by with_reducible assumption)) hq121; obtain ⟨ve121_0, rfl, ge121_0⟩ := hM121; have hv121 := hcc121 0 _ rfl; rw [Nat.add_zero, show ((Kd.slice 3 (Kd.int .i64))).sz = 1 from rfl, Nat.mul_one] at hv121; replace hv121 := Option.some.inj (hv121.symm.trans HX134_0.out); subst hv121; clear hcc121 hcl121; replace ge121_0 := (show Kd.R (Kd.int .i64) 3 _ _ _ _ (rd_L2 y133 (rd x9_4 t126)) from ge121_0); have HP121 := Kd.R_putg ge121_0 ((rd x9_4 t126) : Int) (wrap64 ((rd (rd_L2 y133 (rd x9_4 t126)) (rd x9_4 t126)) + 1))) | ((with_reducible refine gate_store (t := 3) (p := 142) rfl ?_); (try (rw [drewN_self w120]; generalize hq_ : World.drewN w120 _ = w120; have n0_ := Aside0.mk (Kd.R_at hq_ HO_9.out); have n1_ := Aside0.mk (Kd.S_at hq_ HO_13.out); have n2_ := Aside0.mk (Kd.R_at hq_ HL134_0.out); have n3_ := Aside0.mk (blk_at hq_ BK101.out); have n4_ := Aside0.mk (blk_at hq_ BK104.out); have n5_ := Aside0.mk (below_at hq_ HB.out); have nx0_ := Aside0.mk (cell_at hq_ HX134_0.out); clear hq_ HO_9 HO_13 HL134_0 BK101 BK104 HB; clear HX134_0; have HX134_0 := nx0_; clear nx0_; have HO_9 := n0_; have HO_13 := n1_; have HL134_0 := n2_; have BK101 := n3_; have BK104 := n4_; have HB := n5_; clear n0_ n1_ n2_ n3_ n4_ n5_; (try (have hq121 : ((rd x9_4 t126) : Int) < (x13_4.length : Int) := (by have h_ : ((rd x9_4 t126) : Int) < ((x13_4.length : Int) : Int) := of_decide_eq_true (by fail); fail))); (try (obtain ⟨oki121, ce121, hcl121, hM121, hcc121, hok121, hbk121⟩ := Kd.S_borrow HO_13.out [] ((rd x9_4 t126) : Int) (of_decide_eq_true (by fail)) hq121)); (try (obtain ⟨ve121_0, rfl, ge121_0⟩ := hM121)); (try (have hv121 := hcc121 0 _ rfl)); (try (rw [Nat.add_zero, show ((Kd.slice 3 (Kd.int .i64))).sz = 1 from rfl, Nat.mul_one] at hv121)); (try (replace hv121 := Option.some.inj (hv121.symm.trans HX134_0.out))); (try (subst hv121)); (try (clear hcc121 hcl121)); (try (replace ge121_0 := (show Kd.R (Kd.int .i64) 3 _ _ _ _ (rd_L2 y133 (rd x9_4 t126)) from ge121_0))); (try (obtain ⟨hyr_, hzr_⟩ := Kd.R_celln 0 ge121_0 ((rd x9_4 t126) : Int) (of_decide_eq_true (by fail)) (of_decide_eq_true (by fail)))); (try (have HP121 := Kd.R_putg ge121_0 ((rd x9_4 t126) : Int) (wrap64 ((rd (rd_L2 y133 (rd x9_4 t126)) (rd x9_4 t126)) + 1)))))); refine store_event (t := 3) (p := 142) (v := ?vo_w122) (w1 := (w120.setCell ⟨go109, ((rd x9_4 t126) : Int).toNat, none⟩ (.int .i64 (wrap64 ((rd (rd_L2 y133 (rd x9_4 t126)) (rd x9_4 t126)) + 1))))) ?hg ?ho ?hn ?hr ?_; (case ho => rfl); (case hg => rfl); (case hn => rfl); (case hr => (go_simp; done)); intro w122 hw; have hg : w120.grownBy w122 (some go109) := (by rw [hw]; exact HP121.2); have hz_ : Kd.R (Kd.int .i64) 3 w122 w.heap.size oki121 (.slice (some ⟨go109, 0, none⟩) (rd_L2 y133 (rd x9_4 t126)).length c134_0) y136 := (by rw [hw, Ny136.out]; exact HP121.1); have hp_ : Kd.S (Kd.slice 3 (Kd.int .i64)) 29 w122 w.heap.size (fun k_ => some k_ ≠ (.slice (some ad127) x9_4.length co49 : Value).ownBlock) (.slice (some ad129) x13_4.length co78) y138 := (by rw [Ny138.out]; exact hbk121 hg (fun k_ e_ => by injection e_ with e_; subst e_; exact ge121_0.1 _ rfl) (Kd.M_row hz_)); have hm_ := Kd.R_mono hz_ hok121; clear HP121 hbk121; have n0_ := Aside0.mk (Kd.R_grown1 HO_9.out rfl hg ((HL134_0.out.1 _ rfl).1)); have n1_ := Aside0.mk (hp_); have n2_ := Aside0.mk (blk_grown (g := gb101) (o := .cells #[.int .i64 a0_0, .int .i64 a0_1] 40 (0, 0)) BK101.out hg (Kd.R_ne HL134_0.out BK101.out (by decide))); have n3_ := Aside0.mk (blk_grown (g := gb104) (o := .cells #[.int .i64 a0_0, .int .i64 a0_1, .int .i64 a1] 42 (0, 0)) BK104.out hg (Kd.R_ne HL134_0.out BK104.out (by decide))); have n4_ := Aside0.mk ((by rw [hw]; exact below_set (HB.out) GB109.out : Below w.heap.size w w122)); have n5_ := Aside0.mk (hm_); have n6_ := Aside0.mk ((Kd.R_reads' hm_).2.1); clear HO_9; clear HO_13; clear BK101; clear BK104; clear HB; clear HL153; clear HL134_0; have HO_9 := n0_; have HO_13 := n1_; have BK101 := n2_; have BK104 := n3_; have HB := n4_; have HL154 := n5_; have HC137 := n6_; clear n0_ n1_ n2_ n3_ n4_ n5_ n6_; clear hg hw hp_ hz_ hm_ hok121; have p139 : 0 ≤ ((rd x9_4 t125) : Int) := of_decide_eq_true (by with_reducible assumption); have q139 : (rd x9_4 t125) < (y138.length : Int) := (by have h_ : ((rd x9_4 t125) : Int) < ((x13_4.length : Int) : Int) := of_decide_eq_true (by with_reducible assumption); (have e_ := (Kd.S_reads' HO_13.out).1; omega)); have ql139 : (((rd x9_4 t125) : Int) < ((x13_4.length : Int) : Int)) = True := eq_true (of_decide_eq_true (by with_reducible assumption)); obtain ⟨ad139, A139_0, c139_0, e139, hx139_0, hl139_0, hi139_0⟩ := at_L2 (Kd.S_reads' HO_13.out).2.2 (rd x9_4 t125) p139 q139; obtain rfl : ad129 = ad139 := (by injection e139); obtain ⟨ce139, hce139, hMe139, hcc139⟩ := Kd.S_get HO_13.out [] (rd x9_4 t125) p139 (by exact of_decide_eq_true (by with_reducible assumption)); obtain ⟨ve139_0, rfl, ge139_0⟩ := hMe139; have hv139_0 := hcc139 0 _ rfl; rw [Nat.add_zero, show ((Kd.slice 3 (Kd.int .i64))).sz = 1 from rfl, Nat.mul_one] at hv139_0; replace hv139_0 := Option.some.inj (hv139_0.symm.trans hx139_0); rw [hv139_0] at ge139_0; have HL139_0 := Aside0.mk (show Kd.R (Kd.int .i64) 3 _ _ _ _ (rd_L2 y138 (rd x9_4 t125)) from ge139_0); clear hv139_0 ge139_0; have HX139_0 := Aside0.mk hx139_0; clear hcc139 hce139; have HR139_0 := Aside0.mk hi139_0; have HC139_0 := Aside0.mk hl139_0; clear hi139_0 hl139_0; replace p139 := eq_true p139; replace q139 := eq_true q139; have p140 : 0 ≤ ((rd x9_4 t126) : Int) := of_decide_eq_true (by with_reducible assumption); have q140 : (rd x9_4 t126) < ((rd_L2 y138 (rd x9_4 t125)).length : Int) := of_decide_eq_true (by with_reducible assumption); obtain ⟨ad140, e140, hx140_0⟩ := Kd.at_int HR139_0.out (rd x9_4 t126) p140 q140; cases e140; replace p140 := eq_true p140; replace q140 := eq_true q140; have p111 : 0 ≤ ((rd x9_4 t126) : Int) := of_decide_eq_true (by with_reducible assumption); have q111 : ((rd x9_4 t126) : Int) < (((rd_L2 y138 (rd x9_4 t125)).length : Int) : Int) := of_decide_eq_true (by with_reducible assumption); obtain ⟨go111, co111, eo111, gb111, gl111, cl111, HG111⟩ := Kd.R_form HL139_0.out (by omega); (cases eo111); have GB111 := Aside0.mk gb111; have GG111 := Aside0.mk HG111; clear gb111 gl111 HG111; (simp only [add_plain] at hx140_0); obtain ⟨hx111_0, hf111_0⟩ := Kd.R_celln 0 HL139_0.out ((rd x9_4 t126) : Int) p111 q111; replace p111 := eq_true p111; replace q111 := eq_true q111; have hq123 : ((rd x9_4 t125) : Int) < (x13_4.length : Int) := (by have h_ : ((rd x9_4 t125) : Int) < ((x13_4.length : Int) : Int) := of_decide_eq_true (by with_reducible assumption); exact h_); obtain ⟨oki123, ce123, hcl123, hM123, hcc123, hok123, hbk123⟩ := Kd.S_borrow HO_13.out [] ((rd x9_4 t125) : Int) (of_decide_eq_true (by with_reducible assumption)) hq123; obtain ⟨ve123_0, rfl, ge123_0⟩ := hM123; have hv123 := hcc123 0 _ rfl; rw [Nat.add_zero, show ((Kd.slice 3 (Kd.int .i64))).sz = 1 from rfl, Nat.mul_one] at hv123; replace hv123 := Option.some.inj (hv123.symm.trans HX139_0.out); subst hv123; clear hcc123 hcl123; replace ge123_0 := (show Kd.R (Kd.int .i64) 3 _ _ _ _ (rd_L2 y138 (rd x9_4 t125)) from ge123_0); have HP123 := Kd.R_putg ge123_0 ((rd x9_4 t126) : Int) (wrap64 ((rd (rd_L2 y138 (rd x9_4 t125)) (rd x9_4 t126)) - 1))) | ((with_reducible refine gate_store (t := 3) (p := 151) rfl ?_); (try (rw [drewN_self w122]; generalize hq_ : World.drewN w122 _ = w122; have n0_ := Aside0.mk (Kd.R_at hq_ HO_9.out); have n1_ := Aside0.mk (Kd.S_at hq_ HO_13.out); have n2_ := Aside0.mk (Kd.R_at hq_ HL139_0.out); have n3_ := Aside0.mk (blk_at hq_ BK101.out); have n4_ := Aside0.mk (blk_at hq_ BK104.out); have n5_ := Aside0.mk (below_at hq_ HB.out); have nx0_ := Aside0.mk (cell_at hq_ HX139_0.out); clear hq_ HO_9 HO_13 HL139_0 BK101 BK104 HB; clear HX139_0; have HX139_0 := nx0_; clear nx0_; have HO_9 := n0_; have HO_13 := n1_; have HL139_0 := n2_; have BK101 := n3_; have BK104 := n4_; have HB := n5_; clear n0_ n1_ n2_ n3_ n4_ n5_; (try (have hq123 : ((rd x9_4 t125) : Int) < (x13_4.length : Int) := (by have h_ : ((rd x9_4 t125) : Int) < ((x13_4.length : Int) : Int) := of_decide_eq_true (by fail); fail))); (try (obtain ⟨oki123, ce123, hcl123, hM123, hcc123, hok123, hbk123⟩ := Kd.S_borrow HO_13.out [] ((rd x9_4 t125) : Int) (of_decide_eq_true (by fail)) hq123)); (try (obtain ⟨ve123_0, rfl, ge123_0⟩ := hM123)); (try (have hv123 := hcc123 0 _ rfl)); (try (rw [Nat.add_zero, show ((Kd.slice 3 (Kd.int .i64))).sz = 1 from rfl, Nat.mul_one] at hv123)); (try (replace hv123 := Option.some.inj (hv123.symm.trans HX139_0.out))); (try (subst hv123)); (try (clear hcc123 hcl123)); (try (replace ge123_0 := (show Kd.R (Kd.int .i64) 3 _ _ _ _ (rd_L2 y138 (rd x9_4 t125)) from ge123_0))); (try (obtain ⟨hyr_, hzr_⟩ := Kd.R_celln 0 ge123_0 ((rd x9_4 t126) : Int) (of_decide_eq_true (by fail)) (of_decide_eq_true (by fail)))); (try (have HP123 := Kd.R_putg ge123_0 ((rd x9_4 t126) : Int) (wrap64 ((rd (rd_L2 y138 (rd x9_4 t125)) (rd x9_4 t126)) - 1)))))); refine store_event (t := 3) (p := 151) (v := ?vo_w124) (w1 := (w122.setCell ⟨go111, ((rd x9_4 t126) : Int).toNat, none⟩ (.int .i64 (wrap64 ((rd (rd_L2 y138 (rd x9_4 t125)) (rd x9_4 t126)) - 1))))) ?hg ?ho ?hn ?hr ?_; (case ho => rfl); (case hg => rfl); (case hn => rfl); (case hr => (go_simp; done)); intro w124 hw; have hg : w122.grownBy w124 (some go111) := (by rw [hw]; exact HP123.2); have hz_ : Kd.R (Kd.int .i64) 3 w124 w.heap.size oki123 (.slice (some ⟨go111, 0, none⟩) (rd_L2 y138 (rd x9_4 t125)).length c139_0) y141 := (by rw [hw, Ny141.out]; exact HP123.1); have hp_ : Kd.S (Kd.slice 3 (Kd.int .i64)) 29 w124 w.heap.size (fun k_ => some k_ ≠ (.slice (some ad127) x9_4.length co49 : Value).ownBlock) (.slice (some ad129) x13_4.length co78) y143 := (by rw [Ny143.out]; exact hbk123 hg (fun k_ e_ => by injection e_ with e_; subst e_; exact ge123_0.1 _ rfl) (Kd.M_row hz_)); have hm_ := Kd.R_mono hz_ hok123; clear HP123 hbk123; have n0_ := Aside0.mk (Kd.R_grown1 HO_9.out rfl hg ((HL139_0.out.1 _ rfl).1)); have n1_ := Aside0.mk (hp_); have n2_ := Aside0.mk (blk_grown (g := gb101) (o := .cells #[.int .i64 a0_0, .int .i64 a0_1] 40 (0, 0)) BK101.out hg (Kd.R_ne HL139_0.out BK101.out (by decide))); have n3_ := Aside0.mk (blk_grown (g := gb104) (o := .cells #[.int .i64 a0_0, .int .i64 a0_1, .int .i64 a1] 42 (0, 0)) BK104.out hg (Kd.R_ne HL139_0.out BK104.out (by decide))); have n4_ := Aside0.mk ((by rw [hw]; exact below_set (HB.out) GB111.out : Below w.heap.size w w124)); have n5_ := Aside0.mk (hm_); have n6_ := Aside0.mk ((Kd.R_reads' hm_).2.1); clear HO_9; clear HO_13; clear BK101; clear BK104; clear HB; clear HL154; clear HL139_0; have HO_9 := n0_; have HO_13 := n1_; have BK101 := n2_; have BK104 := n3_; have HB := n4_; have HL155 := n5_; have HC142 := n6_; clear n0_ n1_ n2_ n3_ n4_ n5_ n6_; clear hg hw hp_ hz_ hm_ hok123; have p144 : 0 ≤ ((rd x9_4 t126) : Int) := of_decide_eq_true (by with_reducible assumption); have q144 : (rd x9_4 t126) < (y143.length : Int) := (by have h_ : ((rd x9_4 t126) : Int) < ((x13_4.length : Int) : Int) := of_decide_eq_true (by with_reducible assumption); (have e_ := (Kd.S_reads' HO_13.out).1; omega)); have ql144 : (((rd x9_4 t126) : Int) < ((x13_4.length : Int) : Int)) = True := eq_true (of_decide_eq_true (by with_reducible assumption)); obtain ⟨ad144, A144_0, c144_0, e144, hx144_0, hl144_0, hi144_0⟩ := at_L2 (Kd.S_reads' HO_13.out).2.2 (rd x9_4 t126) p144 q144; obtain rfl : ad129 = ad144 := (by injection e144); obtain ⟨ce144, hce144, hMe144, hcc144⟩ := Kd.S_get HO_13.out [] (rd x9_4 t126) p144 (by exact of_decide_eq_true (by with_reducible assumption)); obtain ⟨ve144_0, rfl, ge144_0⟩ := hMe144; have hv144_0 := hcc144 0 _ rfl; rw [Nat.add_zero, show ((Kd.slice 3 (Kd.int .i64))).sz = 1 from rfl, Nat.mul_one] at hv144_0; replace hv144_0 := Option.some.inj (hv144_0.symm.trans hx144_0); rw [hv144_0] at ge144_0; have HL144_0 := Aside0.mk (show Kd.R (Kd.int .i64) 3 _ _ _ _ (rd_L2 y143 (rd x9_4 t126)) from ge144_0); clear hv144_0 ge144_0; have HX144_0 := Aside0.mk hx144_0; clear hcc144 hce144; have HR144_0 := Aside0.mk hi144_0; have HC144_0 := Aside0.mk hl144_0; clear hi144_0 hl144_0; replace p144 := eq_true p144; replace q144 := eq_true q144; have p145 : 0 ≤ ((rd x9_4 t125) : Int) := of_decide_eq_true (by with_reducible assumption); have q145 : (rd x9_4 t125) < ((rd_L2 y143 (rd x9_4 t126)).length : Int) := of_decide_eq_true (by with_reducible assumption); obtain ⟨ad145, e145, hx145_0⟩ := Kd.at_int HR144_0.out (rd x9_4 t125) p145 q145; cases e145; replace p145 := eq_true p145; replace q145 := eq_true q145; have p113 : 0 ≤ ((rd x9_4 t125) : Int) := of_decide_eq_true (by with_reducible assumption); have q113 : ((rd x9_4 t125) : Int) < (((rd_L2 y143 (rd x9_4 t126)).length : Int) : Int) := of_decide_eq_true (by with_reducible assumption); obtain ⟨go113, co113, eo113, gb113, gl113, cl113, HG113⟩ := Kd.R_form HL144_0.out (by omega); (cases eo113); have GB113 := Aside0.mk gb113; have GG113 := Aside0.mk HG113; clear gb113 gl113 HG113; (simp only [add_plain] at hx145_0); obtain ⟨hx113_0, hf113_0⟩ := Kd.R_celln 0 HL144_0.out ((rd x9_4 t125) : Int) p113 q113; replace p113 := eq_true p113; replace q113 := eq_true q113; have hq125 : ((rd x9_4 t126) : Int) < (x13_4.length : Int) := (by have h_ : ((rd x9_4 t126) : Int) < ((x13_4.length : Int) : Int) := of_decide_eq_true (by with_reducible assumption); exact h_); obtain ⟨oki125, ce125, hcl125, hM125, hcc125, hok125, hbk125⟩ := Kd.S_borrow HO_13.out [] ((rd x9_4 t126) : Int) (of_decide_eq_true (by with_reducible assumption)) hq125; obtain ⟨ve125_0, rfl, ge125_0⟩ := hM125; have hv125 := hcc125 0 _ rfl; rw [Nat.add_zero, show ((Kd.slice 3 (Kd.int .i64))).sz = 1 from rfl, Nat.mul_one] at hv125; replace hv125 := Option.some.inj (hv125.symm.trans HX144_0.out); subst hv125; clear hcc125 hcl125; replace ge125_0 := (show Kd.R (Kd.int .i64) 3 _ _ _ _ (rd_L2 y143 (rd x9_4 t126)) from ge125_0); have HP125 := Kd.R_putg ge125_0 ((rd x9_4 t125) : Int) (wrap64 ((rd (rd_L2 y143 (rd x9_4 t126)) (rd x9_4 t125)) - 1))) | ((with_reducible refine gate_store (t := 3) (p := 160) rfl ?_); (try (rw [drewN_self w124]; generalize hq_ : World.drewN w124 _ = w124; have n0_ := Aside0.mk (Kd.R_at hq_ HO_9.out); have n1_ := Aside0.mk (Kd.S_at hq_ HO_13.out); have n2_ := Aside0.mk (Kd.R_at hq_ HL144_0.out); have n3_ := Aside0.mk (blk_at hq_ BK101.out); have n4_ := Aside0.mk (blk_at hq_ BK104.out); have n5_ := Aside0.mk (below_at hq_ HB.out); have nx0_ := Aside0.mk (cell_at hq_ HX144_0.out); clear hq_ HO_9 HO_13 HL144_0 BK101 BK104 HB; clear HX144_0; have HX144_0 := nx0_; clear nx0_; have HO_9 := n0_; have HO_13 := n1_; have HL144_0 := n2_; have BK101 := n3_; have BK104 := n4_; have HB := n5_; clear n0_ n1_ n2_ n3_ n4_ n5_; (try (have hq125 : ((rd x9_4 t126) : Int) < (x13_4.length : Int) := (by have h_ : ((rd x9_4 t126) : Int) < ((x13_4.length : Int) : Int) := of_decide_eq_true (by fail); fail))); (try (obtain ⟨oki125, ce125, hcl125, hM125, hcc125, hok125, hbk125⟩ := Kd.S_borrow HO_13.out [] ((rd x9_4 t126) : Int) (of_decide_eq_true (by fail)) hq125)); (try (obtain ⟨ve125_0, rfl, ge125_0⟩ := hM125)); (try (have hv125 := hcc125 0 _ rfl)); (try (rw [Nat.add_zero, show ((Kd.slice 3 (Kd.int .i64))).sz = 1 from rfl, Nat.mul_one] at hv125)); (try (replace hv125 := Option.some.inj (hv125.symm.trans HX144_0.out))); (try (subst hv125)); (try (clear hcc125 hcl125)); (try (replace ge125_0 := (show Kd.R (Kd.int .i64) 3 _ _ _ _ (rd_L2 y143 (rd x9_4 t126)) from ge125_0))); (try (obtain ⟨hyr_, hzr_⟩ := Kd.R_celln 0 ge125_0 ((rd x9_4 t125) : Int) (of_decide_eq_true (by fail)) (of_decide_eq_true (by fail)))); (try (have HP125 := Kd.R_putg ge125_0 ((rd x9_4 t125) : Int) (wrap64 ((rd (rd_L2 y143 (rd x9_4 t126)) (rd x9_4 t125)) - 1)))))); refine store_event (t := 3) (p := 160) (v := ?vo_w126) (w1 := (w124.setCell ⟨go113, ((rd x9_4 t125) : Int).toNat, none⟩ (.int .i64 (wrap64 ((rd (rd_L2 y143 (rd x9_4 t126)) (rd x9_4 t125)) - 1))))) ?hg ?ho ?hn ?hr ?_; (case ho => rfl); (case hg => rfl); (case hn => rfl); (case hr => (go_simp; done)); intro w126 hw; have hg : w124.grownBy w126 (some go113) := (by rw [hw]; exact HP125.2); have hz_ : Kd.R (Kd.int .i64) 3 w126 w.heap.size oki125 (.slice (some ⟨go113, 0, none⟩) (rd_L2 y143 (rd x9_4 t126)).length c144_0) y146 := (by rw [hw, Ny146.out]; exact HP125.1); have hp_ : Kd.S (Kd.slice 3 (Kd.int .i64)) 29 w126 w.heap.size (fun k_ => some k_ ≠ (.slice (some ad127) x9_4.length co49 : Value).ownBlock) (.slice (some ad129) x13_4.length co78) y148 := (by rw [Ny148.out]; exact hbk125 hg (fun k_ e_ => by injection e_ with e_; subst e_; exact ge125_0.1 _ rfl) (Kd.M_row hz_)); have hm_ := Kd.R_mono hz_ hok125; clear HP125 hbk125; have n0_ := Aside0.mk (Kd.R_grown1 HO_9.out rfl hg ((HL144_0.out.1 _ rfl).1)); have n1_ := Aside0.mk (hp_); have n2_ := Aside0.mk (blk_grown (g := gb101) (o := .cells #[.int .i64 a0_0, .int .i64 a0_1] 40 (0, 0)) BK101.out hg (Kd.R_ne HL144_0.out BK101.out (by decide))); have n3_ := Aside0.mk (blk_grown (g := gb104) (o := .cells #[.int .i64 a0_0, .int .i64 a0_1, .int .i64 a1] 42 (0, 0)) BK104.out hg (Kd.R_ne HL144_0.out BK104.out (by decide))); have n4_ := Aside0.mk ((by rw [hw]; exact below_set (HB.out) GB113.out : Below w.heap.size w w126)); have n5_ := Aside0.mk (hm_); have n6_ := Aside0.mk ((Kd.R_reads' hm_).2.1); clear HO_9; clear HO_13; clear BK101; clear BK104; clear HB; clear HL155; clear HL144_0; have HO_9 := n0_; have HO_13 := n1_; have BK101 := n2_; have BK104 := n3_; have HB := n4_; have HL156 := n5_; have HC147 := n6_; clear n0_ n1_ n2_ n3_ n4_ n5_ n6_; clear hg hw hp_ hz_ hm_ hok125)))
                              (try simp only [← hl9_4, ← hl13_4])
                              go_roundg k4
                              case measure => have := HJ6.out; have := HK2.out; have := HK3.out; have := HK4.out; omega
                              case rel => exact ⟨(x9_4), (y148), (wrap64 (x15_4 + 1)), (by rfl), H', ⟨by have := HJ6.out; have := HK2.out; have := HK3.out; have := HK4.out; omega⟩, ⟨by (try simp only [hl9_2]); (try simp only [hl13_3]); (try simp only [hl9_4]); (try simp only [hl13_4]); exact HO_9.out⟩, ⟨by (try simp only [hl9_2]); (try simp only [hl13_3]); (try simp only [hl9_4]); (try simp only [hl13_4]); exact HO_13.out⟩, ⟨by (try simp only [hl9_2]); (try simp only [hl13_3]); (try simp only [hl9_4]); (try simp only [hl13_4]); exact BK101.out⟩, ⟨by (try simp only [hl9_2]); (try simp only [hl13_3]); (try simp only [hl9_4]); (try simp only [hl13_4]); exact BK104.out⟩, ⟨by repeat ((with_reducible exact HB.out))⟩⟩
                          · rw [if_neg c90] at H
                            have c90b0 : decide (x15_4 < t124) = false := decide_eq_false c90
                            clear c90
                            obtain ⟨t149, A1270, H⟩ := Option.bind_eq_some_iff.mp H
                            (try dsimp only at H); have A127 := Aside0.mk A1270; clear A1270
                            obtain ⟨t152, A1280, H⟩ := Option.bind_eq_some_iff.mp H
                            (try dsimp only at H); have A128 := Aside0.mk A1280; clear A1280
                            obtain rfl := Option.some.inj H
                            have hnb129 := NB101_104.out
                            have hnc129 := NB104_101.out
                            obtain ⟨hcz130_0, hcz130_1⟩ := kk2_ BK101.1
                            have hfz130_0 := blk_frozen BK101.out 0
                            have hfz130_1 := blk_frozen BK101.out 1
                            go_wp2_with (first | (go_at_call 78; (with_reducible refine (impl_CountGaps.calls a0_0 a0_1 t124 _ A89.out).mono ?_); rintro e w131 ⟨rfl, hb⟩; have n0_ := Aside0.mk (Kd.R_below HO_9.out hb); have n1_ := Aside0.mk (Kd.S_below HO_13.out hb); have n2_ := Aside0.mk (blk_below (g := gb101) (o := .cells #[.int .i64 a0_0, .int .i64 a0_1] 40 (0, 0)) BK101.out hb); have n3_ := Aside0.mk (blk_below (g := gb104) (o := .cells #[.int .i64 a0_0, .int .i64 a0_1, .int .i64 a1] 42 (0, 0)) BK104.out hb); have n4_ := Aside0.mk (below_step HB.out hb); clear HO_9; clear HO_13; clear BK101; clear BK104; clear HB; have HO_9 := n0_; have HO_13 := n1_; have BK101 := n2_; have BK104 := n3_; have HB := n4_; clear n0_ n1_ n2_ n3_ n4_; (try clear hb); (try clear hb2); (try clear hk); (try clear hi)) | (go_at_call 58; (with_reducible refine (impl_without.calls k4 _ _ x13_4 0 t149 _ ?side1 ?side2 A127.out).mono ?_); (case side1 => repeat (exact (Kd.S_reads' HO_13.out).2.2)); (case side2 => exact (Kd.S_reads' HO_13.out).2.1); rintro e w132 ⟨v150, rfl, ho0, hb⟩; have n0_ := Aside0.mk (Kd.R_below HO_9.out hb); have n1_ := Aside0.mk (Kd.S_elder' HO_13.out (Kd.S_base ho0) hb); have n2_ := Aside0.mk (Kd.S_lower (Kd.S_new' (Kd.S_new' ho0 (Kd.R_lt HO_9.out)) (Kd.S_lt HO_13.out)) (below_size HB.out)); have n3_ := Aside0.mk (blk_below (g := gb101) (o := .cells #[.int .i64 a0_0, .int .i64 a0_1] 40 (0, 0)) BK101.out hb); have n4_ := Aside0.mk (blk_below (g := gb104) (o := .cells #[.int .i64 a0_0, .int .i64 a0_1, .int .i64 a1] 42 (0, 0)) BK104.out hb); have n5_ := Aside0.mk (below_step HB.out hb); clear HO_9; clear HO_13; clear BK101; clear BK104; clear HB; have HO_9 := n0_; have HO_13 := n1_; have HO151 := n2_; have BK101 := n3_; have BK104 := n4_; have HB := n5_; clear n0_ n1_ n2_ n3_ n4_ n5_; (try clear hb); (try clear hb2); (try clear hk); (try clear hi); (try clear ho0); obtain ⟨Ao133, co133, eo133⟩ := Kd.S_slice HO151.out; subst eo133) | (go_at_call 57; (with_reducible refine (impl_determinant.calls k4 _ _ t149 t152 _ ?side1 ?side2 A128.out).mono ?_); (case side1 => repeat (exact (Kd.S_reads' HO151.out).2.2)); (case side2 => exact (Kd.S_reads' HO151.out).2.1); rintro e w134 ⟨rfl, hb⟩; have n0_ := Aside0.mk (Kd.R_below HO_9.out hb); have n1_ := Aside0.mk (Kd.S_below HO_13.out hb); have n2_ := Aside0.mk (Kd.S_below HO151.out hb); have n3_ := Aside0.mk (blk_below (g := gb101) (o := .cells #[.int .i64 a0_0, .int .i64 a0_1] 40 (0, 0)) BK101.out hb); have n4_ := Aside0.mk (blk_below (g := gb104) (o := .cells #[.int .i64 a0_0, .int .i64 a0_1, .int .i64 a1] 42 (0, 0)) BK104.out hb); have n5_ := Aside0.mk (below_step HB.out hb); clear HO_9; clear HO_13; clear HO151; clear BK101; clear BK104; clear HB; have HO_9 := n0_; have HO_13 := n1_; have HO151 := n2_; have BK101 := n3_; have BK104 := n4_; have HB := n5_; clear n0_ n1_ n2_ n3_ n4_ n5_; (try clear hb); (try clear hb2); (try clear hk); (try clear hi)))
                            repeat (go_quiet (fail); try go_wp2_with (fail))
                            go_ret
                            exact ⟨by rfl, by repeat ((with_reducible exact HB.out))⟩

end Go.Proofs.Ytoohcdfokejkdaa.P
namespace Go.Proofs.Ytoohcdfokejkdaa.P
open Go.RowKit Go.Proofs.YtoohcdfokejkdaaW.PrintWords Go.Proofs.YtoohcdfokejkdaaW.PrintLast Go.Proofs.YtoohcdfokejkdaaW.PrintMore
attribute [local go_sem] max2_int min2_int max_two min_two max_three min_three max_four min_four   -- for this text's walks alone
set_option linter.unusedVariables false
set_option linter.unusedSimpArgs false

/-! ### impl_CountTrees: function 35 -/
def impl_CountTrees.f (k : Nat) (a0_0 : Int) (a0_1 : Int) (a0_2 : Int) : Option (Int) := (impl_MazeOk.f a0_0 a0_1 a0_2).bind fun t102 => (if t102 = true then ((impl_CountGaps.f a0_0 a0_1).bind fun t103 => (if 0 ≤ t103 then ((impl_CountFixed.f k a0_0 a0_1 0 (Go.bits .andNot .i64 (wrap64 ((shl .i64 1 t103) - 1)) a0_2)).bind fun t104 => (some t104)) else (none))) else (some 0))
def impl_CountTrees.T3 : Bool × List (List Nat × List Nat) := (true, [([], []), ([0], [0]), ([], []), ([2], [2]), ([3], [3]), ([4], [4]), ([5], [5]), ([], []), ([7], [7]), ([6, 8], [6, 8]), ([1, 9, 4], [1, 9]), ([10, 10, 0, 1, 2, 3, 4, 5, 6, 7, 8, 9, 10], [10])])
def impl_CountTrees.B3 : List Nat := [0, 1, 0, 4, 12, 28, 60, 0, 128, 508, 1023, 2047]
theorem impl_CountTrees.tab3 : rtab .any (opsOf Try.f35 3) = impl_CountTrees.T3 := by kernel_rfl
theorem impl_CountTrees.bits3 : waitsOk impl_CountTrees.T3.2 impl_CountTrees.B3 = true := by kernel_rfl
set_option maxHeartbeats 8000000 in
set_option maxRecDepth 100000 in
theorem impl_CountTrees.calls (k : Nat) (a0_0 : Int) (a0_1 : Int) (a0_2 : Int) (r : Int) (w : World) (h : impl_CountTrees.f k a0_0 a0_1 a0_2 = some r) :
    Calls Try.prog 35 #[.agg #[.int .i64 a0_0, .int .i64 a0_1, .int .i64 a0_2]] w fun e w' => e = .returned (.int .i64 r) ∧ Below w.heap.size w w' := by
  have hu42 := Try.underlying42
  have hu40 := Try.underlying40
  have HB := Aside0.mk (Below.refl w.heap.size w)
  have H : ((impl_MazeOk.f a0_0 a0_1 a0_2).bind fun t102 => (if t102 = true then ((impl_CountGaps.f a0_0 a0_1).bind fun t103 => (if 0 ≤ t103 then ((impl_CountFixed.f k a0_0 a0_1 0 (Go.bits .andNot .i64 (wrap64 ((shl .i64 1 t103) - 1)) a0_2)).bind fun t104 => (some t104)) else (none))) else (some 0))) = some r := h
  clear h
  obtain ⟨t102, A20, H⟩ := Option.bind_eq_some_iff.mp H
  (try dsimp only at H); have A2 := Aside0.mk A20; clear A20
  by_cases c3 : t102 = true
  · subst c3
    rw [if_pos rfl] at H
    obtain ⟨t103, A40, H⟩ := Option.bind_eq_some_iff.mp H
    (try dsimp only at H); have A4 := Aside0.mk A40; clear A40
    replace H := iN_ H; obtain ⟨c5, H⟩ := H
    have c5b0 := eq_true c5
    have c5b1 : decide (0 ≤ t103) = true := decide_eq_true c5
    clear c5
    obtain ⟨ji6, hji6⟩ : ∃ j_ : Int, (shl .i64 1 t103) = j_ := ⟨_, rfl⟩
    replace H : ((impl_CountFixed.f k a0_0 a0_1 0 (Go.bits .andNot .i64 (wrap64 ((ji6) - 1)) a0_2)).bind fun t104 => (some t104)) = some r := by (rw [hji6] at H; exact H)
    (try rw [hji6] at A2)
    (try rw [hji6] at A4)
    have hji6_ : (IntKind.i64.wrap (1 * 2 ^ min t103.toNat 64)) = ji6 := hji6
    have hji6z : t103 ≤ 64 → (IntKind.i64.wrap (1 * 2 ^ t103.toNat)) = ji6 := shl_small hji6
    have hji6u : (IntKind.i64.wrap (2 ^ min t103.toNat 64)) = ji6 := by have h_ := hji6_; rw [Int.one_mul] at h_; exact h_
    have hji6v : t103 ≤ 64 → (IntKind.i64.wrap (2 ^ t103.toNat)) = ji6 := fun hle_ => by have h_ := hji6z hle_; rw [Int.one_mul] at h_; exact h_
    have hji6y : (wrap64 (1 * 2 ^ min t103.toNat 64)) = ji6 := (i64_w _).symm.trans hji6_
    have hji6x : t103 ≤ 64 → (wrap64 (1 * 2 ^ t103.toNat)) = ji6 := fun h_ => (i64_w _).symm.trans (hji6z h_)
    obtain ⟨t104, A70, H⟩ := Option.bind_eq_some_iff.mp H
    (try dsimp only at H); have A7 := Aside0.mk A70; clear A70
    obtain rfl := Option.some.inj H
    go_enter Try.func35, Try.ntmps35
    try go_wp2_with (first | ((with_reducible refine gate_dst (N := 1) rfl ?_); refine box_event ?hg (N := 1) ?hd (cs := #[.int .i64 a0_0, .int .i64 a0_1, .int .i64 a0_2]) (t := 42) ?hr ?_; (case hd => rfl); (case hg => rfl); (case hr => (go_simp; done)); intro gb101 hg w8 hbox hb; have n0_ := Aside0.mk (below_step HB.out hb); have n1_ := Aside0.mk (hbox); have n2_ := Aside0.mk ((by rw [hg]; exact (below_size HB.out) : w.heap.size ≤ gb101)); have n3_ := Aside0.mk ((by rw [hg]; exact (below_size HB.out) : w.heap.size ≤ gb101)); clear HB; have HB := n0_; have BK101 := n1_; have GW101 := n2_; have GE101 := n3_; clear n0_ n1_ n2_ n3_; clear hb hbox hg; obtain ⟨hcz9_0, hcz9_1, hcz9_2⟩ := kk3_ BK101.1; have hfz9_0 := blk_frozen BK101.out 0; have hfz9_1 := blk_frozen BK101.out 1; have hfz9_2 := blk_frozen BK101.out 2) | ((with_reducible refine gate_callee (f := 69) rfl ?_); refine goesL_ (some 4) rfl rfl Try.func69 (by kernel_rfl) rfl #[.agg #[.int .i64 a0_0, .int .i64 a0_1, .int .i64 a0_2]] rfl (by (try simp only [List.map_toArray, List.map_cons, List.map_nil]); rfl) ?_; (with_reducible refine (impl_MazeOk.calls a0_0 a0_1 a0_2 true _ A2.out).mono ?_); rintro e w10 ⟨rfl, hb⟩; refine ⟨_, rfl, ?_⟩; have n0_ := Aside0.mk (blk_below (g := gb101) (o := .cells #[.int .i64 a0_0, .int .i64 a0_1, .int .i64 a0_2] 42 (0, 0)) BK101.out hb); have n1_ := Aside0.mk (below_step HB.out hb); clear BK101; clear HB; have BK101 := n0_; have HB := n1_; clear n0_ n1_; (try clear hb); (try clear hb2); (try clear hk); (try clear hi)))
    have n0_ := Aside0.mk (blk_drew BK101.out); have n1_ := Aside0.mk (below_drew1 HB.out); clear BK101; clear HB; have BK101 := n0_; have HB := n1_; clear n0_ n1_
    refine start_ (n := 12) (S := fun w' => w'.cell? ⟨gb101, 0, none⟩ = some (.int .i64 a0_0) ∧ w'.cell? ⟨gb101, 1, none⟩ = some (.int .i64 a0_1) ∧ w'.cell? ⟨gb101, 2, none⟩ = some (.int .i64 a0_2)) (ds := []) #[false, false, false, false, false, false, false, false, false, false, false, false] (by kernel_rfl) rfl rfl ⟨(blk_cell BK101.out 0).trans rfl, (blk_cell BK101.out 1).trans rfl, (blk_cell BK101.out 2).trans rfl⟩ (fun hHeld => ?_); refine with_tabW impl_CountTrees.tab3 impl_CountTrees.bits3 (fun HT_ HW_ => ?_)
    generalize w10.drew = w11 at BK101 HB hHeld ⊢
    refine pu_ (v := ?_) (a' := ?_) 0 (some 6) rfl rfl HT_ (by kernel_rfl) (.inl ⟨by rfl, ?_⟩) ?_ ?_; rotate_left 2; (intro w'; go_simp; with_reducible rfl); (simp only [P6_]; rfl)
    refine pu_ (v := ?_) (a' := ?_) 2 (some 8) rfl rfl HT_ (by kernel_rfl) (.inl ⟨by rfl, ?_⟩) ?_ ?_; rotate_left 2; (intro w'; go_simp; with_reducible rfl); (simp only [P6_]; rfl)
    refine pu_ (v := ?_) (a' := ?_) 7 (some 13) rfl rfl HT_ (by kernel_rfl) (.inl ⟨by rfl, ?_⟩) ?_ ?_; rotate_left 2; (intro w'; go_simp; with_reducible rfl); (simp only [P6_]; rfl)
    refine ta_ (v := ?_) (a' := ?_) 1 (some 7) rfl rfl HT_ HW_ (by kernel_rfl) (.inl ⟨by rfl, ?_⟩) hHeld ?_ ?_; rotate_left 2; (rintro w' ⟨s0, s1, s2⟩; go_simp; with_reducible rfl); (simp only [P6_]; rfl)
    refine ta_ (v := ?_) (a' := ?_) 3 (some 9) rfl rfl HT_ HW_ (by kernel_rfl) (.inl ⟨by rfl, ?_⟩) hHeld ?_ ?_; rotate_left 2; (rintro w' ⟨s0, s1, s2⟩; go_simp; with_reducible rfl); (simp only [P6_]; rfl)
    refine ta_ (v := ?_) (a' := ?_) 8 (some 14) rfl rfl HT_ HW_ (by kernel_rfl) (.inl ⟨by rfl, ?_⟩) hHeld ?_ ?_; rotate_left 2; (rintro w' ⟨s0, s1, s2⟩; go_simp; with_reducible rfl); (simp only [P6_]; rfl)
    refine on_ 4 (some 10) rfl rfl HT_ (by kernel_rfl) (by decide) (fun K hK => ?_)
    refine goes_ Try.func78 (by kernel_rfl) rfl #[.agg #[.int .i64 a0_0, .int .i64 a0_1]] (by rfl) rfl rfl (by (try simp only [List.map_toArray, List.map_cons, List.map_nil]); rfl) ?_
    with_reducible refine (impl_CountGaps.calls a0_0 a0_1 t103 _ A4.out).mono ?_
    rintro e w12 ⟨rfl, hb⟩
    refine ⟨_, rfl, ?_⟩
    have n0_ := Aside0.mk (blk_below (g := gb101) (o := .cells #[.int .i64 a0_0, .int .i64 a0_1, .int .i64 a0_2] 42 (0, 0)) BK101.out hb)
    have n1_ := Aside0.mk (below_step HB.out hb)
    clear BK101; clear HB; have BK101 := n0_; have HB := n1_; clear n0_ n1_; (try clear hb); (try clear hb2); (try clear hk); (try clear hi)
    refine hK.out _ _ ⟨(blk_cell BK101.out 0).trans rfl, (blk_cell BK101.out 1).trans rfl, (blk_cell BK101.out 2).trans rfl⟩ (fun hHeld => ?_)
    clear hK K
    refine norm_ (a' := ?_) ?_ ?_; rotate_left; (show Act.put _ (some 10) _ = _; simp only [P6_]; rfl)
    refine pu_ (v := ?_) (a' := ?_) 5 (some 11) rfl rfl HT_ (by kernel_rfl) (.inl ⟨by rfl, ?_⟩) ?_ ?_; rotate_left 2; (intro w'; go_simp; with_reducible rfl); (simp only [P6_]; rfl)
    refine pu_ (v := ?_) (a' := ?_) 6 (some 12) rfl rfl HT_ (by kernel_rfl) (.inl ⟨by rfl, ?_⟩) ?_ ?_; rotate_left 2; (intro w'; go_simp; with_reducible rfl); (simp only [P6_]; rfl)
    refine pu_ (v := ?_) (a' := ?_) 9 (some 15) rfl rfl HT_ (by kernel_rfl) (.inl ⟨by rfl, ?_⟩) ?_ ?_; rotate_left 2; (intro w'; go_simp; with_reducible rfl); (simp only [P6_]; rfl)
    refine on_ 10 (some 16) rfl rfl HT_ (by kernel_rfl) (by decide) (fun K hK => ?_)
    refine goes_ Try.func34 (by kernel_rfl) rfl #[.agg #[.int .i64 a0_0, .int .i64 a0_1], .int .i64 0, .int .i64 (Go.bits .andNot .i64 (wrap64 ((ji6) - 1)) a0_2)] (by rfl) rfl rfl (by (try simp only [List.map_toArray, List.map_cons, List.map_nil]); rfl) ?_
    with_reducible refine (impl_CountFixed.calls k a0_0 a0_1 0 (Go.bits .andNot .i64 (wrap64 ((ji6) - 1)) a0_2) t104 _ A7.out).mono ?_
    rintro e w13 ⟨rfl, hb⟩
    refine ⟨_, rfl, ?_⟩
    have n0_ := Aside0.mk (blk_below (g := gb101) (o := .cells #[.int .i64 a0_0, .int .i64 a0_1, .int .i64 a0_2] 42 (0, 0)) BK101.out hb)
    have n1_ := Aside0.mk (below_step HB.out hb)
    clear BK101; clear HB; have BK101 := n0_; have HB := n1_; clear n0_ n1_; (try clear hb); (try clear hb2); (try clear hk); (try clear hi)
    refine hK.out _ _ ⟨(blk_cell BK101.out 0).trans rfl, (blk_cell BK101.out 1).trans rfl, (blk_cell BK101.out 2).trans rfl⟩ (fun hHeld => ?_)
    clear hK K
    refine norm_ (a' := ?_) ?_ ?_; rotate_left; (show Act.put _ (some 16) _ = _; simp only [P6_]; rfl)
    refine pu_ (v := ?_) (a' := ?_) 11 (some 2) rfl rfl HT_ (by kernel_rfl) (.inl ⟨by rfl, ?_⟩) ?_ ?_; rotate_left 2; (intro w'; go_simp; with_reducible rfl); (simp only [P6_]; rfl)
    refine done_ (done_of HT_.out (by kernel_rfl)) ?_
    try go_wp2
    go_ret
    exact ⟨by rfl, by repeat ((with_reducible exact HB.out))⟩
  · replace c3 := Bool.eq_false_iff.mpr c3
    subst c3
    have H1 : (some 0) = some r := by rw [if_neg (show ¬ (false = true) by decide)] at H; exact H
    clear H
    have H := H1
    clear H1
    obtain rfl := Option.some.inj H
    go_enter Try.func35, Try.ntmps35
    go_wp2_with (first | ((with_reducible refine gate_dst (N := 1) rfl ?_); refine box_event ?hg (N := 1) ?hd (cs := #[.int .i64 a0_0, .int .i64 a0_1, .int .i64 a0_2]) (t := 42) ?hr ?_; (case hd => rfl); (case hg => rfl); (case hr => (go_simp; done)); intro gb101 hg w14 hbox hb; have n0_ := Aside0.mk (below_step HB.out hb); have n1_ := Aside0.mk (hbox); have n2_ := Aside0.mk ((by rw [hg]; exact (below_size HB.out) : w.heap.size ≤ gb101)); have n3_ := Aside0.mk ((by rw [hg]; exact (below_size HB.out) : w.heap.size ≤ gb101)); clear HB; have HB := n0_; have BK101 := n1_; have GW101 := n2_; have GE101 := n3_; clear n0_ n1_ n2_ n3_; clear hb hbox hg; obtain ⟨hcz15_0, hcz15_1, hcz15_2⟩ := kk3_ BK101.1; have hfz15_0 := blk_frozen BK101.out 0; have hfz15_1 := blk_frozen BK101.out 1; have hfz15_2 := blk_frozen BK101.out 2) | ((with_reducible refine gate_callee (f := 69) rfl ?_); refine goesL_ (some 4) rfl rfl Try.func69 (by kernel_rfl) rfl #[.agg #[.int .i64 a0_0, .int .i64 a0_1, .int .i64 a0_2]] rfl (by (try simp only [List.map_toArray, List.map_cons, List.map_nil]); rfl) ?_; (with_reducible refine (impl_MazeOk.calls a0_0 a0_1 a0_2 false _ A2.out).mono ?_); rintro e w16 ⟨rfl, hb⟩; refine ⟨_, rfl, ?_⟩; have n0_ := Aside0.mk (blk_below (g := gb101) (o := .cells #[.int .i64 a0_0, .int .i64 a0_1, .int .i64 a0_2] 42 (0, 0)) BK101.out hb); have n1_ := Aside0.mk (below_step HB.out hb); clear BK101; clear HB; have BK101 := n0_; have HB := n1_; clear n0_ n1_; (try clear hb); (try clear hb2); (try clear hk); (try clear hi)))
    go_ret
    exact ⟨by rfl, by repeat ((with_reducible exact HB.out))⟩

/-! ### impl_IsPassage: function 76 -/
def impl_IsPassage.f (a0_0 : Int) (a0_1 : Int) (a0_2 : Int) (a1 : Int) : Option (Bool) := (impl_MazeOk.f a0_0 a0_1 a0_2).bind fun t102 => (if t102 = true then ((impl_isGap.f a0_0 a0_1 a1).bind fun t103 => (if t103 = true then ((impl_isOpen.f a0_0 a0_1 a0_2 a1).bind fun t104 => (some t104)) else (some false))) else (some false))
set_option maxHeartbeats 8000000 in
set_option maxRecDepth 100000 in
theorem impl_IsPassage.calls (a0_0 : Int) (a0_1 : Int) (a0_2 : Int) (a1 : Int) (r : Bool) (w : World) (h : impl_IsPassage.f a0_0 a0_1 a0_2 a1 = some r) :
    Calls Try.prog 76 #[.agg #[.int .i64 a0_0, .int .i64 a0_1, .int .i64 a0_2], .int .i64 a1] w fun e w' => e = .returned (.bool r) ∧ Below w.heap.size w w' := by
  have hu42 := Try.underlying42
  have hu40 := Try.underlying40
  have HB := Aside0.mk (Below.refl w.heap.size w)
  have H : ((impl_MazeOk.f a0_0 a0_1 a0_2).bind fun t102 => (if t102 = true then ((impl_isGap.f a0_0 a0_1 a1).bind fun t103 => (if t103 = true then ((impl_isOpen.f a0_0 a0_1 a0_2 a1).bind fun t104 => (some t104)) else (some false))) else (some false))) = some r := h
  clear h
  obtain ⟨t102, A30, H⟩ := Option.bind_eq_some_iff.mp H
  (try dsimp only at H); have A3 := Aside0.mk A30; clear A30
  by_cases c4 : t102 = true
  · subst c4
    rw [if_pos rfl] at H
    obtain ⟨t103, A50, H⟩ := Option.bind_eq_some_iff.mp H
    (try dsimp only at H); have A5 := Aside0.mk A50; clear A50
    by_cases c6 : t103 = true
    · subst c6
      rw [if_pos rfl] at H
      obtain ⟨t104, A70, H⟩ := Option.bind_eq_some_iff.mp H
      (try dsimp only at H); have A7 := Aside0.mk A70; clear A70
      obtain rfl := Option.some.inj H
      go_enter Try.func76, Try.ntmps76
      go_wp2_with (first | ((with_reducible refine gate_dst (N := 2) rfl ?_); refine box_event ?hg (N := 2) ?hd (cs := #[.int .i64 a0_0, .int .i64 a0_1, .int .i64 a0_2]) (t := 42) ?hr ?_; (case hd => rfl); (case hg => rfl); (case hr => (go_simp; done)); intro gb101 hg w8 hbox hb; have n0_ := Aside0.mk (below_step HB.out hb); have n1_ := Aside0.mk (hbox); have n2_ := Aside0.mk ((by rw [hg]; exact (below_size HB.out) : w.heap.size ≤ gb101)); have n3_ := Aside0.mk ((by rw [hg]; exact (below_size HB.out) : w.heap.size ≤ gb101)); clear HB; have HB := n0_; have BK101 := n1_; have GW101 := n2_; have GE101 := n3_; clear n0_ n1_ n2_ n3_; clear hb hbox hg; obtain ⟨hcz9_0, hcz9_1, hcz9_2⟩ := kk3_ BK101.1; have hfz9_0 := blk_frozen BK101.out 0; have hfz9_1 := blk_frozen BK101.out 1; have hfz9_2 := blk_frozen BK101.out 2) | ((with_reducible refine gate_callee (f := 69) rfl ?_); refine goesL_ (some 6) rfl rfl Try.func69 (by kernel_rfl) rfl #[.agg #[.int .i64 a0_0, .int .i64 a0_1, .int .i64 a0_2]] rfl (by (try simp only [List.map_toArray, List.map_cons, List.map_nil]); rfl) ?_; (with_reducible refine (impl_MazeOk.calls a0_0 a0_1 a0_2 true _ A3.out).mono ?_); rintro e w10 ⟨rfl, hb⟩; refine ⟨_, rfl, ?_⟩; have n0_ := Aside0.mk (blk_below (g := gb101) (o := .cells #[.int .i64 a0_0, .int .i64 a0_1, .int .i64 a0_2] 42 (0, 0)) BK101.out hb); have n1_ := Aside0.mk (below_step HB.out hb); clear BK101; clear HB; have BK101 := n0_; have HB := n1_; clear n0_ n1_; (try clear hb); (try clear hb2); (try clear hk); (try clear hi); obtain ⟨hcz11_0, hcz11_1, hcz11_2⟩ := kk3_ BK101.1; have hfz11_0 := blk_frozen BK101.out 0; have hfz11_1 := blk_frozen BK101.out 1; have hfz11_2 := blk_frozen BK101.out 2) | (go_at_call 106; (with_reducible refine (impl_isGap.calls a0_0 a0_1 a1 true _ A5.out).mono ?_); rintro e w12 ⟨rfl, hb⟩; have n0_ := Aside0.mk (blk_below (g := gb101) (o := .cells #[.int .i64 a0_0, .int .i64 a0_1, .int .i64 a0_2] 42 (0, 0)) BK101.out hb); have n1_ := Aside0.mk (below_step HB.out hb); clear BK101; clear HB; have BK101 := n0_; have HB := n1_; clear n0_ n1_; (try clear hb); (try clear hb2); (try clear hk); (try clear hi); obtain ⟨hcz13_0, hcz13_1, hcz13_2⟩ := kk3_ BK101.1; have hfz13_0 := blk_frozen BK101.out 0; have hfz13_1 := blk_frozen BK101.out 1; have hfz13_2 := blk_frozen BK101.out 2) | (go_at_call 88; (with_reducible refine (impl_isOpen.calls a0_0 a0_1 a0_2 a1 t104 _ A7.out).mono ?_); rintro e w14 ⟨rfl, hb⟩; have n0_ := Aside0.mk (blk_below (g := gb101) (o := .cells #[.int .i64 a0_0, .int .i64 a0_1, .int .i64 a0_2] 42 (0, 0)) BK101.out hb); have n1_ := Aside0.mk (below_step HB.out hb); clear BK101; clear HB; have BK101 := n0_; have HB := n1_; clear n0_ n1_; (try clear hb); (try clear hb2); (try clear hk); (try clear hi)))
      go_ret
      exact ⟨by rfl, by repeat ((with_reducible exact HB.out))⟩
    · replace c6 := Bool.eq_false_iff.mpr c6
      subst c6
      have H1 : (some false) = some r := by rw [if_neg (show ¬ (false = true) by decide)] at H; exact H
      clear H
      have H := H1
      clear H1
      obtain rfl := Option.some.inj H
      go_enter Try.func76, Try.ntmps76
      go_wp2_with (first | ((with_reducible refine gate_dst (N := 2) rfl ?_); refine box_event ?hg (N := 2) ?hd (cs := #[.int .i64 a0_0, .int .i64 a0_1, .int .i64 a0_2]) (t := 42) ?hr ?_; (case hd => rfl); (case hg => rfl); (case hr => (go_simp; done)); intro gb101 hg w15 hbox hb; have n0_ := Aside0.mk (below_step HB.out hb); have n1_ := Aside0.mk (hbox); have n2_ := Aside0.mk ((by rw [hg]; exact (below_size HB.out) : w.heap.size ≤ gb101)); have n3_ := Aside0.mk ((by rw [hg]; exact (below_size HB.out) : w.heap.size ≤ gb101)); clear HB; have HB := n0_; have BK101 := n1_; have GW101 := n2_; have GE101 := n3_; clear n0_ n1_ n2_ n3_; clear hb hbox hg; obtain ⟨hcz16_0, hcz16_1, hcz16_2⟩ := kk3_ BK101.1; have hfz16_0 := blk_frozen BK101.out 0; have hfz16_1 := blk_frozen BK101.out 1; have hfz16_2 := blk_frozen BK101.out 2) | ((with_reducible refine gate_callee (f := 69) rfl ?_); refine goesL_ (some 6) rfl rfl Try.func69 (by kernel_rfl) rfl #[.agg #[.int .i64 a0_0, .int .i64 a0_1, .int .i64 a0_2]] rfl (by (try simp only [List.map_toArray, List.map_cons, List.map_nil]); rfl) ?_; (with_reducible refine (impl_MazeOk.calls a0_0 a0_1 a0_2 true _ A3.out).mono ?_); rintro e w17 ⟨rfl, hb⟩; refine ⟨_, rfl, ?_⟩; have n0_ := Aside0.mk (blk_below (g := gb101) (o := .cells #[.int .i64 a0_0, .int .i64 a0_1, .int .i64 a0_2] 42 (0, 0)) BK101.out hb); have n1_ := Aside0.mk (below_step HB.out hb); clear BK101; clear HB; have BK101 := n0_; have HB := n1_; clear n0_ n1_; (try clear hb); (try clear hb2); (try clear hk); (try clear hi); obtain ⟨hcz18_0, hcz18_1, hcz18_2⟩ := kk3_ BK101.1; have hfz18_0 := blk_frozen BK101.out 0; have hfz18_1 := blk_frozen BK101.out 1; have hfz18_2 := blk_frozen BK101.out 2) | (go_at_call 106; (with_reducible refine (impl_isGap.calls a0_0 a0_1 a1 false _ A5.out).mono ?_); rintro e w19 ⟨rfl, hb⟩; have n0_ := Aside0.mk (blk_below (g := gb101) (o := .cells #[.int .i64 a0_0, .int .i64 a0_1, .int .i64 a0_2] 42 (0, 0)) BK101.out hb); have n1_ := Aside0.mk (below_step HB.out hb); clear BK101; clear HB; have BK101 := n0_; have HB := n1_; clear n0_ n1_; (try clear hb); (try clear hb2); (try clear hk); (try clear hi)))
      go_ret
      exact ⟨by rfl, by repeat ((with_reducible exact HB.out))⟩
  · replace c4 := Bool.eq_false_iff.mpr c4
    subst c4
    have H1 : (some false) = some r := by rw [if_neg (show ¬ (false = true) by decide)] at H; exact H
    clear H
    have H := H1
    clear H1
    obtain rfl := Option.some.inj H
    go_enter Try.func76, Try.ntmps76
    go_wp2_with (first | ((with_reducible refine gate_dst (N := 2) rfl ?_); refine box_event ?hg (N := 2) ?hd (cs := #[.int .i64 a0_0, .int .i64 a0_1, .int .i64 a0_2]) (t := 42) ?hr ?_; (case hd => rfl); (case hg => rfl); (case hr => (go_simp; done)); intro gb101 hg w20 hbox hb; have n0_ := Aside0.mk (below_step HB.out hb); have n1_ := Aside0.mk (hbox); have n2_ := Aside0.mk ((by rw [hg]; exact (below_size HB.out) : w.heap.size ≤ gb101)); have n3_ := Aside0.mk ((by rw [hg]; exact (below_size HB.out) : w.heap.size ≤ gb101)); clear HB; have HB := n0_; have BK101 := n1_; have GW101 := n2_; have GE101 := n3_; clear n0_ n1_ n2_ n3_; clear hb hbox hg; obtain ⟨hcz21_0, hcz21_1, hcz21_2⟩ := kk3_ BK101.1; have hfz21_0 := blk_frozen BK101.out 0; have hfz21_1 := blk_frozen BK101.out 1; have hfz21_2 := blk_frozen BK101.out 2) | ((with_reducible refine gate_callee (f := 69) rfl ?_); refine goesL_ (some 6) rfl rfl Try.func69 (by kernel_rfl) rfl #[.agg #[.int .i64 a0_0, .int .i64 a0_1, .int .i64 a0_2]] rfl (by (try simp only [List.map_toArray, List.map_cons, List.map_nil]); rfl) ?_; (with_reducible refine (impl_MazeOk.calls a0_0 a0_1 a0_2 false _ A3.out).mono ?_); rintro e w22 ⟨rfl, hb⟩; refine ⟨_, rfl, ?_⟩; have n0_ := Aside0.mk (blk_below (g := gb101) (o := .cells #[.int .i64 a0_0, .int .i64 a0_1, .int .i64 a0_2] 42 (0, 0)) BK101.out hb); have n1_ := Aside0.mk (below_step HB.out hb); clear BK101; clear HB; have BK101 := n0_; have HB := n1_; clear n0_ n1_; (try clear hb); (try clear hb2); (try clear hk); (try clear hi)))
    go_ret
    exact ⟨by rfl, by repeat ((with_reducible exact HB.out))⟩

/-! ### impl_with: function 77 -/
def impl_with.f (a0_0 : Int) (a0_1 : Int) (a0_2 : Int) (a1 : Int) (a2 : Bool) : Option (Int × Int × Int) := if 0 ≤ a1 then (if a2 = true then (some (a0_0, a0_1, Go.bits .or .i64 (Go.bits .andNot .i64 a0_2 (shl .i64 1 a1)) (shl .i64 1 a1))) else (some (a0_0, a0_1, Go.bits .andNot .i64 a0_2 (shl .i64 1 a1)))) else (none)
set_option maxHeartbeats 8000000 in
set_option maxRecDepth 100000 in
theorem impl_with.calls (a0_0 : Int) (a0_1 : Int) (a0_2 : Int) (a1 : Int) (a2 : Bool) (r1 : Int) (r2 : Int) (r3 : Int) (w : World) (h : impl_with.f a0_0 a0_1 a0_2 a1 a2 = some (r1, r2, r3)) :
    Calls Try.prog 77 #[.agg #[.int .i64 a0_0, .int .i64 a0_1, .int .i64 a0_2], .int .i64 a1, .bool a2] w fun e w' => e = .returned (.agg #[.int .i64 r1, .int .i64 r2, .int .i64 r3]) ∧ Below w.heap.size w w' := by
  have hu42 := Try.underlying42
  have HB := Aside0.mk (Below.refl w.heap.size w)
  have H : (if 0 ≤ a1 then (if a2 = true then (some (a0_0, a0_1, Go.bits .or .i64 (Go.bits .andNot .i64 a0_2 (shl .i64 1 a1)) (shl .i64 1 a1))) else (some (a0_0, a0_1, Go.bits .andNot .i64 a0_2 (shl .i64 1 a1)))) else (none)) = some (r1, r2, r3) := h
  clear h
  replace H := iN_ H; obtain ⟨c4, H⟩ := H
  have c4b0 := eq_true c4
  have c4b1 : decide (0 ≤ a1) = true := decide_eq_true c4
  clear c4
  obtain ⟨ji5, hji5⟩ : ∃ j_ : Int, (shl .i64 1 a1) = j_ := ⟨_, rfl⟩
  replace H : (if a2 = true then (some (a0_0, a0_1, Go.bits .or .i64 (Go.bits .andNot .i64 a0_2 (ji5)) (ji5))) else (some (a0_0, a0_1, Go.bits .andNot .i64 a0_2 (ji5)))) = some (r1, r2, r3) := by (rw [hji5] at H; exact H)
  have hji5_ : (IntKind.i64.wrap (1 * 2 ^ min a1.toNat 64)) = ji5 := hji5
  have hji5z : a1 ≤ 64 → (IntKind.i64.wrap (1 * 2 ^ a1.toNat)) = ji5 := shl_small hji5
  have hji5u : (IntKind.i64.wrap (2 ^ min a1.toNat 64)) = ji5 := by have h_ := hji5_; rw [Int.one_mul] at h_; exact h_
  have hji5v : a1 ≤ 64 → (IntKind.i64.wrap (2 ^ a1.toNat)) = ji5 := fun hle_ => by have h_ := hji5z hle_; rw [Int.one_mul] at h_; exact h_
  have hji5y : (wrap64 (1 * 2 ^ min a1.toNat 64)) = ji5 := (i64_w _).symm.trans hji5_
  have hji5x : a1 ≤ 64 → (wrap64 (1 * 2 ^ a1.toNat)) = ji5 := fun h_ => (i64_w _).symm.trans (hji5z h_)
  by_cases c6 : a2 = true
  · subst c6
    rw [if_pos rfl] at H
    have c7b0 := eq_true (of_decide_eq_true (by with_reducible assumption) : 0 ≤ a1)
    simp only [Option.some.injEq, Prod.mk.injEq] at H
    obtain ⟨rfl, rfl, rfl⟩ := H
    go_enter Try.func77, Try.ntmps77
    try go_wp2_with (first | ((with_reducible refine gate_dst (N := 3) rfl ?_); refine box_event ?hg (N := 3) ?hd (cs := #[.int .i64 a0_0, .int .i64 a0_1, .int .i64 a0_2]) (t := 42) ?hr ?_; (case hd => rfl); (case hg => rfl); (case hr => (go_simp; done)); intro gb101 hg w8 hbox hb; have n0_ := Aside0.mk (below_step HB.out hb); have n1_ := Aside0.mk (hbox); have n2_ := Aside0.mk ((by rw [hg]; exact (below_size HB.out) : w.heap.size ≤ gb101)); have n3_ := Aside0.mk ((by rw [hg]; exact (below_size HB.out) : w.heap.size ≤ gb101)); clear HB; have HB := n0_; have BK101 := n1_; have GW101 := n2_; have GE101 := n3_; clear n0_ n1_ n2_ n3_; clear hb hbox hg) | ((with_reducible refine gate_dst (N := 6) rfl ?_); refine box_event ?hg (N := 6) ?hd (cs := #[.int .i64 0, .int .i64 0, .int .i64 0]) (t := 42) ?hr ?_; (case hd => rfl); (case hg => rfl); (case hr => (go_simp; done)); intro gb102 hg w9 hbox hb; have n0_ := Aside0.mk (blk_below (g := gb101) (o := .cells #[.int .i64 a0_0, .int .i64 a0_1, .int .i64 a0_2] 42 (0, 0)) BK101.out hb); have n1_ := Aside0.mk (below_step HB.out hb); have n2_ := Aside0.mk (hbox); have n3_ := Aside0.mk ((by rw [hg]; exact (below_size HB.out) : w.heap.size ≤ gb102)); have n4_ := Aside0.mk ((by rw [hg]; exact (below_size HB.out) : w.heap.size ≤ gb102)); have n5_ := Aside0.mk ((by rw [hg]; exact Nat.ne_of_lt (blk_lt (g := gb101) (o := .cells #[.int .i64 a0_0, .int .i64 a0_1, .int .i64 a0_2] 42 (0, 0)) BK101.out) : gb101 ≠ gb102)); have n6_ := Aside0.mk ((by rw [hg]; exact Nat.ne_of_gt (blk_lt (g := gb101) (o := .cells #[.int .i64 a0_0, .int .i64 a0_1, .int .i64 a0_2] 42 (0, 0)) BK101.out) : gb102 ≠ gb101)); clear BK101; clear HB; have BK101 := n0_; have HB := n1_; have BK102 := n2_; have GW102 := n3_; have GE102 := n4_; have NB101_102 := n5_; have NB102_101 := n6_; clear n0_ n1_ n2_ n3_ n4_ n5_ n6_; clear hb hbox hg)); have n0_ := Aside0.mk (blk_drew BK101.out); have n1_ := Aside0.mk (blk_drew BK102.out); have n2_ := Aside0.mk (below_drew1 HB.out); clear BK101; clear BK102; clear HB; have BK101 := n0_; have BK102 := n1_; have HB := n2_; clear n0_ n1_ n2_
    refine start_ (n := 7) (S := fun w' => w'.cell? ⟨gb101, 0, none⟩ = some (.int .i64 a0_0) ∧ w'.cell? ⟨gb101, 1, none⟩ = some (.int .i64 a0_1) ∧ w'.cell? ⟨gb101, 2, none⟩ = some (.int .i64 a0_2)) (ds := [6]) #[false, false, false, false, false, false, false] (by kernel_rfl) rfl rfl ⟨(blk_cell BK101.out 0).trans rfl, (blk_cell BK101.out 1).trans rfl, (blk_cell BK101.out 2).trans rfl⟩ (fun hHeld => ?_)
    generalize w9.drew = w10 at BK101 BK102 HB hHeld ⊢
    refine pure_ (i := 0) (N := some 7) (v := ?_) (a' := ?_) #[true, false, false, false, false, false, false] rfl rfl (by kernel_rfl) (fun _ _ _ h => h) (Or.inl ⟨by rfl, ?_⟩) ?_ ?_; rotate_left; (intro w'; go_simp; with_reducible rfl); rotate_left; (simp only [P6_]; rfl)
    refine pure_ (i := 2) (N := some 9) (v := ?_) (a' := ?_) #[true, false, true, false, false, false, false] rfl rfl (by kernel_rfl) (fun _ _ _ h => h) (Or.inl ⟨by rfl, ?_⟩) ?_ ?_; rotate_left; (intro w'; go_simp; with_reducible rfl); rotate_left; (simp only [P6_]; rfl)
    refine pure_ (i := 3) (N := some 10) (v := ?_) (a' := ?_) #[true, false, true, true, false, false, false] rfl rfl (by kernel_rfl) (fun _ _ _ h => h) (Or.inl ⟨by rfl, ?_⟩) ?_ ?_; rotate_left; (intro w'; go_simp; with_reducible rfl); rotate_left; (simp only [P6_]; rfl)
    refine take_ (i := 1) (N := some 8) (v := ?_) (a' := ?_) #[true, true, true, true, false, false, false] rfl rfl (by kernel_rfl) (fun _ _ _ h => h) (Or.inl ⟨by rfl, ?_⟩) hHeld ?_ ?_; rotate_left; (rintro w' ⟨s0, s1, s2⟩; go_simp; with_reducible rfl); rotate_left; (simp only [P6_]; rfl)
    refine pure_ (i := 4) (N := some 11) (v := ?_) (a' := ?_) #[true, true, true, true, true, false, false] rfl rfl (by kernel_rfl) (fun _ _ _ h => h) (Or.inl ⟨by rfl, ?_⟩) ?_ ?_; rotate_left; (intro w'; go_simp; with_reducible rfl); rotate_left; (simp only [P6_]; rfl)
    refine pure_ (i := 5) (N := some 12) (v := ?_) (a' := ?_) #[true, true, true, true, true, true, false] rfl rfl (by kernel_rfl) (fun _ _ _ h => h) (Or.inl ⟨by rfl, ?_⟩) ?_ ?_; rotate_left; (intro w'; go_simp; with_reducible rfl); rotate_left; (simp only [P6_]; rfl)
    refine last_ (i := 6) (N := none) #[true, true, true, true, true, true, true] rfl rfl (by kernel_rfl) (by decide) (fun K hK => ?_)
    have hs11 : w10.cell? ⟨gb101, 2, none⟩ = some (.int .i64 a0_2) := (blk_cell BK101.out 2).trans rfl
    have hfs11 := blk_frozen BK101.out 2
    have hns11_1 := NB102_101.out
    have hms11_1 := NB101_102.out
    refine skip_ (w1 := ?_) (by rfl) rfl ?_ ?_
    rotate_left
    · go_simp
      rfl
    refine hK.out _ _ ?_
    clear hK K
    refine done_ (by kernel_rfl) ?_
    try go_wp2
    have n0_ : Aside0 ((w10.setCell ⟨gb101, 2, none⟩ (.int .i64 (Go.bits .andNot .i64 a0_2 (ji5)))).heap[gb101]? = some (.cells #[.int .i64 a0_0, .int .i64 a0_1, .int .i64 (Go.bits .andNot .i64 a0_2 (ji5))] 42 (0, 0))) := ⟨by refine blk_put (cs := #[.int .i64 a0_0, .int .i64 a0_1, .int .i64 a0_2]) ?_ 2 _ rfl; exact BK101.out⟩
    have n1_ : Aside0 ((w10.setCell ⟨gb101, 2, none⟩ (.int .i64 (Go.bits .andNot .i64 a0_2 (ji5)))).heap[gb102]? = some (.cells #[.int .i64 0, .int .i64 0, .int .i64 0] 42 (0, 0))) := ⟨by refine blk_far ?_ NB102_101.out _; exact BK102.out⟩
    have n2_ : Aside0 (Below w.heap.size w (w10.setCell ⟨gb101, 2, none⟩ (.int .i64 (Go.bits .andNot .i64 a0_2 (ji5))))) := ⟨by repeat ((with_reducible first | exact HB.out | refine below_set ?_ GE101.out))⟩
    (try clear BK101); (try clear BK102); (try clear HB)
    generalize (w10.setCell ⟨gb101, 2, none⟩ (.int .i64 (Go.bits .andNot .i64 a0_2 (ji5)))) = w12 at n0_ n1_ n2_ ⊢
    have BK101 := n0_; have BK102 := n1_; have HB := n2_; clear n0_ n1_ n2_; have n0_ := Aside0.mk (blk_drew BK101.out); have n1_ := Aside0.mk (blk_drew BK102.out); have n2_ := Aside0.mk (below_drew1 HB.out); clear BK101; clear BK102; clear HB; have BK101 := n0_; have BK102 := n1_; have HB := n2_; clear n0_ n1_ n2_
    refine start_ (n := 7) (S := fun w' => w'.cell? ⟨gb101, 0, none⟩ = some (.int .i64 a0_0) ∧ w'.cell? ⟨gb101, 1, none⟩ = some (.int .i64 a0_1) ∧ w'.cell? ⟨gb101, 2, none⟩ = some (.int .i64 (Go.bits .andNot .i64 a0_2 (ji5)))) (ds := [6]) #[false, false, false, false, false, false, false] (by kernel_rfl) rfl rfl ⟨(blk_cell BK101.out 0).trans rfl, (blk_cell BK101.out 1).trans rfl, (blk_cell BK101.out 2).trans rfl⟩ (fun hHeld => ?_)
    generalize w12.drew = w13 at BK101 BK102 HB hHeld ⊢
    refine pure_ (i := 0) (N := some 14) (v := ?_) (a' := ?_) #[true, false, false, false, false, false, false] rfl rfl (by kernel_rfl) (fun _ _ _ h => h) (Or.inl ⟨by rfl, ?_⟩) ?_ ?_; rotate_left; (intro w'; go_simp; with_reducible rfl); rotate_left; (simp only [P6_]; rfl)
    refine pure_ (i := 2) (N := some 16) (v := ?_) (a' := ?_) #[true, false, true, false, false, false, false] rfl rfl (by kernel_rfl) (fun _ _ _ h => h) (Or.inl ⟨by rfl, ?_⟩) ?_ ?_; rotate_left; (intro w'; go_simp; with_reducible rfl); rotate_left; (simp only [P6_]; rfl)
    refine pure_ (i := 3) (N := some 17) (v := ?_) (a' := ?_) #[true, false, true, true, false, false, false] rfl rfl (by kernel_rfl) (fun _ _ _ h => h) (Or.inl ⟨by rfl, ?_⟩) ?_ ?_; rotate_left; (intro w'; go_simp; with_reducible rfl); rotate_left; (simp only [P6_]; rfl)
    refine take_ (i := 1) (N := some 15) (v := ?_) (a' := ?_) #[true, true, true, true, false, false, false] rfl rfl (by kernel_rfl) (fun _ _ _ h => h) (Or.inl ⟨by rfl, ?_⟩) hHeld ?_ ?_; rotate_left; (rintro w' ⟨s0, s1, s2⟩; go_simp; with_reducible rfl); rotate_left; (simp only [P6_]; rfl)
    refine pure_ (i := 4) (N := some 18) (v := ?_) (a' := ?_) #[true, true, true, true, true, false, false] rfl rfl (by kernel_rfl) (fun _ _ _ h => h) (Or.inl ⟨by rfl, ?_⟩) ?_ ?_; rotate_left; (intro w'; go_simp; with_reducible rfl); rotate_left; (simp only [P6_]; rfl)
    refine pure_ (i := 5) (N := some 19) (v := ?_) (a' := ?_) #[true, true, true, true, true, true, false] rfl rfl (by kernel_rfl) (fun _ _ _ h => h) (Or.inl ⟨by rfl, ?_⟩) ?_ ?_; rotate_left; (intro w'; go_simp; with_reducible rfl); rotate_left; (simp only [P6_]; rfl)
    refine last_ (i := 6) (N := none) #[true, true, true, true, true, true, true] rfl rfl (by kernel_rfl) (by decide) (fun K hK => ?_)
    have hs14 : w13.cell? ⟨gb101, 2, none⟩ = some (.int .i64 (Go.bits .andNot .i64 a0_2 (ji5))) := (blk_cell BK101.out 2).trans rfl
    have hfs14 := blk_frozen BK101.out 2
    have hns14_1 := NB102_101.out
    have hms14_1 := NB101_102.out
    refine skip_ (w1 := ?_) (by rfl) rfl ?_ ?_
    rotate_left
    · go_simp
      rfl
    refine hK.out _ _ ?_
    clear hK K
    refine done_ (by kernel_rfl) ?_
    have hnb15 := NB101_102.out
    have hnc15 := NB102_101.out
    obtain ⟨hcz16_0, hcz16_1, hcz16_2⟩ := kk3_ BK101.1
    have hfz16_0 := blk_frozen BK101.out 0
    have hfz16_1 := blk_frozen BK101.out 1
    have hfz16_2 := blk_frozen BK101.out 2
    obtain ⟨hcz17_0, hcz17_1, hcz17_2⟩ := kk3_ BK102.1
    have hfz17_0 := blk_frozen BK102.out 0
    have hfz17_1 := blk_frozen BK102.out 1
    have hfz17_2 := blk_frozen BK102.out 2
    try go_wp2
    refine bodyPost_ret (results_cell_row rfl _ _ gb102 42 #[.int .i64 a0_0, .int .i64 a0_1, .int .i64 (Go.bits .or .i64 (Go.bits .andNot .i64 a0_2 (ji5)) (ji5))] (0, 0) _ rfl (by refine blk_put (cs := #[.int .i64 a0_0, .int .i64 a0_1, .int .i64 0]) ?_ 2 _ rfl; refine blk_put (cs := #[.int .i64 a0_0, .int .i64 0, .int .i64 0]) ?_ 1 _ rfl; refine blk_put (cs := #[.int .i64 0, .int .i64 0, .int .i64 0]) ?_ 0 _ rfl; refine blk_far ?_ NB102_101.out _; exact BK102.out) Try.underlying42 rfl (by kernel_rfl)) rfl ?_
    exact ⟨by rfl, by repeat ((with_reducible first | exact HB.out | refine below_set ?_ GE101.out | refine below_set ?_ GE102.out))⟩
  · replace c6 := Bool.eq_false_iff.mpr c6
    subst c6
    have H1 : (some (a0_0, a0_1, Go.bits .andNot .i64 a0_2 (ji5))) = some (r1, r2, r3) := by rw [if_neg (show ¬ (false = true) by decide)] at H; exact H
    clear H
    have H := H1
    clear H1
    simp only [Option.some.injEq, Prod.mk.injEq] at H
    obtain ⟨rfl, rfl, rfl⟩ := H
    go_enter Try.func77, Try.ntmps77
    try go_wp2_with (first | ((with_reducible refine gate_dst (N := 3) rfl ?_); refine box_event ?hg (N := 3) ?hd (cs := #[.int .i64 a0_0, .int .i64 a0_1, .int .i64 a0_2]) (t := 42) ?hr ?_; (case hd => rfl); (case hg => rfl); (case hr => (go_simp; done)); intro gb101 hg w18 hbox hb; have n0_ := Aside0.mk (below_step HB.out hb); have n1_ := Aside0.mk (hbox); have n2_ := Aside0.mk ((by rw [hg]; exact (below_size HB.out) : w.heap.size ≤ gb101)); have n3_ := Aside0.mk ((by rw [hg]; exact (below_size HB.out) : w.heap.size ≤ gb101)); clear HB; have HB := n0_; have BK101 := n1_; have GW101 := n2_; have GE101 := n3_; clear n0_ n1_ n2_ n3_; clear hb hbox hg) | ((with_reducible refine gate_dst (N := 6) rfl ?_); refine box_event ?hg (N := 6) ?hd (cs := #[.int .i64 0, .int .i64 0, .int .i64 0]) (t := 42) ?hr ?_; (case hd => rfl); (case hg => rfl); (case hr => (go_simp; done)); intro gb102 hg w19 hbox hb; have n0_ := Aside0.mk (blk_below (g := gb101) (o := .cells #[.int .i64 a0_0, .int .i64 a0_1, .int .i64 a0_2] 42 (0, 0)) BK101.out hb); have n1_ := Aside0.mk (below_step HB.out hb); have n2_ := Aside0.mk (hbox); have n3_ := Aside0.mk ((by rw [hg]; exact (below_size HB.out) : w.heap.size ≤ gb102)); have n4_ := Aside0.mk ((by rw [hg]; exact (below_size HB.out) : w.heap.size ≤ gb102)); have n5_ := Aside0.mk ((by rw [hg]; exact Nat.ne_of_lt (blk_lt (g := gb101) (o := .cells #[.int .i64 a0_0, .int .i64 a0_1, .int .i64 a0_2] 42 (0, 0)) BK101.out) : gb101 ≠ gb102)); have n6_ := Aside0.mk ((by rw [hg]; exact Nat.ne_of_gt (blk_lt (g := gb101) (o := .cells #[.int .i64 a0_0, .int .i64 a0_1, .int .i64 a0_2] 42 (0, 0)) BK101.out) : gb102 ≠ gb101)); clear BK101; clear HB; have BK101 := n0_; have HB := n1_; have BK102 := n2_; have GW102 := n3_; have GE102 := n4_; have NB101_102 := n5_; have NB102_101 := n6_; clear n0_ n1_ n2_ n3_ n4_ n5_ n6_; clear hb hbox hg)); have n0_ := Aside0.mk (blk_drew BK101.out); have n1_ := Aside0.mk (blk_drew BK102.out); have n2_ := Aside0.mk (below_drew1 HB.out); clear BK101; clear BK102; clear HB; have BK101 := n0_; have BK102 := n1_; have HB := n2_; clear n0_ n1_ n2_
    refine start_ (n := 7) (S := fun w' => w'.cell? ⟨gb101, 0, none⟩ = some (.int .i64 a0_0) ∧ w'.cell? ⟨gb101, 1, none⟩ = some (.int .i64 a0_1) ∧ w'.cell? ⟨gb101, 2, none⟩ = some (.int .i64 a0_2)) (ds := [6]) #[false, false, false, false, false, false, false] (by kernel_rfl) rfl rfl ⟨(blk_cell BK101.out 0).trans rfl, (blk_cell BK101.out 1).trans rfl, (blk_cell BK101.out 2).trans rfl⟩ (fun hHeld => ?_)
    generalize w19.drew = w20 at BK101 BK102 HB hHeld ⊢
    refine pure_ (i := 0) (N := some 7) (v := ?_) (a' := ?_) #[true, false, false, false, false, false, false] rfl rfl (by kernel_rfl) (fun _ _ _ h => h) (Or.inl ⟨by rfl, ?_⟩) ?_ ?_; rotate_left; (intro w'; go_simp; with_reducible rfl); rotate_left; (simp only [P6_]; rfl)
    refine pure_ (i := 2) (N := some 9) (v := ?_) (a' := ?_) #[true, false, true, false, false, false, false] rfl rfl (by kernel_rfl) (fun _ _ _ h => h) (Or.inl ⟨by rfl, ?_⟩) ?_ ?_; rotate_left; (intro w'; go_simp; with_reducible rfl); rotate_left; (simp only [P6_]; rfl)
    refine pure_ (i := 3) (N := some 10) (v := ?_) (a' := ?_) #[true, false, true, true, false, false, false] rfl rfl (by kernel_rfl) (fun _ _ _ h => h) (Or.inl ⟨by rfl, ?_⟩) ?_ ?_; rotate_left; (intro w'; go_simp; with_reducible rfl); rotate_left; (simp only [P6_]; rfl)
    refine take_ (i := 1) (N := some 8) (v := ?_) (a' := ?_) #[true, true, true, true, false, false, false] rfl rfl (by kernel_rfl) (fun _ _ _ h => h) (Or.inl ⟨by rfl, ?_⟩) hHeld ?_ ?_; rotate_left; (rintro w' ⟨s0, s1, s2⟩; go_simp; with_reducible rfl); rotate_left; (simp only [P6_]; rfl)
    refine pure_ (i := 4) (N := some 11) (v := ?_) (a' := ?_) #[true, true, true, true, true, false, false] rfl rfl (by kernel_rfl) (fun _ _ _ h => h) (Or.inl ⟨by rfl, ?_⟩) ?_ ?_; rotate_left; (intro w'; go_simp; with_reducible rfl); rotate_left; (simp only [P6_]; rfl)
    refine pure_ (i := 5) (N := some 12) (v := ?_) (a' := ?_) #[true, true, true, true, true, true, false] rfl rfl (by kernel_rfl) (fun _ _ _ h => h) (Or.inl ⟨by rfl, ?_⟩) ?_ ?_; rotate_left; (intro w'; go_simp; with_reducible rfl); rotate_left; (simp only [P6_]; rfl)
    refine last_ (i := 6) (N := none) #[true, true, true, true, true, true, true] rfl rfl (by kernel_rfl) (by decide) (fun K hK => ?_)
    have hs21 : w20.cell? ⟨gb101, 2, none⟩ = some (.int .i64 a0_2) := (blk_cell BK101.out 2).trans rfl
    have hfs21 := blk_frozen BK101.out 2
    have hns21_1 := NB102_101.out
    have hms21_1 := NB101_102.out
    refine skip_ (w1 := ?_) (by rfl) rfl ?_ ?_
    rotate_left
    · go_simp
      rfl
    refine hK.out _ _ ?_
    clear hK K
    refine done_ (by kernel_rfl) ?_
    have hnb22 := NB101_102.out
    have hnc22 := NB102_101.out
    obtain ⟨hcz23_0, hcz23_1, hcz23_2⟩ := kk3_ BK101.1
    have hfz23_0 := blk_frozen BK101.out 0
    have hfz23_1 := blk_frozen BK101.out 1
    have hfz23_2 := blk_frozen BK101.out 2
    obtain ⟨hcz24_0, hcz24_1, hcz24_2⟩ := kk3_ BK102.1
    have hfz24_0 := blk_frozen BK102.out 0
    have hfz24_1 := blk_frozen BK102.out 1
    have hfz24_2 := blk_frozen BK102.out 2
    try go_wp2
    refine bodyPost_ret (results_cell_row rfl _ _ gb102 42 #[.int .i64 a0_0, .int .i64 a0_1, .int .i64 (Go.bits .andNot .i64 a0_2 (ji5))] (0, 0) _ rfl (by refine blk_put (cs := #[.int .i64 a0_0, .int .i64 a0_1, .int .i64 0]) ?_ 2 _ rfl; refine blk_put (cs := #[.int .i64 a0_0, .int .i64 0, .int .i64 0]) ?_ 1 _ rfl; refine blk_put (cs := #[.int .i64 0, .int .i64 0, .int .i64 0]) ?_ 0 _ rfl; refine blk_far ?_ NB102_101.out _; exact BK102.out) Try.underlying42 rfl (by kernel_rfl)) rfl ?_
    exact ⟨by rfl, by repeat ((with_reducible first | exact HB.out | refine below_set ?_ GE101.out | refine below_set ?_ GE102.out))⟩

/-! ### impl_CountWith: function 33 -/
def impl_CountWith.f (k : Nat) (a0_0 : Int) (a0_1 : Int) (a0_2 : Int) (a1 : Int) : Option (Int) := (impl_IsPassage.f a0_0 a0_1 a0_2 a1).bind fun t102 => (if t102 = true then ((impl_CountTrees.f k a0_0 a0_1 a0_2).bind fun t103 => ((impl_with.f a0_0 a0_1 a0_2 a1 false).bind fun bt104 => ((impl_CountTrees.f k bt104.1 bt104.2.1 bt104.2.2).bind fun t107 => (some (wrap64 (t103 - t107)))))) else (some 0))
def impl_CountWith.T3 : Bool × List (List Nat × List Nat) := (true, [([], []), ([0], [0]), ([], []), ([], []), ([2, 3, 1], [2, 3]), ([4, 4], [4]), ([1, 5], [1, 5]), ([6, 5, 0, 1, 2, 3, 4, 5, 6], [6])])
def impl_CountWith.B3 : List Nat := [0, 1, 0, 0, 15, 31, 63, 127]
theorem impl_CountWith.tab3 : rtab .any (opsOf Try.f33 3) = impl_CountWith.T3 := by kernel_rfl
theorem impl_CountWith.bits3 : waitsOk impl_CountWith.T3.2 impl_CountWith.B3 = true := by kernel_rfl
set_option maxHeartbeats 8000000 in
set_option maxRecDepth 100000 in
theorem impl_CountWith.calls (k : Nat) (a0_0 : Int) (a0_1 : Int) (a0_2 : Int) (a1 : Int) (r : Int) (w : World) (h : impl_CountWith.f k a0_0 a0_1 a0_2 a1 = some r) :
    Calls Try.prog 33 #[.agg #[.int .i64 a0_0, .int .i64 a0_1, .int .i64 a0_2], .int .i64 a1] w fun e w' => e = .returned (.int .i64 r) ∧ Below w.heap.size w w' := by
  have hu42 := Try.underlying42
  have HB := Aside0.mk (Below.refl w.heap.size w)
  have H : ((impl_IsPassage.f a0_0 a0_1 a0_2 a1).bind fun t102 => (if t102 = true then ((impl_CountTrees.f k a0_0 a0_1 a0_2).bind fun t103 => ((impl_with.f a0_0 a0_1 a0_2 a1 false).bind fun bt104 => ((impl_CountTrees.f k bt104.1 bt104.2.1 bt104.2.2).bind fun t107 => (some (wrap64 (t103 - t107)))))) else (some 0))) = some r := h
  clear h
  obtain ⟨t102, A30, H⟩ := Option.bind_eq_some_iff.mp H
  (try dsimp only at H); have A3 := Aside0.mk A30; clear A30
  by_cases c4 : t102 = true
  · subst c4
    rw [if_pos rfl] at H
    obtain ⟨t103, A50, H⟩ := Option.bind_eq_some_iff.mp H
    (try dsimp only at H); have A5 := Aside0.mk A50; clear A50
    obtain ⟨⟨t104, t105, t106⟩, A60, H⟩ := Option.bind_eq_some_iff.mp H
    (try dsimp only at H); have A6 := Aside0.mk A60; clear A60
    obtain ⟨t107, A70, H⟩ := Option.bind_eq_some_iff.mp H
    (try dsimp only at H); have A7 := Aside0.mk A70; clear A70
    obtain rfl := Option.some.inj H
    go_enter Try.func33, Try.ntmps33
    try go_wp2_with (first | ((with_reducible refine gate_dst (N := 2) rfl ?_); refine box_event ?hg (N := 2) ?hd (cs := #[.int .i64 a0_0, .int .i64 a0_1, .int .i64 a0_2]) (t := 42) ?hr ?_; (case hd => rfl); (case hg => rfl); (case hr => (go_simp; done)); intro gb101 hg w8 hbox hb; have n0_ := Aside0.mk (below_step HB.out hb); have n1_ := Aside0.mk (hbox); have n2_ := Aside0.mk ((by rw [hg]; exact (below_size HB.out) : w.heap.size ≤ gb101)); have n3_ := Aside0.mk ((by rw [hg]; exact (below_size HB.out) : w.heap.size ≤ gb101)); clear HB; have HB := n0_; have BK101 := n1_; have GW101 := n2_; have GE101 := n3_; clear n0_ n1_ n2_ n3_; clear hb hbox hg; obtain ⟨hcz9_0, hcz9_1, hcz9_2⟩ := kk3_ BK101.1; have hfz9_0 := blk_frozen BK101.out 0; have hfz9_1 := blk_frozen BK101.out 1; have hfz9_2 := blk_frozen BK101.out 2) | ((with_reducible refine gate_callee (f := 76) rfl ?_); refine goesL_ (some 7) rfl rfl Try.func76 (by kernel_rfl) rfl #[.agg #[.int .i64 a0_0, .int .i64 a0_1, .int .i64 a0_2], .int .i64 a1] rfl (by (try simp only [List.map_toArray, List.map_cons, List.map_nil]); rfl) ?_; (with_reducible refine (impl_IsPassage.calls a0_0 a0_1 a0_2 a1 true _ A3.out).mono ?_); rintro e w10 ⟨rfl, hb⟩; refine ⟨_, rfl, ?_⟩; have n0_ := Aside0.mk (blk_below (g := gb101) (o := .cells #[.int .i64 a0_0, .int .i64 a0_1, .int .i64 a0_2] 42 (0, 0)) BK101.out hb); have n1_ := Aside0.mk (below_step HB.out hb); clear BK101; clear HB; have BK101 := n0_; have HB := n1_; clear n0_ n1_; (try clear hb); (try clear hb2); (try clear hk); (try clear hi)))
    have n0_ := Aside0.mk (blk_drew BK101.out); have n1_ := Aside0.mk (below_drew1 HB.out); clear BK101; clear HB; have BK101 := n0_; have HB := n1_; clear n0_ n1_
    refine start_ (n := 8) (S := fun w' => w'.cell? ⟨gb101, 0, none⟩ = some (.int .i64 a0_0) ∧ w'.cell? ⟨gb101, 1, none⟩ = some (.int .i64 a0_1) ∧ w'.cell? ⟨gb101, 2, none⟩ = some (.int .i64 a0_2)) (ds := []) #[false, false, false, false, false, false, false, false] (by kernel_rfl) rfl rfl ⟨(blk_cell BK101.out 0).trans rfl, (blk_cell BK101.out 1).trans rfl, (blk_cell BK101.out 2).trans rfl⟩ (fun hHeld => ?_); refine with_tabW impl_CountWith.tab3 impl_CountWith.bits3 (fun HT_ HW_ => ?_)
    generalize w10.drew = w11 at BK101 HB hHeld ⊢
    refine pu_ (v := ?_) (a' := ?_) 3 (some 12) rfl rfl HT_ (by kernel_rfl) (.inl ⟨by rfl, ?_⟩) ?_ ?_; rotate_left 2; (intro w'; go_simp; with_reducible rfl); (simp only [P6_]; rfl)
    refine ta_ (v := ?_) (a' := ?_) 0 (some 9) rfl rfl HT_ HW_ (by kernel_rfl) (.inl ⟨by rfl, ?_⟩) hHeld ?_ ?_; rotate_left 2; (rintro w' ⟨s0, s1, s2⟩; go_simp; with_reducible rfl); (simp only [P6_]; rfl)
    refine ta_ (v := ?_) (a' := ?_) 2 (some 11) rfl rfl HT_ HW_ (by kernel_rfl) (.inl ⟨by rfl, ?_⟩) hHeld ?_ ?_; rotate_left 2; (rintro w' ⟨s0, s1, s2⟩; go_simp; with_reducible rfl); (simp only [P6_]; rfl)
    refine on_ 1 (some 10) rfl rfl HT_ (by kernel_rfl) (by decide) (fun K hK => ?_)
    refine goes_ Try.func35 (by kernel_rfl) rfl #[.agg #[.int .i64 a0_0, .int .i64 a0_1, .int .i64 a0_2]] (by rfl) rfl rfl (by (try simp only [List.map_toArray, List.map_cons, List.map_nil]); rfl) ?_
    with_reducible refine (impl_CountTrees.calls k a0_0 a0_1 a0_2 t103 _ A5.out).mono ?_
    rintro e w12 ⟨rfl, hb⟩
    refine ⟨_, rfl, ?_⟩
    have n0_ := Aside0.mk (blk_below (g := gb101) (o := .cells #[.int .i64 a0_0, .int .i64 a0_1, .int .i64 a0_2] 42 (0, 0)) BK101.out hb)
    have n1_ := Aside0.mk (below_step HB.out hb)
    clear BK101; clear HB; have BK101 := n0_; have HB := n1_; clear n0_ n1_; (try clear hb); (try clear hb2); (try clear hk); (try clear hi)
    refine hK.out _ _ ⟨(blk_cell BK101.out 0).trans rfl, (blk_cell BK101.out 1).trans rfl, (blk_cell BK101.out 2).trans rfl⟩ (fun hHeld => ?_)
    clear hK K
    refine norm_ (a' := ?_) ?_ ?_; rotate_left; (show Act.put _ (some 10) _ = _; simp only [P6_]; rfl)
    refine on_ 4 (some 13) rfl rfl HT_ (by kernel_rfl) (by decide) (fun K hK => ?_)
    refine goes_ Try.func77 (by kernel_rfl) rfl #[.agg #[.int .i64 a0_0, .int .i64 a0_1, .int .i64 a0_2], .int .i64 a1, .bool false] (by rfl) rfl rfl (by (try simp only [List.map_toArray, List.map_cons, List.map_nil]); rfl) ?_
    with_reducible refine (impl_with.calls a0_0 a0_1 a0_2 a1 false t104 t105 t106 _ A6.out).mono ?_
    rintro e w13 ⟨rfl, hb⟩
    refine ⟨_, rfl, ?_⟩
    have n0_ := Aside0.mk (blk_below (g := gb101) (o := .cells #[.int .i64 a0_0, .int .i64 a0_1, .int .i64 a0_2] 42 (0, 0)) BK101.out hb)
    have n1_ := Aside0.mk (below_step HB.out hb)
    clear BK101; clear HB; have BK101 := n0_; have HB := n1_; clear n0_ n1_; (try clear hb); (try clear hb2); (try clear hk); (try clear hi)
    refine hK.out _ _ ⟨(blk_cell BK101.out 0).trans rfl, (blk_cell BK101.out 1).trans rfl, (blk_cell BK101.out 2).trans rfl⟩ (fun hHeld => ?_)
    clear hK K
    refine norm_ (a' := ?_) ?_ ?_; rotate_left; (show Act.put _ (some 13) _ = _; simp only [P6_]; rfl)
    refine on_ 5 (some 14) rfl rfl HT_ (by kernel_rfl) (by decide) (fun K hK => ?_)
    refine goes_ Try.func35 (by kernel_rfl) rfl #[.agg #[.int .i64 t104, .int .i64 t105, .int .i64 t106]] (by rfl) rfl rfl (by (try simp only [List.map_toArray, List.map_cons, List.map_nil]); rfl) ?_
    with_reducible refine (impl_CountTrees.calls k t104 t105 t106 t107 _ A7.out).mono ?_
    rintro e w14 ⟨rfl, hb⟩
    refine ⟨_, rfl, ?_⟩
    have n0_ := Aside0.mk (blk_below (g := gb101) (o := .cells #[.int .i64 a0_0, .int .i64 a0_1, .int .i64 a0_2] 42 (0, 0)) BK101.out hb)
    have n1_ := Aside0.mk (below_step HB.out hb)
    clear BK101; clear HB; have BK101 := n0_; have HB := n1_; clear n0_ n1_; (try clear hb); (try clear hb2); (try clear hk); (try clear hi)
    refine hK.out _ _ ⟨(blk_cell BK101.out 0).trans rfl, (blk_cell BK101.out 1).trans rfl, (blk_cell BK101.out 2).trans rfl⟩ (fun hHeld => ?_)
    clear hK K
    refine norm_ (a' := ?_) ?_ ?_; rotate_left; (show Act.put _ (some 14) _ = _; simp only [P6_]; rfl)
    refine pu_ (v := ?_) (a' := ?_) 6 (some 15) rfl rfl HT_ (by kernel_rfl) (.inl ⟨by rfl, ?_⟩) ?_ ?_; rotate_left 2; (intro w'; go_simp; with_reducible rfl); (simp only [P6_]; rfl)
    refine pu_ (v := ?_) (a' := ?_) 7 (some 4) rfl rfl HT_ (by kernel_rfl) (.inl ⟨by rfl, ?_⟩) ?_ ?_; rotate_left 2; (intro w'; go_simp; with_reducible rfl); (simp only [P6_]; rfl)
    refine done_ (done_of HT_.out (by kernel_rfl)) ?_
    try go_wp2
    go_ret
    exact ⟨by rfl, by repeat ((with_reducible exact HB.out))⟩
  · replace c4 := Bool.eq_false_iff.mpr c4
    subst c4
    have H1 : (some 0) = some r := by rw [if_neg (show ¬ (false = true) by decide)] at H; exact H
    clear H
    have H := H1
    clear H1
    obtain rfl := Option.some.inj H
    go_enter Try.func33, Try.ntmps33
    go_wp2_with (first | ((with_reducible refine gate_dst (N := 2) rfl ?_); refine box_event ?hg (N := 2) ?hd (cs := #[.int .i64 a0_0, .int .i64 a0_1, .int .i64 a0_2]) (t := 42) ?hr ?_; (case hd => rfl); (case hg => rfl); (case hr => (go_simp; done)); intro gb101 hg w15 hbox hb; have n0_ := Aside0.mk (below_step HB.out hb); have n1_ := Aside0.mk (hbox); have n2_ := Aside0.mk ((by rw [hg]; exact (below_size HB.out) : w.heap.size ≤ gb101)); have n3_ := Aside0.mk ((by rw [hg]; exact (below_size HB.out) : w.heap.size ≤ gb101)); clear HB; have HB := n0_; have BK101 := n1_; have GW101 := n2_; have GE101 := n3_; clear n0_ n1_ n2_ n3_; clear hb hbox hg; obtain ⟨hcz16_0, hcz16_1, hcz16_2⟩ := kk3_ BK101.1; have hfz16_0 := blk_frozen BK101.out 0; have hfz16_1 := blk_frozen BK101.out 1; have hfz16_2 := blk_frozen BK101.out 2) | ((with_reducible refine gate_callee (f := 76) rfl ?_); refine goesL_ (some 7) rfl rfl Try.func76 (by kernel_rfl) rfl #[.agg #[.int .i64 a0_0, .int .i64 a0_1, .int .i64 a0_2], .int .i64 a1] rfl (by (try simp only [List.map_toArray, List.map_cons, List.map_nil]); rfl) ?_; (with_reducible refine (impl_IsPassage.calls a0_0 a0_1 a0_2 a1 false _ A3.out).mono ?_); rintro e w17 ⟨rfl, hb⟩; refine ⟨_, rfl, ?_⟩; have n0_ := Aside0.mk (blk_below (g := gb101) (o := .cells #[.int .i64 a0_0, .int .i64 a0_1, .int .i64 a0_2] 42 (0, 0)) BK101.out hb); have n1_ := Aside0.mk (below_step HB.out hb); clear BK101; clear HB; have BK101 := n0_; have HB := n1_; clear n0_ n1_; (try clear hb); (try clear hb2); (try clear hk); (try clear hi)))
    go_ret
    exact ⟨by rfl, by repeat ((with_reducible exact HB.out))⟩

end Go.Proofs.Ytoohcdfokejkdaa.P
namespace Go.Proofs.Ytoohcdfokejkdaa.P
open Go.RowKit Go.Proofs.YtoohcdfokejkdaaW.PrintWords Go.Proofs.YtoohcdfokejkdaaW.PrintLast Go.Proofs.YtoohcdfokejkdaaW.PrintMore
attribute [local go_sem] max2_int min2_int max_two min_two max_three min_three max_four min_four   -- for this text's walks alone
set_option linter.unusedVariables false
set_option linter.unusedSimpArgs false

/-! ### laws_FnCounts: function 6 -/
mutual
def laws_FnCounts.l0 : Nat → List Int → Int → Int → Int → Int → Int → Int → Option (Bool)
  | 0, _, _, _, _, _, _, _ => none
  | k + 1, x0, x4, x5, x6, x106000, x106001, x106002 => if x6 < x4 then ((impl_CountWith.f k x106000 x106001 x106002 x6).bind fun t107 => (laws_FnCounts.l0 k x0 x4 (wrap64 (x5 + t107)) (wrap64 (x6 + 1)) x106000 x106001 x106002)) else ((impl_CountFixed.f k x106000 x106001 0 0).bind fun t108 => (if t108 < 1 then (laws_FnCounts.j1 k x0 x4 true x106000 x106001 x106002) else ((impl_CountTrees.f k x106000 x106001 x106002).bind fun t109 => ((spec_CountCells.f x106000 x106001).bind fun t110 => (laws_FnCounts.j1 k x0 x4 (x5 != (wrap64 (t109 * (wrap64 (t110 - 1))))) x106000 x106001 x106002)))))
def laws_FnCounts.j1 : Nat → List Int → Int → Bool → Int → Int → Int → Option (Bool)
  | 0, _, _, _, _, _, _ => none
  | k + 1, x0, x4, x39, x106000, x106001, x106002 => if x39 = true then (some false) else (if x4 = 0 then (some true) else ((laws_at.f x0 0).bind fun t111 => (if 0 ≤ (Int.tmod t111 x4) then ((impl_CountFixed.f k x106000 x106001 (shl .i64 1 (Int.tmod t111 x4)) 0).bind fun t112 => ((impl_CountFixed.f k x106000 x106001 0 (shl .i64 1 (Int.tmod t111 x4))).bind fun t113 => ((impl_CountFixed.f k x106000 x106001 0 0).bind fun t114 => (some ((wrap64 (t112 + t113)) == t114))))) else (none))))
end
def laws_FnCounts.f (k : Nat) (l0 : List Int) : Option (Bool) := (laws_big.f l0).bind fun t101 => (if t101 = true then (some true) else ((spec_DrawOpenMaze.f k l0).bind fun bt102 => ((spec_CountGaps.f bt102.1 bt102.2.1).bind fun t106 => (laws_FnCounts.l0 k l0 t106 0 0 bt102.1 bt102.2.1 bt102.2.2))))
def laws_FnCounts.T10 : Bool × List (List Nat × List Nat) := (true, [([], []), ([0], [0]), ([1], [1]), ([2], [2]), ([3, 2], [3]), ([4], [4]), ([4], [4]), ([6, 4, 4], [4, 6]), ([4], [4]), ([8, 4], [4, 8]), ([9, 7, 4], [4, 9]), ([10, 4], [4, 10]), ([7, 11, 4], [4, 7, 11]), ([5, 12, 4], [4, 5, 12]), ([4, 13], [4, 13])])
def laws_FnCounts.B10 : List Nat := [0, 1, 3, 7, 15, 31, 31, 95, 31, 287, 991, 2015, 4063, 8191, 16383]
theorem laws_FnCounts.tab10 : rtab .any (opsOf Try.f6 10) = laws_FnCounts.T10 := by kernel_rfl
theorem laws_FnCounts.bits10 : waitsOk laws_FnCounts.T10.2 laws_FnCounts.B10 = true := by kernel_rfl
def laws_FnCounts.T15 : Bool × List (List Nat × List Nat) := (true, [([], []), ([0], [0]), ([], []), ([2], [2]), ([1, 3], [1, 3]), ([], []), ([5], [5]), ([], []), ([7], [7]), ([6, 8, 4], [6, 8]), ([4, 9], [4, 9]), ([], []), ([11], [11]), ([12, 9], [12]), ([10, 13], [10, 13]), ([14, 13, 0, 1, 2, 3, 4, 5, 6, 7, 8, 9, 10, 11, 12, 13, 14], [14])])
def laws_FnCounts.B15 : List Nat := [0, 1, 0, 4, 15, 0, 32, 0, 128, 511, 1023, 0, 2048, 7167, 16383, 32767]
theorem laws_FnCounts.tab15 : rtab .any (opsOf Try.f6 15) = laws_FnCounts.T15 := by kernel_rfl
theorem laws_FnCounts.bits15 : waitsOk laws_FnCounts.T15.2 laws_FnCounts.B15 = true := by kernel_rfl
set_option maxHeartbeats 8000000 in
set_option maxRecDepth 100000 in
theorem laws_FnCounts.calls (k : Nat) (A0 : Option Addr) (c0 : Nat) (l0 : List Int) (r : Bool) (w : World) (hr0 : Kd.C (Kd.int .u8) w A0 l0.length l0) (hc0 : l0.length ≤ c0) (h : laws_FnCounts.f k l0 = some r) :
    Calls Try.prog 6 #[.slice A0 l0.length c0] w fun e w' => e = .returned (.bool r) ∧ Below w.heap.size w w' := by
  have hu42 := Try.underlying42
  have hu40 := Try.underlying40
  have HR0 := Aside0.mk hr0
  have HC0 := Aside0.mk hc0
  clear hr0 hc0
  have HB := Aside0.mk (Below.refl w.heap.size w)
  have H : ((laws_big.f l0).bind fun t101 => (if t101 = true then (some true) else ((spec_DrawOpenMaze.f k l0).bind fun bt102 => ((spec_CountGaps.f bt102.1 bt102.2.1).bind fun t106 => (laws_FnCounts.l0 k l0 t106 0 0 bt102.1 bt102.2.1 bt102.2.2))))) = some r := h
  clear h
  obtain ⟨t101, A20, H⟩ := Option.bind_eq_some_iff.mp H
  (try dsimp only at H); have A2 := Aside0.mk A20; clear A20
  by_cases c3 : t101 = true
  · subst c3
    rw [if_pos rfl] at H
    obtain rfl := Option.some.inj H
    go_enter Try.func6, Try.ntmps6
    go_wp2_with (first | ((with_reducible refine gate_callee (f := 16) rfl ?_); refine goesL_ (some 9) rfl rfl Try.func16 (by kernel_rfl) rfl #[.slice A0 l0.length c0] rfl (by (try simp only [M3_]); first | done | rfl | (simp only [List.length_drop, List.length_take]; rfl)) ?_; (with_reducible refine (laws_big.calls _ _ l0 true _ ?side1 ?side2 A2.out).mono ?_); (case side1 => repeat (first | exact HR0.out | (with_reducible refine Kd.C_alloc ?_ _) | (with_reducible refine Kd.C_drewN ?_ _) | (with_reducible refine Kd.C_drew ?_))); (case side2 => exact HC0.out); rintro e w' ⟨rfl, ⟨nd, rfl⟩⟩; (try clear A2); refine ⟨_, rfl, ?_⟩))
    go_ret
    exact ⟨by first | rfl | (simp [errW_none, errW_some] <;> rfl) | (simp [*, errW_none, errW_some] <;> rfl), by repeat (first | (with_reducible first | exact HB.out | apply below_alloc | apply pw_below_drewN | apply below_drew1) | exact HB.out)⟩
  · replace c3 := Bool.eq_false_iff.mpr c3
    subst c3
    have H1 : ((spec_DrawOpenMaze.f k l0).bind fun bt102 => ((spec_CountGaps.f bt102.1 bt102.2.1).bind fun t106 => (laws_FnCounts.l0 k l0 t106 0 0 bt102.1 bt102.2.1 bt102.2.2))) = some r := by rw [if_neg (show ¬ (false = true) by decide)] at H; exact H
    clear H
    have H := H1
    clear H1
    obtain ⟨⟨t102, t103, t104⟩, A40, H⟩ := Option.bind_eq_some_iff.mp H
    (try dsimp only at H); have A4 := Aside0.mk A40; clear A40
    obtain ⟨t106, A50, H⟩ := Option.bind_eq_some_iff.mp H
    (try dsimp only at H); have A5 := Aside0.mk A50; clear A50
    have H' := Aside0.mk H
    clear H
    go_enter Try.func6, Try.ntmps6
    go_wp2_with (first | ((with_reducible refine gate_callee (f := 16) rfl ?_); refine goesL_ (some 9) rfl rfl Try.func16 (by kernel_rfl) rfl #[.slice A0 l0.length c0] rfl (by (try simp only [M3_]); first | done | rfl | (simp only [List.length_drop, List.length_take]; rfl)) ?_; (with_reducible refine (laws_big.calls _ _ l0 false _ ?side1 ?side2 A2.out).mono ?_); (case side1 => repeat (first | exact HR0.out | (with_reducible refine Kd.C_alloc ?_ _) | (with_reducible refine Kd.C_drewN ?_ _) | (with_reducible refine Kd.C_drew ?_))); (case side2 => exact HC0.out); rintro e w' ⟨rfl, ⟨nd, rfl⟩⟩; (try clear A2); refine ⟨_, rfl, ?_⟩) | ((with_reducible refine gate_callee (f := 31) rfl ?_); refine goesL_ (some 11) rfl rfl Try.func31 (by kernel_rfl) rfl #[.slice A0 l0.length c0] rfl (by (try simp only [M3_]); first | done | rfl | (simp only [List.length_drop, List.length_take]; rfl)) ?_; (with_reducible refine (spec_DrawOpenMaze.calls k _ _ l0 t102 t103 t104 _ ?side1 ?side2 A4.out).mono ?_); (case side1 => repeat (first | exact HR0.out | (with_reducible refine Kd.C_alloc ?_ _) | (with_reducible refine Kd.C_drewN ?_ _) | (with_reducible refine Kd.C_drew ?_))); (case side2 => exact HC0.out); rintro e w6 ⟨rfl, hb⟩; (try clear A4); refine ⟨_, rfl, ?_⟩; have n0_ := Aside0.mk (below_step (by repeat first | exact HB.1 | apply bA_ | apply bB_ | apply bC_) hb); clear HB; have HB := n0_; clear n0_; (try clear hb); (try clear hb2); (try clear hk); (try clear hi)) | ((with_reducible refine gate_dst (N := 3) rfl ?_); refine box_event ?hg (N := 3) ?hd (cs := #[.int .i64 0, .int .i64 0, .int .i64 0]) (t := 42) ?hr ?_; (case hd => rfl); (case hg => rfl); (case hr => first | (go_simp; done) | (go_simp; rfl)); intro gb105 hg w7 hbox hb; have n0_ := Aside0.mk (below_step (by repeat first | exact HB.1 | apply bA_ | apply bB_ | apply bC_) hb); have n1_ := Aside0.mk (hbox); have n2_ := Aside0.mk ((by rw [hg]; exact (below_size (by repeat first | exact HB.1 | apply bA_ | apply bB_ | apply bC_)) : w.heap.size ≤ gb105)); have n3_ := n2_; clear HB; have HB := n0_; have BK105 := n1_; have GW105 := n2_; have GE105 := n3_; clear n0_ n1_ n2_ n3_; clear hb hbox hg; obtain ⟨hcz8_0, hcz8_1, hcz8_2⟩ := kk3_ BK105.1; have hfz8_0 := blk_frozen BK105.out 0; have hfz8_1 := blk_frozen BK105.out 1; have hfz8_2 := blk_frozen BK105.out 2) | ((with_reducible refine gate_callee (f := 32) rfl ?_); refine goesL_ (some 14) rfl rfl Try.func32 (by kernel_rfl) rfl #[.agg #[.int .i64 t102, .int .i64 t103]] rfl (by (try simp only [M3_]); first | done | rfl | (simp only [List.length_drop, List.length_take]; rfl)) ?_; (with_reducible refine (spec_CountGaps.calls t102 t103 t106 _ A5.out).mono ?_); rintro e w9 ⟨rfl, hb⟩; (try clear A5); refine ⟨_, rfl, ?_⟩; have n0_ := Aside0.mk (blk_below (g := gb105) (o := .cells #[.int .i64 t102, .int .i64 t103, .int .i64 t104] 42 (0, 0)) (by (with_reducible repeat (first | refine blk_drewN ?_ _ | refine blk_drew ?_ | refine blk_alloc ?_ _)); refine blk_put (cs := #[.int .i64 t102, .int .i64 t103, .int .i64 0]) ?_ 2 _ rfl; (with_reducible repeat (first | refine blk_drewN ?_ _ | refine blk_drew ?_ | refine blk_alloc ?_ _)); refine blk_put (cs := #[.int .i64 t102, .int .i64 0, .int .i64 0]) ?_ 1 _ rfl; (with_reducible repeat (first | refine blk_drewN ?_ _ | refine blk_drew ?_ | refine blk_alloc ?_ _)); refine blk_put (cs := #[.int .i64 0, .int .i64 0, .int .i64 0]) ?_ 0 _ rfl; (with_reducible repeat (first | refine blk_drewN ?_ _ | refine blk_drew ?_ | refine blk_alloc ?_ _)); exact BK105.out) hb); have n1_ := Aside0.mk (below_step (by repeat first | exact HB.1 | apply bA_ | apply bB_ | apply bC_ | refine below_set ?_ GE105.out) hb); clear BK105; clear HB; have BK105 := n0_; have HB := n1_; clear n0_ n1_; (try clear hb); (try clear hb2); (try clear hk); (try clear hi)))
    go_loopg [5, 6] k (fun kq v5 v6 w' => ∃ (x5_1 : Int) (x6_1 : Int), v5 = .int .i64 x5_1 ∧ v6 = .int .i64 x6_1 ∧ Aside0 (laws_FnCounts.l0 kq l0 t106 x5_1 x6_1 t102 t103 t104 = some r) ∧ Aside0 (kq ≤ k) ∧ Aside0 (w'.heap[gb105]? = some (.cells #[.int .i64 t102, .int .i64 t103, .int .i64 t104] 42 (0, 0))) ∧ Aside0 (Below w.heap.size w w'))
    case atStart => exact ⟨(0), (0), (by first | rfl | (simp; done) | (simp [*]; done)), (by first | rfl | (simp; done) | (simp [*]; done)), H', ⟨Nat.le_refl _⟩, ⟨by (with_reducible repeat (first | refine blk_drewN ?_ _ | refine blk_drew ?_ | refine blk_alloc ?_ _)); exact BK105.out⟩, ⟨by repeat (first | (with_reducible first | exact HB.out | apply below_alloc | apply pw_below_drewN | apply below_drew1 | refine below_set ?_ GE105.out) | exact HB.out)⟩⟩
    case round =>
      clear H'; try clear c1; try clear p2; try clear c3; try clear c6; try clear hcz8_0; try clear hcz8_1; try clear hcz8_2; try clear hfz8_0; try clear hfz8_1; try clear hfz8_2
      obtain ⟨x5_1, x6_1, rfl, rfl, HA, HK1, BK105, HB⟩ := hrel
      cases gk with
      | zero => exact absurd HA.out (by simp [laws_FnCounts.l0])
      | succ k1 =>
        have H := HA.out
        clear HA
        simp only [laws_FnCounts.l0] at H
        by_cases c10 : x6_1 < t106
        · rw [if_pos c10] at H
          have c10b0 : decide (x6_1 < t106) = true := decide_eq_true c10
          clear c10
          obtain ⟨t107, A110, H⟩ := Option.bind_eq_some_iff.mp H
          (try dsimp only at H); have A11 := Aside0.mk A110; clear A110
          have H' := Aside0.mk H
          clear H
          obtain ⟨hcz12_0, hcz12_1, hcz12_2⟩ := kk3_ BK105.1
          have hfz12_0 := blk_frozen BK105.out 0
          have hfz12_1 := blk_frozen BK105.out 1
          have hfz12_2 := blk_frozen BK105.out 2
          go_wp2_with (first | ((with_reducible refine gate_callee (f := 33) rfl ?_); refine goesL_ (some 23) rfl rfl Try.func33 (by kernel_rfl) rfl #[.agg #[.int .i64 t102, .int .i64 t103, .int .i64 t104], .int .i64 x6_1] rfl (by (try simp only [M3_]); first | done | rfl | (simp only [List.length_drop, List.length_take]; rfl)) ?_; (with_reducible refine (impl_CountWith.calls k1 t102 t103 t104 x6_1 t107 _ A11.out).mono ?_); rintro e w13 ⟨rfl, hb⟩; (try clear A11); refine ⟨_, rfl, ?_⟩; have n0_ := Aside0.mk (blk_below (g := gb105) (o := .cells #[.int .i64 t102, .int .i64 t103, .int .i64 t104] 42 (0, 0)) (by (with_reducible repeat first | refine cA_ ?_ _ | refine cB_ ?_ | refine cC_ ?_ _); exact BK105.1) hb); have n1_ := Aside0.mk (below_step (by repeat first | exact HB.1 | apply bA_ | apply bB_ | apply bC_ | refine below_set ?_ GE105.out) hb); clear BK105; clear HB; have BK105 := n0_; have HB := n1_; clear n0_ n1_; (try clear hb); (try clear hb2); (try clear hk); (try clear hi)))
          go_roundg k1
          case measure => have := HK1.out; omega
          case rel => exact ⟨(wrap64 (x5_1 + t107)), (wrap64 (x6_1 + 1)), (by first | rfl | (simp; done) | (simp [*]; done)), (by first | rfl | (simp; done) | (simp [*]; done)), H', ⟨by have := HK1.out; omega⟩, ⟨by (with_reducible repeat (first | refine blk_drewN ?_ _ | refine blk_drew ?_ | refine blk_alloc ?_ _)); exact BK105.out⟩, ⟨by repeat (first | (with_reducible first | exact HB.out | apply below_alloc | apply pw_below_drewN | apply below_drew1 | refine below_set ?_ GE105.out) | exact HB.out)⟩⟩
        · rw [if_neg c10] at H
          have c10b0 : decide (x6_1 < t106) = false := decide_eq_false c10
          clear c10
          have HC14 := Aside0.mk H
          clear H
          go_upto_region 10 with (fail)
          go_cut [39] (fun v39 wc => ∃ (kq : Nat) (x39_13 : Bool), v39 = .bool x39_13 ∧ Aside0 (laws_FnCounts.j1 kq l0 t106 x39_13 t102 t103 t104 = some r) ∧ Aside0 (kq ≤ k1) ∧ Aside0 (wc.heap[gb105]? = some (.cells #[.int .i64 t102, .int .i64 t103, .int .i64 t104] 42 (0, 0))) ∧ Aside0 (Below w.heap.size w wc))
          case first =>
            have H := HC14.out
            clear HC14
            obtain ⟨t108, A150, H⟩ := Option.bind_eq_some_iff.mp H
            (try dsimp only at H); have A15 := Aside0.mk A150; clear A150
            by_cases c16 : t108 < 1
            · rw [if_pos c16] at H
              have c16b0 : decide (t108 < 1) = true := decide_eq_true c16
              clear c16
              (first | rw [c16b0] | (simp only [i64_w, i32_w]; rw [c16b0]) | skip)
              have H' := Aside0.mk H
              clear H
              try go_wp2
              have n0_ := Aside0.mk (blk_drew BK105.out); have n1_ := Aside0.mk (below_drew1 HB.out); clear BK105; clear HB; have BK105 := n0_; have HB := n1_; clear n0_ n1_
              refine start_ (n := 15) (S := fun w' => w'.cell? ⟨gb105, 0, none⟩ = some (.int .i64 t102) ∧ w'.cell? ⟨gb105, 1, none⟩ = some (.int .i64 t103) ∧ w'.cell? ⟨gb105, 2, none⟩ = some (.int .i64 t104)) (ds := []) #[false, false, false, false, false, false, false, false, false, false, false, false, false, false, false] (by kernel_rfl) rfl rfl ⟨(blk_cell BK105.out 0).trans rfl, (blk_cell BK105.out 1).trans rfl, (blk_cell BK105.out 2).trans rfl⟩ (fun hHeld => ?_); refine with_tabW laws_FnCounts.tab10 laws_FnCounts.bits10 (fun HT_ HW_ => ?_)
              generalize wr.drew = w17 at BK105 HB hHeld ⊢
              refine pu_ (v := ?_) (a' := ?_) 0 (some 25) rfl rfl HT_ (by kernel_rfl) (.inl ⟨by rfl, ?_⟩) ?_ ?_; rotate_left 2; (intro w'; go_simp; with_reducible rfl); (simp only [P6_]; rfl)
              refine ta_ (v := ?_) (a' := ?_) 1 (some 26) rfl rfl HT_ HW_ (by kernel_rfl) (.inl ⟨by rfl, ?_⟩) hHeld ?_ ?_; rotate_left 2; (rintro w' ⟨s0, s1, s2⟩; go_simp; with_reducible rfl); (simp only [P6_]; rfl)
              refine on_ 2 (some 27) rfl rfl HT_ (by kernel_rfl) (by decide) (fun K hK => ?_)
              refine goes_ Try.func34 (by kernel_rfl) rfl #[.agg #[.int .i64 t102, .int .i64 t103], .int .i64 0, .int .i64 0] (by rfl) rfl rfl (by (try simp only [M3_]); first | done | rfl | (simp only [List.length_drop, List.length_take]; rfl)) ?_
              with_reducible refine (impl_CountFixed.calls k1 t102 t103 0 0 t108 _ A15.out).mono ?_
              rintro e w18 ⟨rfl, hb⟩
              refine ⟨_, rfl, ?_⟩
              have n0_ := Aside0.mk (blk_below (g := gb105) (o := .cells #[.int .i64 t102, .int .i64 t103, .int .i64 t104] 42 (0, 0)) (by (with_reducible repeat first | refine cA_ ?_ _ | refine cB_ ?_ | refine cC_ ?_ _); exact BK105.1) hb)
              have n1_ := Aside0.mk (below_step (by repeat first | exact HB.1 | apply bA_ | apply bB_ | apply bC_ | refine below_set ?_ GE105.out) hb)
              clear BK105; clear HB; have BK105 := n0_; have HB := n1_; clear n0_ n1_; (try clear hb); (try clear hb2); (try clear hk); (try clear hi)
              refine hK.out _ _ ⟨(blk_cell BK105.out 0).trans rfl, (blk_cell BK105.out 1).trans rfl, (blk_cell BK105.out 2).trans rfl⟩ (fun hHeld => ?_)
              clear hK K
              refine norm_ (a' := ?_) ?_ ?_; rotate_left; (show Act.put _ (some 27) _ = _; simp only [P6_]; rfl)
              refine pu_ (v := ?_) (a' := ?_) 3 (some 28) rfl rfl HT_ (by kernel_rfl) (.inl ⟨by rfl, ?_⟩) ?_ ?_; rotate_left 2; (intro w'; go_simp; with_reducible rfl); (simp only [P6_]; rfl)
              refine pu_ (v := ?_) (a' := ?_) 4 (some 29) rfl rfl HT_ (by kernel_rfl) (.inl ⟨by rfl, ?_⟩) ?_ ?_; rotate_left 2; (intro w'; go_simp; with_reducible rfl); (simp only [P6_]; rfl)
              refine pure_ (i := 5) (N := some 30) (v := undef) (a' := ?_) #[true, true, true, true, true, true, false, false, false, false, false, false, false, false, false] rfl rfl (any_of HT_.out (by kernel_rfl)) (fun _ _ _ h => h) (Or.inr ⟨by rfl, rfl⟩) ?_ ?_
              rotate_left
              · simp only [Act.put, List.setIfInBounds_toArray, List.set_cons_zero, List.set_cons_succ, i64_w, i32_w]
                rfl
              refine pure_ (i := 6) (N := some 31) (v := undef) (a' := ?_) #[true, true, true, true, true, true, true, false, false, false, false, false, false, false, false] rfl rfl (any_of HT_.out (by kernel_rfl)) (fun _ _ _ h => h) (Or.inr ⟨by rfl, rfl⟩) ?_ ?_
              rotate_left
              · simp only [Act.put, List.setIfInBounds_toArray, List.set_cons_zero, List.set_cons_succ, i64_w, i32_w]
                rfl
              refine pure_ (i := 7) (N := some 32) (v := undef) (a' := ?_) #[true, true, true, true, true, true, true, true, false, false, false, false, false, false, false] rfl rfl (any_of HT_.out (by kernel_rfl)) (fun _ _ _ h => h) (Or.inr ⟨by rfl, rfl⟩) ?_ ?_
              rotate_left
              · simp only [Act.put, List.setIfInBounds_toArray, List.set_cons_zero, List.set_cons_succ, i64_w, i32_w]
                rfl
              refine pure_ (i := 8) (N := some 33) (v := undef) (a' := ?_) #[true, true, true, true, true, true, true, true, true, false, false, false, false, false, false] rfl rfl (any_of HT_.out (by kernel_rfl)) (fun _ _ _ h => h) (Or.inr ⟨by rfl, rfl⟩) ?_ ?_
              rotate_left
              · simp only [Act.put, List.setIfInBounds_toArray, List.set_cons_zero, List.set_cons_succ, i64_w, i32_w]
                rfl
              refine pure_ (i := 9) (N := some 34) (v := undef) (a' := ?_) #[true, true, true, true, true, true, true, true, true, true, false, false, false, false, false] rfl rfl (any_of HT_.out (by kernel_rfl)) (fun _ _ _ h => h) (Or.inr ⟨by rfl, rfl⟩) ?_ ?_
              rotate_left
              · simp only [Act.put, List.setIfInBounds_toArray, List.set_cons_zero, List.set_cons_succ, i64_w, i32_w]
                rfl
              refine pure_ (i := 10) (N := some 35) (v := undef) (a' := ?_) #[true, true, true, true, true, true, true, true, true, true, true, false, false, false, false] rfl rfl (any_of HT_.out (by kernel_rfl)) (fun _ _ _ h => h) (Or.inr ⟨by rfl, rfl⟩) ?_ ?_
              rotate_left
              · simp only [Act.put, List.setIfInBounds_toArray, List.set_cons_zero, List.set_cons_succ, i64_w, i32_w]
                rfl
              refine pure_ (i := 11) (N := some 36) (v := undef) (a' := ?_) #[true, true, true, true, true, true, true, true, true, true, true, true, false, false, false] rfl rfl (any_of HT_.out (by kernel_rfl)) (fun _ _ _ h => h) (Or.inr ⟨by rfl, rfl⟩) ?_ ?_
              rotate_left
              · simp only [Act.put, List.setIfInBounds_toArray, List.set_cons_zero, List.set_cons_succ, i64_w, i32_w]
                rfl
              refine pure_ (i := 12) (N := some 37) (v := undef) (a' := ?_) #[true, true, true, true, true, true, true, true, true, true, true, true, true, false, false] rfl rfl (any_of HT_.out (by kernel_rfl)) (fun _ _ _ h => h) (Or.inr ⟨by rfl, rfl⟩) ?_ ?_
              rotate_left
              · simp only [Act.put, List.setIfInBounds_toArray, List.set_cons_zero, List.set_cons_succ, i64_w, i32_w]
                rfl
              refine pure_ (i := 13) (N := some 38) (v := undef) (a' := ?_) #[true, true, true, true, true, true, true, true, true, true, true, true, true, true, false] rfl rfl (any_of HT_.out (by kernel_rfl)) (fun _ _ _ h => h) (Or.inr ⟨by rfl, rfl⟩) ?_ ?_
              rotate_left
              · simp only [Act.put, List.setIfInBounds_toArray, List.set_cons_zero, List.set_cons_succ, i64_w, i32_w]
                rfl
              refine pu_ (v := ?_) (a' := ?_) 14 (some 39) rfl rfl HT_ (by kernel_rfl) (.inl ⟨by rfl, ?_⟩) ?_ ?_; rotate_left 2; (intro w'; go_simp; with_reducible rfl); (simp only [P6_]; rfl)
              refine done_ (done_of HT_.out (by kernel_rfl)) ?_
              try go_wp2
              go_meet
              case rel => exact ⟨_, (true), (by first | rfl | (simp; done) | (simp [*]; done)), H', ⟨by have := HK1.out; first | omega | exact Nat.le_refl _⟩, ⟨by (with_reducible repeat (first | refine blk_drewN ?_ _ | refine blk_drew ?_ | refine blk_alloc ?_ _)); exact BK105.out⟩, ⟨by repeat (first | (with_reducible first | exact HB.out | apply below_alloc | apply pw_below_drewN | apply below_drew1 | refine below_set ?_ GE105.out) | exact HB.out)⟩⟩
            · rw [if_neg c16] at H
              have c16b0 : decide (t108 < 1) = false := decide_eq_false c16
              clear c16
              (first | rw [c16b0] | (simp only [i64_w, i32_w]; rw [c16b0]) | skip)
              obtain ⟨t109, A190, H⟩ := Option.bind_eq_some_iff.mp H
              (try dsimp only at H); have A19 := Aside0.mk A190; clear A190
              obtain ⟨t110, A200, H⟩ := Option.bind_eq_some_iff.mp H
              (try dsimp only at H); have A20 := Aside0.mk A200; clear A200
              have H' := Aside0.mk H
              clear H
              try go_wp2
              have n0_ := Aside0.mk (blk_drew BK105.out); have n1_ := Aside0.mk (below_drew1 HB.out); clear BK105; clear HB; have BK105 := n0_; have HB := n1_; clear n0_ n1_
              refine start_ (n := 15) (S := fun w' => w'.cell? ⟨gb105, 0, none⟩ = some (.int .i64 t102) ∧ w'.cell? ⟨gb105, 1, none⟩ = some (.int .i64 t103) ∧ w'.cell? ⟨gb105, 2, none⟩ = some (.int .i64 t104)) (ds := []) #[false, false, false, false, false, false, false, false, false, false, false, false, false, false, false] (by kernel_rfl) rfl rfl ⟨(blk_cell BK105.out 0).trans rfl, (blk_cell BK105.out 1).trans rfl, (blk_cell BK105.out 2).trans rfl⟩ (fun hHeld => ?_); refine with_tabW laws_FnCounts.tab10 laws_FnCounts.bits10 (fun HT_ HW_ => ?_)
              generalize wr.drew = w21 at BK105 HB hHeld ⊢
              refine pu_ (v := ?_) (a' := ?_) 0 (some 25) rfl rfl HT_ (by kernel_rfl) (.inl ⟨by rfl, ?_⟩) ?_ ?_; rotate_left 2; (intro w'; go_simp; with_reducible rfl); (simp only [P6_]; rfl)
              refine ta_ (v := ?_) (a' := ?_) 1 (some 26) rfl rfl HT_ HW_ (by kernel_rfl) (.inl ⟨by rfl, ?_⟩) hHeld ?_ ?_; rotate_left 2; (rintro w' ⟨s0, s1, s2⟩; go_simp; with_reducible rfl); (simp only [P6_]; rfl)
              refine on_ 2 (some 27) rfl rfl HT_ (by kernel_rfl) (by decide) (fun K hK => ?_)
              refine goes_ Try.func34 (by kernel_rfl) rfl #[.agg #[.int .i64 t102, .int .i64 t103], .int .i64 0, .int .i64 0] (by rfl) rfl rfl (by (try simp only [M3_]); first | done | rfl | (simp only [List.length_drop, List.length_take]; rfl)) ?_
              with_reducible refine (impl_CountFixed.calls k1 t102 t103 0 0 t108 _ A15.out).mono ?_
              rintro e w22 ⟨rfl, hb⟩
              refine ⟨_, rfl, ?_⟩
              have n0_ := Aside0.mk (blk_below (g := gb105) (o := .cells #[.int .i64 t102, .int .i64 t103, .int .i64 t104] 42 (0, 0)) (by (with_reducible repeat first | refine cA_ ?_ _ | refine cB_ ?_ | refine cC_ ?_ _); exact BK105.1) hb)
              have n1_ := Aside0.mk (below_step (by repeat first | exact HB.1 | apply bA_ | apply bB_ | apply bC_ | refine below_set ?_ GE105.out) hb)
              clear BK105; clear HB; have BK105 := n0_; have HB := n1_; clear n0_ n1_; (try clear hb); (try clear hb2); (try clear hk); (try clear hi)
              refine hK.out _ _ ⟨(blk_cell BK105.out 0).trans rfl, (blk_cell BK105.out 1).trans rfl, (blk_cell BK105.out 2).trans rfl⟩ (fun hHeld => ?_)
              clear hK K
              refine norm_ (a' := ?_) ?_ ?_; rotate_left; (show Act.put _ (some 27) _ = _; simp only [P6_]; rfl)
              refine pu_ (v := ?_) (a' := ?_) 3 (some 28) rfl rfl HT_ (by kernel_rfl) (.inl ⟨by rfl, ?_⟩) ?_ ?_; rotate_left 2; (intro w'; go_simp; with_reducible rfl); (simp only [P6_]; rfl)
              refine pu_ (v := ?_) (a' := ?_) 4 (some 29) rfl rfl HT_ (by kernel_rfl) (.inl ⟨by rfl, ?_⟩) ?_ ?_; rotate_left 2; (intro w'; go_simp; with_reducible rfl); (simp only [P6_]; rfl)
              refine pu_ (v := ?_) (a' := ?_) 5 (some 30) rfl rfl HT_ (by kernel_rfl) (.inl ⟨by rfl, ?_⟩) ?_ ?_; rotate_left 2; (intro w'; go_simp; with_reducible rfl); (simp only [P6_]; rfl)
              refine pu_ (v := ?_) (a' := ?_) 8 (some 33) rfl rfl HT_ (by kernel_rfl) (.inl ⟨by rfl, ?_⟩) ?_ ?_; rotate_left 2; (intro w'; go_simp; with_reducible rfl); (simp only [P6_]; rfl)
              refine ta_ (v := ?_) (a' := ?_) 6 (some 31) rfl rfl HT_ HW_ (by kernel_rfl) (.inl ⟨by rfl, ?_⟩) hHeld ?_ ?_; rotate_left 2; (rintro w' ⟨s0, s1, s2⟩; go_simp; with_reducible rfl); (simp only [P6_]; rfl)
              refine ta_ (v := ?_) (a' := ?_) 9 (some 34) rfl rfl HT_ HW_ (by kernel_rfl) (.inl ⟨by rfl, ?_⟩) hHeld ?_ ?_; rotate_left 2; (rintro w' ⟨s0, s1, s2⟩; go_simp; with_reducible rfl); (simp only [P6_]; rfl)
              refine on_ 7 (some 32) rfl rfl HT_ (by kernel_rfl) (by decide) (fun K hK => ?_)
              refine goes_ Try.func35 (by kernel_rfl) rfl #[.agg #[.int .i64 t102, .int .i64 t103, .int .i64 t104]] (by rfl) rfl rfl (by (try simp only [M3_]); first | done | rfl | (simp only [List.length_drop, List.length_take]; rfl)) ?_
              with_reducible refine (impl_CountTrees.calls k1 t102 t103 t104 t109 _ A19.out).mono ?_
              rintro e w23 ⟨rfl, hb⟩
              refine ⟨_, rfl, ?_⟩
              have n0_ := Aside0.mk (blk_below (g := gb105) (o := .cells #[.int .i64 t102, .int .i64 t103, .int .i64 t104] 42 (0, 0)) (by (with_reducible repeat first | refine cA_ ?_ _ | refine cB_ ?_ | refine cC_ ?_ _); exact BK105.1) hb)
              have n1_ := Aside0.mk (below_step (by repeat first | exact HB.1 | apply bA_ | apply bB_ | apply bC_ | refine below_set ?_ GE105.out) hb)
              clear BK105; clear HB; have BK105 := n0_; have HB := n1_; clear n0_ n1_; (try clear hb); (try clear hb2); (try clear hk); (try clear hi)
              refine hK.out _ _ ⟨(blk_cell BK105.out 0).trans rfl, (blk_cell BK105.out 1).trans rfl, (blk_cell BK105.out 2).trans rfl⟩ (fun hHeld => ?_)
              clear hK K
              refine norm_ (a' := ?_) ?_ ?_; rotate_left; (show Act.put _ (some 32) _ = _; simp only [P6_]; rfl)
              refine on_ 10 (some 35) rfl rfl HT_ (by kernel_rfl) (by decide) (fun K hK => ?_)
              refine goes_ Try.func36 (by kernel_rfl) rfl #[.agg #[.int .i64 t102, .int .i64 t103]] (by rfl) rfl rfl (by (try simp only [M3_]); first | done | rfl | (simp only [List.length_drop, List.length_take]; rfl)) ?_
              with_reducible refine (spec_CountCells.calls t102 t103 t110 _ A20.out).mono ?_
              rintro e w24 ⟨rfl, hb⟩
              refine ⟨_, rfl, ?_⟩
              have n0_ := Aside0.mk (blk_below (g := gb105) (o := .cells #[.int .i64 t102, .int .i64 t103, .int .i64 t104] 42 (0, 0)) (by (with_reducible repeat first | refine cA_ ?_ _ | refine cB_ ?_ | refine cC_ ?_ _); exact BK105.1) hb)
              have n1_ := Aside0.mk (below_step (by repeat first | exact HB.1 | apply bA_ | apply bB_ | apply bC_ | refine below_set ?_ GE105.out) hb)
              clear BK105; clear HB; have BK105 := n0_; have HB := n1_; clear n0_ n1_; (try clear hb); (try clear hb2); (try clear hk); (try clear hi)
              refine hK.out _ _ ⟨(blk_cell BK105.out 0).trans rfl, (blk_cell BK105.out 1).trans rfl, (blk_cell BK105.out 2).trans rfl⟩ (fun hHeld => ?_)
              clear hK K
              refine norm_ (a' := ?_) ?_ ?_; rotate_left; (show Act.put _ (some 35) _ = _; simp only [P6_]; rfl)
              refine pu_ (v := ?_) (a' := ?_) 11 (some 36) rfl rfl HT_ (by kernel_rfl) (.inl ⟨by rfl, ?_⟩) ?_ ?_; rotate_left 2; (intro w'; go_simp; with_reducible rfl); (simp only [P6_]; rfl)
              refine pu_ (v := ?_) (a' := ?_) 12 (some 37) rfl rfl HT_ (by kernel_rfl) (.inl ⟨by rfl, ?_⟩) ?_ ?_; rotate_left 2; (intro w'; go_simp; with_reducible rfl); (simp only [P6_]; rfl)
              refine pu_ (v := ?_) (a' := ?_) 13 (some 38) rfl rfl HT_ (by kernel_rfl) (.inl ⟨by rfl, ?_⟩) ?_ ?_; rotate_left 2; (intro w'; go_simp; with_reducible rfl); (simp only [P6_]; rfl)
              refine pu_ (v := ?_) (a' := ?_) 14 (some 39) rfl rfl HT_ (by kernel_rfl) (.inl ⟨by rfl, ?_⟩) ?_ ?_; rotate_left 2; (intro w'; go_simp; with_reducible rfl); (simp only [P6_]; rfl)
              refine done_ (done_of HT_.out (by kernel_rfl)) ?_
              try go_wp2
              go_meet
              case rel => exact ⟨_, ((x5_1 != (wrap64 (t109 * (wrap64 (t110 - 1)))))), (by first | rfl | (simp; done) | (simp [*]; done)), H', ⟨by have := HK1.out; first | omega | exact Nat.le_refl _⟩, ⟨by (with_reducible repeat (first | refine blk_drewN ?_ _ | refine blk_drew ?_ | refine blk_alloc ?_ _)); exact BK105.out⟩, ⟨by repeat (first | (with_reducible first | exact HB.out | apply below_alloc | apply pw_below_drewN | apply below_drew1 | refine below_set ?_ GE105.out) | exact HB.out)⟩⟩
          case rest =>
            clear HC14; try clear c1; try clear p2; try clear c3; try clear c6; try clear p6; try clear c10; try clear c10b0; try clear c16; try clear c16b0; try clear hcz12_0; try clear hcz12_1; try clear hcz12_2; try clear hcz8_0; try clear hcz8_1; try clear hcz8_2; try clear hfz12_0; try clear hfz12_1; try clear hfz12_2; try clear hfz8_0; try clear hfz8_1; try clear hfz8_2; try clear p2
            obtain ⟨kq, x39_13, rfl, HA, HJ13, BK105, HB⟩ := hcut
            cases kq with
            | zero => exact absurd HA.out (by simp [laws_FnCounts.j1])
            | succ kj13 =>
              have H := HA.out
              clear HA
              simp only [laws_FnCounts.j1] at H
              by_cases c25 : x39_13 = true
              · subst c25
                rw [if_pos rfl] at H
                obtain rfl := Option.some.inj H
                go_wp2
                go_ret
                exact ⟨by first | rfl | (simp [errW_none, errW_some] <;> rfl) | (simp [*, errW_none, errW_some] <;> rfl), by repeat (first | (with_reducible first | exact HB.out | apply below_alloc | apply pw_below_drewN | apply below_drew1 | refine below_set ?_ GE105.out) | exact HB.out)⟩
              · replace c25 := Bool.eq_false_iff.mpr c25
                subst c25
                have H1 : (if t106 = 0 then (some true) else ((laws_at.f l0 0).bind fun t111 => (if 0 ≤ (Int.tmod t111 t106) then ((impl_CountFixed.f kj13 t102 t103 (shl .i64 1 (Int.tmod t111 t106)) 0).bind fun t112 => ((impl_CountFixed.f kj13 t102 t103 0 (shl .i64 1 (Int.tmod t111 t106))).bind fun t113 => ((impl_CountFixed.f kj13 t102 t103 0 0).bind fun t114 => (some ((wrap64 (t112 + t113)) == t114))))) else (none)))) = some r := by rw [if_neg (show ¬ (false = true) by decide)] at H; exact H
                clear H
                have H := H1
                clear H1
                by_cases c26 : t106 = 0
                · rw [if_pos c26] at H
                  have c26b0 : (t106 == 0) = true := beq_iff_eq.mpr c26
                  have c26b1 : (t106 != 0) = false := bne_eq_false_iff_eq.mpr c26
                  clear c26
                  obtain rfl := Option.some.inj H
                  go_wp2
                  go_ret
                  exact ⟨by first | rfl | (simp [errW_none, errW_some] <;> rfl) | (simp [*, errW_none, errW_some] <;> rfl), by repeat (first | (with_reducible first | exact HB.out | apply below_alloc | apply pw_below_drewN | apply below_drew1 | refine below_set ?_ GE105.out) | exact HB.out)⟩
                · rw [if_neg c26] at H
                  have c26b0 : (t106 == 0) = false := beq_eq_false_iff_ne.mpr c26
                  have c26b1 : (t106 != 0) = true := bne_iff_ne.mpr c26
                  obtain ⟨t111, A270, H⟩ := Option.bind_eq_some_iff.mp H
                  (try dsimp only at H); have A27 := Aside0.mk A270; clear A270
                  obtain ⟨ji28, hji28⟩ : ∃ j_ : Int, (Int.tmod t111 t106) = j_ := ⟨_, rfl⟩
                  replace H : (if 0 ≤ (ji28) then ((impl_CountFixed.f kj13 t102 t103 (shl .i64 1 (ji28)) 0).bind fun t112 => ((impl_CountFixed.f kj13 t102 t103 0 (shl .i64 1 (ji28))).bind fun t113 => ((impl_CountFixed.f kj13 t102 t103 0 0).bind fun t114 => (some ((wrap64 (t112 + t113)) == t114))))) else (none)) = some r := by first | (rw [hji28] at H; exact H) | (simp only [hji28] at H ⊢; exact H)
                  (try rw [hji28] at A27)
                  replace H := iN_ H; obtain ⟨c29, H⟩ := H
                  have c29b0 := eq_true c29
                  have c29b1 : decide (0 ≤ (ji28)) = true := decide_eq_true c29
                  clear c29
                  obtain ⟨ji30, hji30⟩ : ∃ j_ : Int, (shl .i64 1 (ji28)) = j_ := ⟨_, rfl⟩
                  replace H : ((impl_CountFixed.f kj13 t102 t103 (ji30) 0).bind fun t112 => ((impl_CountFixed.f kj13 t102 t103 0 (ji30)).bind fun t113 => ((impl_CountFixed.f kj13 t102 t103 0 0).bind fun t114 => (some ((wrap64 (t112 + t113)) == t114))))) = some r := by first | (rw [hji30] at H; exact H) | (simp only [hji30] at H ⊢; exact H)
                  (try rw [hji30] at A27)
                  have hji30_ : (IntKind.i64.wrap (1 * 2 ^ min (ji28).toNat 64)) = ji30 := hji30
                  have hji30z : (ji28) ≤ 64 → (IntKind.i64.wrap (1 * 2 ^ (ji28).toNat)) = ji30 := shl_small hji30
                  have hji30u : (IntKind.i64.wrap (2 ^ min (ji28).toNat 64)) = ji30 := by have h_ := hji30_; rw [Int.one_mul] at h_; exact h_
                  have hji30v : (ji28) ≤ 64 → (IntKind.i64.wrap (2 ^ (ji28).toNat)) = ji30 := fun hle_ => by have h_ := hji30z hle_; rw [Int.one_mul] at h_; exact h_
                  have hji30y : (wrap64 (1 * 2 ^ min (ji28).toNat 64)) = ji30 := (i64_w _).symm.trans hji30_
                  have hji30x : (ji28) ≤ 64 → (wrap64 (1 * 2 ^ (ji28).toNat)) = ji30 := fun h_ => (i64_w _).symm.trans (hji30z h_)
                  obtain ⟨t112, A310, H⟩ := Option.bind_eq_some_iff.mp H
                  (try dsimp only at H); have A31 := Aside0.mk A310; clear A310
                  have c32b0 := eq_true (of_decide_eq_true (by first | (with_reducible assumption) | assumption) : 0 ≤ (ji28))
                  obtain ⟨t113, A330, H⟩ := Option.bind_eq_some_iff.mp H
                  (try dsimp only at H); have A33 := Aside0.mk A330; clear A330
                  obtain ⟨t114, A340, H⟩ := Option.bind_eq_some_iff.mp H
                  (try dsimp only at H); have A34 := Aside0.mk A340; clear A340
                  obtain rfl := Option.some.inj H
                  try go_wp2_with (first | ((with_reducible refine gate_callee (f := 20) rfl ?_); refine goesL_ (some 43) rfl rfl Try.func20 (by kernel_rfl) rfl #[.slice A0 l0.length c0, .int .i64 0] rfl (by (try simp only [M3_]); first | done | rfl | (simp only [List.length_drop, List.length_take]; rfl)) ?_; (with_reducible refine (laws_at.calls _ _ l0 0 t111 _ ?side1 ?side2 A27.out).mono ?_); (case side1 => repeat (first | exact (Kd.C_below HR0.out HB.out) | (with_reducible refine Kd.C_alloc ?_ _) | (with_reducible refine Kd.C_drewN ?_ _) | (with_reducible refine Kd.C_drew ?_))); (case side2 => exact HC0.out); rintro e w' ⟨rfl, ⟨nd, rfl⟩⟩; (try clear A27); refine ⟨_, rfl, ?_⟩))
                  (try (rw [drewN_self wc]; generalize hq_ : World.drewN wc _ = wc; have n0_ : Aside0 (wc.heap[gb105]? = some (.cells #[.int .i64 t102, .int .i64 t103, .int .i64 t104] 42 (0, 0))) := ⟨by rw [← hq_]; exact (by (with_reducible repeat first | refine cA_ ?_ _ | refine cB_ ?_ | refine cC_ ?_ _); exact BK105.1)⟩; have n1_ : Aside0 (Below w.heap.size w wc) := ⟨by rw [← hq_]; exact (by repeat first | exact HB.1 | apply bA_ | apply bB_ | apply bC_ | refine below_set ?_ GE105.out)⟩; clear BK105 HB hq_; have BK105 := n0_; have HB := n1_; clear n0_ n1_)); have n0_ := Aside0.mk (blk_drew BK105.out); have n1_ := Aside0.mk (below_drew1 HB.out); clear BK105; clear HB; have BK105 := n0_; have HB := n1_; clear n0_ n1_
                  refine start_ (n := 16) (S := fun w' => w'.cell? ⟨gb105, 0, none⟩ = some (.int .i64 t102) ∧ w'.cell? ⟨gb105, 1, none⟩ = some (.int .i64 t103) ∧ w'.cell? ⟨gb105, 2, none⟩ = some (.int .i64 t104)) (ds := []) #[false, false, false, false, false, false, false, false, false, false, false, false, false, false, false, false] (by kernel_rfl) rfl rfl ⟨(blk_cell BK105.out 0).trans rfl, (blk_cell BK105.out 1).trans rfl, (blk_cell BK105.out 2).trans rfl⟩ (fun hHeld => ?_); refine with_tabW laws_FnCounts.tab15 laws_FnCounts.bits15 (fun HT_ HW_ => ?_)
                  generalize wc.drew = w35 at BK105 HB hHeld ⊢
                  refine pu_ (v := ?_) (a' := ?_) 0 (some 46) rfl rfl HT_ (by kernel_rfl) (.inl ⟨by rfl, ?_⟩) ?_ ?_; rotate_left 2; (intro w'; go_simp; with_reducible rfl); (simp only [P6_]; rfl)
                  refine pu_ (v := ?_) (a' := ?_) 2 (some 48) rfl rfl HT_ (by kernel_rfl) (.inl ⟨by rfl, ?_⟩) ?_ ?_; rotate_left 2; (intro w'; go_simp; with_reducible rfl); (simp only [P6_]; rfl)
                  refine pu_ (v := ?_) (a' := ?_) 3 (some 49) rfl rfl HT_ (by kernel_rfl) (.inl ⟨by rfl, ?_⟩) ?_ ?_; rotate_left 2; (intro w'; go_simp; with_reducible rfl); (simp only [P6_]; rfl)
                  refine pu_ (v := ?_) (a' := ?_) 5 (some 51) rfl rfl HT_ (by kernel_rfl) (.inl ⟨by rfl, ?_⟩) ?_ ?_; rotate_left 2; (intro w'; go_simp; with_reducible rfl); (simp only [P6_]; rfl)
                  refine pu_ (v := ?_) (a' := ?_) 7 (some 53) rfl rfl HT_ (by kernel_rfl) (.inl ⟨by rfl, ?_⟩) ?_ ?_; rotate_left 2; (intro w'; go_simp; with_reducible rfl); (simp only [P6_]; rfl)
                  refine pu_ (v := ?_) (a' := ?_) 8 (some 54) rfl rfl HT_ (by kernel_rfl) (.inl ⟨by rfl, ?_⟩) ?_ ?_; rotate_left 2; (intro w'; go_simp; with_reducible rfl); (simp only [P6_]; rfl)
                  refine pu_ (v := ?_) (a' := ?_) 11 (some 57) rfl rfl HT_ (by kernel_rfl) (.inl ⟨by rfl, ?_⟩) ?_ ?_; rotate_left 2; (intro w'; go_simp; with_reducible rfl); (simp only [P6_]; rfl)
                  refine ta_ (v := ?_) (a' := ?_) 1 (some 47) rfl rfl HT_ HW_ (by kernel_rfl) (.inl ⟨by rfl, ?_⟩) hHeld ?_ ?_; rotate_left 2; (rintro w' ⟨s0, s1, s2⟩; go_simp; with_reducible rfl); (simp only [P6_]; rfl)
                  refine ta_ (v := ?_) (a' := ?_) 6 (some 52) rfl rfl HT_ HW_ (by kernel_rfl) (.inl ⟨by rfl, ?_⟩) hHeld ?_ ?_; rotate_left 2; (rintro w' ⟨s0, s1, s2⟩; go_simp; with_reducible rfl); (simp only [P6_]; rfl)
                  refine ta_ (v := ?_) (a' := ?_) 12 (some 58) rfl rfl HT_ HW_ (by kernel_rfl) (.inl ⟨by rfl, ?_⟩) hHeld ?_ ?_; rotate_left 2; (rintro w' ⟨s0, s1, s2⟩; go_simp; with_reducible rfl); (simp only [P6_]; rfl)
                  refine on_ 4 (some 50) rfl rfl HT_ (by kernel_rfl) (by decide) (fun K hK => ?_)
                  refine goes_ Try.func34 (by kernel_rfl) rfl #[.agg #[.int .i64 t102, .int .i64 t103], .int .i64 ji30, .int .i64 0] (by rfl) rfl rfl (by (try simp only [List.map_toArray, List.map_cons, List.map_nil]); first | done | (simp only [hji30]; rfl) | rfl | (simp only [List.length_drop, List.length_take]; rfl)) ?_
                  with_reducible refine (impl_CountFixed.calls kj13 t102 t103 ji30 0 t112 _ A31.out).mono ?_
                  rintro e w36 ⟨rfl, hb⟩
                  refine ⟨_, rfl, ?_⟩
                  have n0_ := Aside0.mk (blk_below (g := gb105) (o := .cells #[.int .i64 t102, .int .i64 t103, .int .i64 t104] 42 (0, 0)) (by (with_reducible repeat first | refine cA_ ?_ _ | refine cB_ ?_ | refine cC_ ?_ _); exact BK105.1) hb)
                  have n1_ := Aside0.mk (below_step (by repeat first | exact HB.1 | apply bA_ | apply bB_ | apply bC_ | refine below_set ?_ GE105.out) hb)
                  clear BK105; clear HB; have BK105 := n0_; have HB := n1_; clear n0_ n1_; (try clear hb); (try clear hb2); (try clear hk); (try clear hi)
                  refine hK.out _ _ ⟨(blk_cell BK105.out 0).trans rfl, (blk_cell BK105.out 1).trans rfl, (blk_cell BK105.out 2).trans rfl⟩ (fun hHeld => ?_)
                  clear hK K
                  refine norm_ (a' := ?_) ?_ ?_; rotate_left; (show Act.put _ (some 50) _ = _; simp only [P6_]; rfl)
                  refine on_ 9 (some 55) rfl rfl HT_ (by kernel_rfl) (by decide) (fun K hK => ?_)
                  refine goes_ Try.func34 (by kernel_rfl) rfl #[.agg #[.int .i64 t102, .int .i64 t103], .int .i64 0, .int .i64 ji30] (by rfl) rfl rfl (by (try simp only [List.map_toArray, List.map_cons, List.map_nil]); first | done | (simp only [hji30]; rfl) | rfl | (simp only [List.length_drop, List.length_take]; rfl)) ?_
                  with_reducible refine (impl_CountFixed.calls kj13 t102 t103 0 ji30 t113 _ A33.out).mono ?_
                  rintro e w37 ⟨rfl, hb⟩
                  refine ⟨_, rfl, ?_⟩
                  have n0_ := Aside0.mk (blk_below (g := gb105) (o := .cells #[.int .i64 t102, .int .i64 t103, .int .i64 t104] 42 (0, 0)) (by (with_reducible repeat first | refine cA_ ?_ _ | refine cB_ ?_ | refine cC_ ?_ _); exact BK105.1) hb)
                  have n1_ := Aside0.mk (below_step (by repeat first | exact HB.1 | apply bA_ | apply bB_ | apply bC_ | refine below_set ?_ GE105.out) hb)
                  clear BK105; clear HB; have BK105 := n0_; have HB := n1_; clear n0_ n1_; (try clear hb); (try clear hb2); (try clear hk); (try clear hi)
                  refine hK.out _ _ ⟨(blk_cell BK105.out 0).trans rfl, (blk_cell BK105.out 1).trans rfl, (blk_cell BK105.out 2).trans rfl⟩ (fun hHeld => ?_)
                  clear hK K
                  refine norm_ (a' := ?_) ?_ ?_; rotate_left; (show Act.put _ (some 55) _ = _; simp only [P6_]; rfl)
                  refine pu_ (v := ?_) (a' := ?_) 10 (some 56) rfl rfl HT_ (by kernel_rfl) (.inl ⟨by rfl, ?_⟩) ?_ ?_; rotate_left 2; (intro w'; go_simp; with_reducible rfl); (simp only [P6_]; rfl)
                  refine on_ 13 (some 59) rfl rfl HT_ (by kernel_rfl) (by decide) (fun K hK => ?_)
                  refine goes_ Try.func34 (by kernel_rfl) rfl #[.agg #[.int .i64 t102, .int .i64 t103], .int .i64 0, .int .i64 0] (by rfl) rfl rfl (by (try simp only [M3_]); first | done | rfl | (simp only [List.length_drop, List.length_take]; rfl)) ?_
                  with_reducible refine (impl_CountFixed.calls kj13 t102 t103 0 0 t114 _ A34.out).mono ?_
                  rintro e w38 ⟨rfl, hb⟩
                  refine ⟨_, rfl, ?_⟩
                  have n0_ := Aside0.mk (blk_below (g := gb105) (o := .cells #[.int .i64 t102, .int .i64 t103, .int .i64 t104] 42 (0, 0)) (by (with_reducible repeat first | refine cA_ ?_ _ | refine cB_ ?_ | refine cC_ ?_ _); exact BK105.1) hb)
                  have n1_ := Aside0.mk (below_step (by repeat first | exact HB.1 | apply bA_ | apply bB_ | apply bC_ | refine below_set ?_ GE105.out) hb)
                  clear BK105; clear HB; have BK105 := n0_; have HB := n1_; clear n0_ n1_; (try clear hb); (try clear hb2); (try clear hk); (try clear hi)
                  refine hK.out _ _ ⟨(blk_cell BK105.out 0).trans rfl, (blk_cell BK105.out 1).trans rfl, (blk_cell BK105.out 2).trans rfl⟩ (fun hHeld => ?_)
                  clear hK K
                  refine norm_ (a' := ?_) ?_ ?_; rotate_left; (show Act.put _ (some 59) _ = _; simp only [P6_]; rfl)
                  refine pu_ (v := ?_) (a' := ?_) 14 (some 60) rfl rfl HT_ (by kernel_rfl) (.inl ⟨by rfl, ?_⟩) ?_ ?_; rotate_left 2; (intro w'; go_simp; with_reducible rfl); (simp only [P6_]; rfl)
                  refine pu_ (v := ?_) (a' := ?_) 15 (some 2) rfl rfl HT_ (by kernel_rfl) (.inl ⟨by rfl, ?_⟩) ?_ ?_; rotate_left 2; (intro w'; go_simp; with_reducible rfl); (simp only [P6_]; rfl)
                  refine done_ (done_of HT_.out (by kernel_rfl)) ?_
                  try go_wp2
                  go_ret
                  exact ⟨by first | rfl | (simp [errW_none, errW_some] <;> rfl) | (simp only [← hji28, ← hji30]; first | rfl | (simp [errW_none, errW_some] <;> rfl)) | (simp [*, errW_none, errW_some] <;> rfl), by repeat (first | (with_reducible first | exact HB.out | apply below_alloc | apply pw_below_drewN | apply below_drew1 | refine below_set ?_ GE105.out) | exact HB.out)⟩

end Go.Proofs.Ytoohcdfokejkdaa.P
namespace Go.Proofs.Ytoohcdfokejkdaa.P
open Go.RowKit Go.Proofs.YtoohcdfokejkdaaW.PrintWords Go.Proofs.YtoohcdfokejkdaaW.PrintLast Go.Proofs.YtoohcdfokejkdaaW.PrintMore
attribute [local go_sem] max2_int min2_int max_two min_two max_three min_three max_four min_four   -- for this text's walks alone
set_option linter.unusedVariables false
set_option linter.unusedSimpArgs false

/-! ### spec_IsPassage: function 94 -/
/-! ### spec_l11Trees: function 86 -/
end Go.Proofs.Ytoohcdfokejkdaa.P
namespace Go.Proofs.Ytoohcdfokejkdaa.P
open Go.RowKit Go.Proofs.YtoohcdfokejkdaaW.PrintWords
set_option linter.unusedVariables false
set_option linter.unusedSimpArgs false
section
variable {α β : Type}
theorem Ev.tt {c : Prop} [Decidable c] {g f : Nat → Option α} {r : α} (h : c) (e : Ev g r) : Ev (fun k => if c then g k else f k) r := by simpa only [if_pos h] using e
theorem Ev.ff {c : Prop} [Decidable c] {g f : Nat → Option α} {r : α} (h : ¬ c) (e : Ev f r) : Ev (fun k => if c then g k else f k) r := by simpa only [if_neg h] using e
theorem Ev.ite {c : Prop} [Decidable c] {g f : Nat → Option α} {r : α} (e1 : c → Ev g r) (e2 : ¬ c → Ev f r) : Ev (fun k => if c then g k else f k) r := by
  by_cases h : c
  · exact Ev.tt h (e1 h)
  · exact Ev.ff h (e2 h)
theorem Ev.bnd0 {o : Option α} {f : Nat → α → Option β} {a : α} {r : β} (h : o = some a) (k : Ev (fun n => f n a) r) : Ev (fun n => o.bind (f n)) r := by subst h; exact k
theorem Ev.ret {a r : α} (h : a = r) : Ev (fun _ => some a) r := ⟨0, fun _ _ => by rw [h]⟩
theorem Ev.eq {g : Nat → Option α} {r r' : α} (h : Ev g r) (e : r = r') : Ev g r' := e ▸ h
end
theorem wrap64_id {x : Int} (h0 : -9223372036854775808 ≤ x) (h1 : x ≤ 9223372036854775807) : wrap64 x = x := by unfold wrap64; omega
theorem wsucc {i : Nat} (h : i < 4611686018427387904) : wrap64 ((i : Int) + 1) = ((i + 1 : Nat) : Int) := by unfold wrap64; omega
theorem rd_nat (l : List Int) (i : Nat) : rd l (i : Int) = l.getD i 0 := rfl
theorem rd_get {l : List Int} {i : Nat} (h : i < l.length) : rd l (i : Int) = l[i] := by simp [rd_nat, List.getD_eq_getElem?_getD, List.getElem?_eq_getElem h]
end Go.Proofs.Ytoohcdfokejkdaa.P
namespace Go.Proofs.Ytoohcdfokejkdaa.P
open Go Go.RowKit Go.Proofs.YtoohcdfokejkdaaW.PrintWords
set_option linter.unusedVariables false
set_option linter.unusedSimpArgs false

theorem wrap_small {n : Nat} (h : n < 9223372036854775808) : IntKind.i64.wrap (n : Int) = n := by
  rw [IntKind.wrap_i64]; omega
theorem shl_pow {k : Nat} (h : k < 63) : shl .i64 1 (k : Int) = ((2 ^ k : Nat) : Int) := by
  have h1 : (2 : Nat) ^ k < 2 ^ 63 := Nat.pow_lt_pow_right (by decide) h
  unfold shl
  rw [show min (k : Int).toNat IntKind.i64.bits = k by simp [IntKind.bits]; omega, Int.one_mul]
  have := wrap_small (n := 2 ^ k) (by simpa using h1)
  simpa using this
theorem bits_and {a b : Nat} (ha : a < 4611686018427387904) (hb : b < 4611686018427387904) : Go.bits .and .i64 a b = ((a &&& b : Nat) : Int) :=
  (bits_nat .i64 62 (by decide) (fun n h0 h1 => by rw [IntKind.wrap_i64]; omega) a b (by simpa using ha) (by simpa using hb)).1
theorem bits_or {a b : Nat} (ha : a < 4611686018427387904) (hb : b < 4611686018427387904) : Go.bits .or .i64 a b = ((a ||| b : Nat) : Int) :=
  (bits_nat .i64 62 (by decide) (fun n h0 h1 => by rw [IntKind.wrap_i64]; omega) a b (by simpa using ha) (by simpa using hb)).2
theorem bits_xor {a b : Nat} (ha : a < 4611686018427387904) (hb : b < 4611686018427387904) : Go.bits .xor .i64 a b = ((a ^^^ b : Nat) : Int) := by
  have e : (BitVec.ofInt 64 (a : Int) ^^^ BitVec.ofInt 64 (b : Int)).toNat = a ^^^ b := by
    rw [BitVec.ofInt_natCast, BitVec.ofInt_natCast, BitVec.toNat_xor, BitVec.toNat_ofNat, BitVec.toNat_ofNat, Nat.mod_eq_of_lt (by omega), Nat.mod_eq_of_lt (by omega)]
  show IntKind.i64.wrap ((BitVec.ofInt 64 (a : Int) ^^^ BitVec.ofInt 64 (b : Int)).toNat : Int) = _
  rw [e]
  exact wrap_small (Nat.lt_of_lt_of_le (Nat.xor_lt_two_pow (n := 62) (by simpa using ha) (by simpa using hb)) (by decide))
/-- a without the bits of b. -/
def andNot (a b : Nat) : Nat := a ^^^ (a &&& b)
theorem testBit_andNot (a b i : Nat) : (andNot a b).testBit i = (a.testBit i && !b.testBit i) := by
  simp [andNot]
  cases a.testBit i <;> cases b.testBit i <;> rfl
theorem andNot_le (a b : Nat) : andNot a b ≤ a := by
  apply Nat.le_of_testBit
  intro i h
  rw [testBit_andNot] at h
  simp at h
  exact h.1
theorem bits_andNot {a b : Nat} (ha : a < 4611686018427387904) (hb : b < 4611686018427387904) : Go.bits .andNot .i64 a b = ((andNot a b : Nat) : Int) := by
  have e : (BitVec.ofInt 64 (a : Int) &&& ~~~ BitVec.ofInt 64 (b : Int)).toNat = andNot a b := by
    rw [BitVec.ofInt_natCast, BitVec.ofInt_natCast]
    apply Nat.eq_of_testBit_eq
    intro i
    rw [testBit_andNot, BitVec.testBit_toNat, BitVec.getLsbD_and, BitVec.getLsbD_not, BitVec.getLsbD_ofNat, BitVec.getLsbD_ofNat]
    by_cases h : i < 64
    · simp [h]
    · have : a.testBit i = false := Nat.testBit_lt_two_pow (Nat.lt_of_lt_of_le (by simpa using ha : a < 2 ^ 62) (Nat.pow_le_pow_right (by decide) (by omega)))
      simp [h, this]
  show IntKind.i64.wrap ((BitVec.ofInt 64 (a : Int) &&& ~~~ BitVec.ofInt 64 (b : Int)).toNat : Int) = _
  rw [e]
  exact wrap_small (by have := andNot_le a b; omega)
theorem shr_nat {m : Nat} (hm : m < 4611686018427387904) (k : Nat) : shr .i64 (m : Int) (k : Int) = ((m / 2 ^ k : Nat) : Int) := by
  unfold shr
  by_cases h : k ≤ 64
  · rw [show min (k : Int).toNat IntKind.i64.bits = k by simp [IntKind.bits]; omega]
    simp
  · rw [show min (k : Int).toNat IntKind.i64.bits = 64 by simp [IntKind.bits]; omega]
    have h1 : m / 2 ^ k = 0 := Nat.div_eq_of_lt (Nat.lt_of_lt_of_le (by simpa using hm : m < 2 ^ 62) (Nat.pow_le_pow_right (by decide) (by omega)))
    rw [h1]
    have : (m : Int) / 2 ^ 64 = ((m / 2 ^ 64 : Nat) : Int) := by simp
    rw [this, Nat.div_eq_of_lt (by omega)]
/-- The test of a bit, as the program and the reference make it. -/
theorem bit_test {m : Nat} (hm : m < 4611686018427387904) (k : Nat) (c : Int) : (Go.bits .and .i64 (shr .i64 (m : Int) (k : Int)) 1 == c) = (((m.testBit k).toNat : Int) == c) := by
  rw [shr_nat hm, show (1 : Int) = ((1 : Nat) : Int) from rfl, bits_and (Nat.lt_of_le_of_lt (Nat.div_le_self _ _) hm) (by decide)]
  congr 2
  rw [Nat.testBit_eq_decide_div_mod_eq, Nat.and_one_is_mod]
  have := Nat.mod_two_eq_zero_or_one (m / 2 ^ k)
  rcases this with h | h <;> simp [h]
theorem bit_one {m : Nat} (hm : m < 4611686018427387904) (k : Nat) : (Go.bits .and .i64 (shr .i64 (m : Int) (k : Int)) 1 == 1) = m.testBit k := by
  rw [bit_test hm]
  cases m.testBit k <;> rfl
theorem bit_zero {m : Nat} (hm : m < 4611686018427387904) (k : Nat) : (Go.bits .and .i64 (shr .i64 (m : Int) (k : Int)) 1 == 0) = !m.testBit k := by
  rw [bit_test hm]
  cases m.testBit k <;> rfl
/-- A number with one bit set, or not. -/
def setB (o g : Nat) (b : Bool) : Nat := if b then o ||| 2 ^ g else andNot o (2 ^ g)
theorem testBit_setB (o g : Nat) (b : Bool) (i : Nat) : (setB o g b).testBit i = if i = g then b else o.testBit i := by
  unfold setB
  cases b
  · simp only [Bool.false_eq_true, if_false, testBit_andNot, Nat.testBit_two_pow]
    by_cases h : i = g
    · simp [h]
    · simp [h, show ¬ g = i from fun e => h e.symm]
  · simp only [if_true, Nat.testBit_or, Nat.testBit_two_pow]
    by_cases h : i = g
    · simp [h]
    · simp [h, show ¬ g = i from fun e => h e.symm]
theorem setB_lt {o g n : Nat} (b : Bool) (ho : o < 2 ^ n) (hg : g < n) : setB o g b < 2 ^ n := by
  unfold setB
  split
  · exact Nat.or_lt_two_pow ho (Nat.pow_lt_pow_right (by decide) hg)
  · exact Nat.lt_of_le_of_lt (andNot_le _ _) ho
theorem setB_self {o g : Nat} : setB o g (o.testBit g) = o := by
  apply Nat.eq_of_testBit_eq
  intro i
  rw [testBit_setB]
  split
  · rename_i h; rw [h]
  · rfl
theorem xor_setB {o g : Nat} {b : Bool} (h : (o.testBit g) ≠ b) : o ^^^ 2 ^ g = setB o g b := by
  apply Nat.eq_of_testBit_eq
  intro i
  rw [testBit_setB, Nat.testBit_xor, Nat.testBit_two_pow]
  by_cases e : i = g
  · subst e
    cases hb : b <;> cases ho : o.testBit i <;> simp_all
  · simp [e, show ¬ g = i from fun e' => e e'.symm]
end Go.Proofs.Ytoohcdfokejkdaa.P
namespace Go.Proofs.Ytoohcdfokejkdaa.P
open Go.RowKit Go.Proofs.YtoohcdfokejkdaaW.PrintWords
set_option linter.unusedVariables false
set_option linter.unusedSimpArgs false

/-- The number of set bits of s under n. -/
def pop : Nat → Nat → Nat
  | 0, _ => 0
  | n + 1, s => pop n s + (s.testBit n).toNat
theorem pop_le (n s : Nat) : pop n s ≤ n := by
  induction n with
  | zero => simp [pop]
  | succ n ih => simp only [pop]; have := Bool.toNat_le (s.testBit n); omega
theorem pop_congr {n s t : Nat} (h : ∀ i, i < n → s.testBit i = t.testBit i) : pop n s = pop n t := by
  induction n with
  | zero => rfl
  | succ n ih => simp only [pop]; rw [ih (fun i hi => h i (by omega)), h n (by omega)]
theorem pop_add (m n s : Nat) : pop (m + n) s = pop m s + pop n (s / 2 ^ m) := by
  induction n with
  | zero => simp [pop]
  | succ n ih =>
    rw [← Nat.add_assoc]
    simp only [pop]
    rw [ih, Nat.add_assoc, Nat.testBit_div_two_pow, Nat.add_comm n m]
theorem pop_mod (n s : Nat) : pop n (s % 2 ^ n) = pop n s := pop_congr fun i hi => by rw [Nat.testBit_mod_two_pow]; simp [hi]
theorem pop_big {n m s : Nat} (h : s < 2 ^ n) (hm : n ≤ m) : pop m s = pop n s := by
  obtain ⟨d, rfl⟩ := Nat.exists_eq_add_of_le hm
  rw [pop_add, Nat.div_eq_of_lt h]
  have : pop d 0 = 0 := by
    induction d with
    | zero => rfl
    | succ d ih => simp only [pop, Nat.zero_testBit]; rw [ih (by omega)]; rfl
  rw [this, Nat.add_zero]
/-- A valid grid. -/
def gridOk (w h : Int) : Bool := decide (1 ≤ w ∧ w ≤ 4 ∧ 1 ≤ h ∧ h ≤ 4)
theorem gridOk_iff {w h : Int} : gridOk w h = true ↔ 1 ≤ w ∧ w ≤ 4 ∧ 1 ≤ h ∧ h ≤ 4 := by simp [gridOk]
/-- The sixteen grids. -/
theorem grid_cases {w h : Int} (hg : gridOk w h = true) : (w = 1 ∨ w = 2 ∨ w = 3 ∨ w = 4) ∧ (h = 1 ∨ h = 2 ∨ h = 3 ∨ h = 4) := by
  rw [gridOk_iff] at hg
  omega
def cellsOf (w h : Int) : Int := if gridOk w h then w * h else 0
def eastOf (w h : Int) : Int := (w - 1) * h
def gapsOf (w h : Int) : Int := if gridOk w h then (w - 1) * h + w * (h - 1) else 0
theorem cellsOf_range (w h : Int) : 0 ≤ cellsOf w h ∧ cellsOf w h ≤ 16 := by
  unfold cellsOf
  split
  · rename_i hg
    obtain ⟨h1 | h1 | h1 | h1, h2 | h2 | h2 | h2⟩ := grid_cases hg <;> subst h1 <;> subst h2 <;> decide
  · omega
theorem gapsOf_range (w h : Int) : 0 ≤ gapsOf w h ∧ gapsOf w h ≤ 24 := by
  unfold gapsOf
  split
  · rename_i hg
    obtain ⟨h1 | h1 | h1 | h1, h2 | h2 | h2 | h2⟩ := grid_cases hg <;> subst h1 <;> subst h2 <;> decide
  · omega
theorem pow_le {n : Int} (h0 : 0 ≤ n) (h1 : n ≤ 24) : (1 : Int) ≤ 2 ^ n.toNat ∧ (2 : Int) ^ n.toNat ≤ 16777216 := by
  obtain ⟨m, rfl⟩ := Int.eq_ofNat_of_zero_le h0
  have : m ≤ 24 := by omega
  clear h0 h1
  revert m
  decide +kernel
def isCellI (w h c : Int) : Bool := decide (0 ≤ c ∧ c < cellsOf w h)
/-- The neighbor of a cell in a direction. -/
def nbI (w h c d : Int) : Int :=
  if 0 ≤ c ∧ c < cellsOf w h then
    (if d = 0 ∧ 0 < c / w then c - w else if d = 1 ∧ c % w < w - 1 then c + 1 else if d = 2 ∧ c / w < h - 1 then c + w else if d = 3 ∧ 0 < c % w then c - 1 else -1)
  else -1
theorem cellsOf_valid {w h c : Int} (h1 : 0 ≤ c) (h2 : c < cellsOf w h) : gridOk w h = true ∧ cellsOf w h = w * h := by
  unfold cellsOf at *
  by_cases hg : gridOk w h = true
  · exact ⟨hg, if_pos hg⟩
  · rw [if_neg hg] at h2; omega
/-- The number of gaps, as a natural number. -/
def gapsN (w h : Int) : Nat := (gapsOf w h).toNat
theorem gapsN_le (w h : Int) : gapsN w h ≤ 24 := by have := gapsOf_range w h; unfold gapsN; omega
theorem gapsN_cast (w h : Int) : ((gapsN w h : Nat) : Int) = gapsOf w h := by have := gapsOf_range w h; unfold gapsN; omega
/-- A valid maze. -/
def mazeOk (w h o : Int) : Bool := gridOk w h && decide (0 ≤ o ∧ o < 2 ^ gapsN w h)
theorem mazeOk_iff {w h o : Int} : mazeOk w h o = true ↔ gridOk w h = true ∧ ∃ n : Nat, o = (n : Int) ∧ n < 2 ^ gapsN w h := by
  unfold mazeOk
  simp only [Bool.and_eq_true, decide_eq_true_eq]
  constructor
  · rintro ⟨h1, h2, h3⟩
    obtain ⟨n, rfl⟩ := Int.eq_ofNat_of_zero_le h2
    exact ⟨h1, n, rfl, by exact_mod_cast h3⟩
  · rintro ⟨h1, n, rfl, h3⟩
    exact ⟨h1, by omega, by exact_mod_cast h3⟩
theorem open_small {w h : Int} {n : Nat} (hn : n < 2 ^ gapsN w h) : n < 16777216 := Nat.lt_of_lt_of_le hn (Nat.pow_le_pow_right (by decide) (gapsN_le w h))
/-- Is a gap open? -/
def openI (n : Nat) (g : Int) : Bool := decide (0 ≤ g) && n.testBit g.toNat
theorem openI_nat' (n j : Nat) : openI n (j : Int) = n.testBit j := by simp [openI]
def isGapI (w h g : Int) : Bool := decide (0 ≤ g ∧ g < gapsOf w h)
theorem open_isGap {w h g : Int} {n : Nat} (hn : n < 2 ^ gapsN w h) (ho : openI n g = true) : isGapI w h g = true := by
  unfold openI isGapI at *
  simp only [Bool.and_eq_true, decide_eq_true_eq] at *
  have : g.toNat < gapsN w h := by
    rcases Nat.lt_or_ge g.toNat (gapsN w h) with h1 | h1
    · exact h1
    · rw [Nat.testBit_lt_two_pow (Nat.lt_of_lt_of_le hn (Nat.pow_le_pow_right (by decide) h1))] at ho
      exact absurd ho.2 (by decide)
  have := gapsN_cast w h
  omega
theorem gapsOf_valid {w h g : Int} (h1 : 0 ≤ g) (h2 : g < gapsOf w h) : gridOk w h = true ∧ gapsOf w h = (w - 1) * h + w * (h - 1) := by
  unfold gapsOf at *
  by_cases hg : gridOk w h = true
  · exact ⟨hg, if_pos hg⟩
  · rw [if_neg hg] at h2; omega
/-- The gap between a cell and its neighbor. -/
def gapI (w h c d : Int) : Int :=
  if nbI w h c d < 0 then -1 else if d = 1 ∨ d = 3 then (min c (nbI w h c d)) / w * (w - 1) + (min c (nbI w h c d)) % w else (w - 1) * h + min c (nbI w h c d)
/-- The ends of a gap. -/
def endsI (w h g : Int) : Int × Int :=
  if 0 ≤ g ∧ g < gapsOf w h then (if g < (w - 1) * h then (g / (w - 1) * w + g % (w - 1), g / (w - 1) * w + g % (w - 1) + 1) else (g - (w - 1) * h, g - (w - 1) * h + w)) else (-1, -1)
theorem nb_dir {w h c d : Int} (hn : 0 ≤ nbI w h c d) : (d = 0 ∨ d = 1 ∨ d = 2 ∨ d = 3) ∧ 0 ≤ c ∧ c < cellsOf w h := by
  unfold nbI at hn
  by_cases hc : 0 ≤ c ∧ c < cellsOf w h
  · rw [if_pos hc] at hn
    refine ⟨?_, hc⟩
    repeat' split at hn
    all_goals omega
  · rw [if_neg hc] at hn
    omega
theorem grid_nat {w h : Int} (hg : gridOk w h = true) : ∃ W H : Nat, w = W ∧ h = H ∧ 1 ≤ W ∧ W < 5 ∧ 1 ≤ H ∧ H < 5 := by
  have := gridOk_iff.1 hg
  exact ⟨w.toNat, h.toNat, by omega, by omega, by omega, by omega, by omega, by omega⟩
/-- What is to be known of a step: the other cell, the gap, and the way back. -/
def StepFacts (w h c d : Int) : Prop :=
  nbI w h c d = -1 ∧ gapI w h c d = -1 ∨
  (0 ≤ nbI w h c d ∧ nbI w h c d < cellsOf w h ∧ nbI w h c d ≠ c ∧ 0 ≤ gapI w h c d ∧ gapI w h c d < gapsOf w h ∧
    endsI w h (gapI w h c d) = (min c (nbI w h c d), max c (nbI w h c d)) ∧ nbI w h (nbI w h c d) ((d + 2) % 4) = c ∧ gapI w h (nbI w h c d) ((d + 2) % 4) = gapI w h c d)
instance (w h c d : Int) : Decidable (StepFacts w h c d) := by unfold StepFacts; infer_instance
theorem step_facts_all : ∀ W : Nat, W < 5 → ∀ H : Nat, H < 5 → ∀ c : Nat, c < 16 → ∀ d : Nat, d < 4 → StepFacts W H c d := by decide +kernel
theorem step_facts (w h c d : Int) : StepFacts w h c d := by
  by_cases hn : 0 ≤ nbI w h c d
  · obtain ⟨hd, h0, h1⟩ := nb_dir hn
    obtain ⟨hg, hcw⟩ := cellsOf_valid h0 h1
    obtain ⟨W, H, rfl, rfl, hW1, hW2, hH1, hH2⟩ := grid_nat hg
    have hcr := cellsOf_range (W : Int) (H : Int)
    have := step_facts_all W hW2 H hH2 c.toNat (by omega) d.toNat (by omega)
    rwa [show ((c.toNat : Nat) : Int) = c by omega, show ((d.toNat : Nat) : Int) = d by omega] at this
  · have hm : nbI w h c d = -1 := by
      unfold nbI at *
      by_cases hc : 0 ≤ c ∧ c < cellsOf w h
      · rw [if_pos hc] at *
        obtain ⟨hg, hcw⟩ := cellsOf_valid hc.1 hc.2
        have hgr := gridOk_iff.1 hg
        have hyw : c / w * w + c % w = c := by rw [Int.mul_comm]; exact Int.mul_ediv_add_emod c w
        have hx0 : 0 ≤ c % w := Int.emod_nonneg _ (by omega)
        repeat' split
        · rename_i hh
          rw [if_pos hh] at hn
          have : w ≤ c := by
            have : w * 1 ≤ w * (c / w) := Int.mul_le_mul_of_nonneg_left (by omega) (by omega)
            rw [Int.mul_comm (c / w)] at hyw
            omega
          omega
        · rename_i h1 hh
          rw [if_neg h1, if_pos hh] at hn
          omega
        · rename_i h1 h2 hh
          rw [if_neg h1, if_neg h2, if_pos hh] at hn
          omega
        · rename_i h1 h2 h3 hh
          rw [if_neg h1, if_neg h2, if_neg h3, if_pos hh] at hn
          have : 1 ≤ c := by
            have : 0 ≤ c / w * w := Int.mul_nonneg (Int.ediv_nonneg hc.1 (by omega)) (by omega)
            omega
          omega
        · rfl
      · rw [if_neg hc]
    refine .inl ⟨hm, ?_⟩
    unfold gapI
    rw [if_pos (by omega)]
def EndFacts (w h g : Int) : Prop :=
  0 ≤ g ∧ g < gapsOf w h → 0 ≤ (endsI w h g).1 ∧ (endsI w h g).1 < (endsI w h g).2 ∧ (endsI w h g).2 < cellsOf w h ∧
    (nbI w h (endsI w h g).1 1 = (endsI w h g).2 ∧ gapI w h (endsI w h g).1 1 = g ∨ nbI w h (endsI w h g).1 2 = (endsI w h g).2 ∧ gapI w h (endsI w h g).1 2 = g)
instance (w h g : Int) : Decidable (EndFacts w h g) := by unfold EndFacts; infer_instance
theorem end_facts_all : ∀ W : Nat, W < 5 → ∀ H : Nat, H < 5 → ∀ g : Nat, g < 24 → EndFacts W H g := by decide +kernel
theorem end_facts {w h g : Int} (h0 : 0 ≤ g) (h1 : g < gapsOf w h) : 0 ≤ (endsI w h g).1 ∧ (endsI w h g).1 < (endsI w h g).2 ∧ (endsI w h g).2 < cellsOf w h ∧
    (nbI w h (endsI w h g).1 1 = (endsI w h g).2 ∧ gapI w h (endsI w h g).1 1 = g ∨ nbI w h (endsI w h g).1 2 = (endsI w h g).2 ∧ gapI w h (endsI w h g).1 2 = g) := by
  obtain ⟨hg, _⟩ := gapsOf_valid h0 h1
  obtain ⟨W, H, rfl, rfl, hW1, hW2, hH1, hH2⟩ := grid_nat hg
  have hr := gapsOf_range (W : Int) (H : Int)
  have := end_facts_all W hW2 H hH2 g.toNat (by omega)
  rw [show ((g.toNat : Nat) : Int) = g by omega] at this
  exact this ⟨h0, h1⟩
theorem nb_lt {w h c d : Int} : nbI w h c d = -1 ∨ 0 ≤ nbI w h c d ∧ nbI w h c d < cellsOf w h := by
  rcases step_facts w h c d with h1 | h1
  · exact .inl h1.1
  · exact .inr ⟨h1.1, h1.2.1⟩
/-- The cell behind an open gap, or -1. -/
def stepI (w h : Int) (n : Nat) (c d : Int) : Int := if openI n (gapI w h c d) then nbI w h c d else -1
theorem step_lt {w h c d : Int} {n : Nat} : stepI w h n c d = -1 ∨ 0 ≤ stepI w h n c d ∧ stepI w h n c d < cellsOf w h := by
  unfold stepI
  split
  · exact nb_lt
  · exact .inl rfl
/-- Connected by the edges of n. -/
inductive Cn (e : Nat → Nat × Nat) (n : Nat) : Nat → Nat → Prop
  | refl (x : Nat) : Cn e n x x
  | fwd {x : Nat} (k : Nat) : n.testBit k = true → Cn e n x (e k).1 → Cn e n x (e k).2
  | bwd {x : Nat} (k : Nat) : n.testBit k = true → Cn e n x (e k).2 → Cn e n x (e k).1
theorem Cn.trans {e : Nat → Nat × Nat} {n x y z : Nat} (h : Cn e n x y) (g : Cn e n y z) : Cn e n x z := by
  induction g with
  | refl => exact h
  | fwd k hk _ ih => exact .fwd k hk ih
  | bwd k hk _ ih => exact .bwd k hk ih
theorem Cn.edge {e : Nat → Nat × Nat} {n k : Nat} (h : n.testBit k = true) : Cn e n (e k).1 (e k).2 := .fwd k h (.refl _)
theorem Cn.edge' {e : Nat → Nat × Nat} {n k : Nat} (h : n.testBit k = true) : Cn e n (e k).2 (e k).1 := .bwd k h (.refl _)
theorem Cn.symm {e : Nat → Nat × Nat} {n x y : Nat} (h : Cn e n x y) : Cn e n y x := by
  induction h with
  | refl => exact .refl _
  | fwd k hk _ ih => exact (Cn.edge' hk).trans ih
  | bwd k hk _ ih => exact (Cn.edge hk).trans ih
theorem Cn.mono {e : Nat → Nat × Nat} {n m x y : Nat} (hm : ∀ i, n.testBit i = true → m.testBit i = true) (h : Cn e n x y) : Cn e m x y := by
  induction h with
  | refl => exact .refl _
  | fwd k hk _ ih => exact .fwd k (hm k hk) ih
  | bwd k hk _ ih => exact .bwd k (hm k hk) ih
theorem Cn_add {e : Nat → Nat × Nat} {n k x y : Nat} : Cn e (setB n k true) x y ↔ Cn e n x y ∨ (Cn e n x (e k).1 ∧ Cn e n (e k).2 y) ∨ (Cn e n x (e k).2 ∧ Cn e n (e k).1 y) := by
  have hm : ∀ i, n.testBit i = true → (setB n k true).testBit i = true := fun i hi => by rw [testBit_setB]; split <;> simp [hi]
  have hk : (setB n k true).testBit k = true := by rw [testBit_setB]; simp
  constructor
  · intro h
    induction h with
    | refl => exact .inl (.refl _)
    | fwd j hj _ ih =>
      rw [testBit_setB] at hj
      by_cases e1 : j = k
      · subst e1
        rcases ih with ih | ⟨h1, h2⟩ | ⟨h1, h2⟩
        · exact .inr (.inl ⟨ih, .refl _⟩)
        · exact .inr (.inl ⟨h1, .refl _⟩)
        · exact .inl h1
      · rw [if_neg e1] at hj
        rcases ih with ih | ⟨h1, h2⟩ | ⟨h1, h2⟩
        · exact .inl (.fwd j hj ih)
        · exact .inr (.inl ⟨h1, .fwd j hj h2⟩)
        · exact .inr (.inr ⟨h1, .fwd j hj h2⟩)
    | bwd j hj _ ih =>
      rw [testBit_setB] at hj
      by_cases e1 : j = k
      · subst e1
        rcases ih with ih | ⟨h1, h2⟩ | ⟨h1, h2⟩
        · exact .inr (.inr ⟨ih, .refl _⟩)
        · exact .inl h1
        · exact .inr (.inr ⟨h1, .refl _⟩)
      · rw [if_neg e1] at hj
        rcases ih with ih | ⟨h1, h2⟩ | ⟨h1, h2⟩
        · exact .inl (.bwd j hj ih)
        · exact .inr (.inl ⟨h1, .bwd j hj h2⟩)
        · exact .inr (.inr ⟨h1, .bwd j hj h2⟩)
  · rintro (h | ⟨h1, h2⟩ | ⟨h1, h2⟩)
    · exact h.mono hm
    · exact ((h1.mono hm).trans (Cn.edge hk)).trans (h2.mono hm)
    · exact ((h1.mono hm).trans (Cn.edge' hk)).trans (h2.mono hm)
theorem Cn_zero {e : Nat → Nat × Nat} {x y : Nat} : Cn e 0 x y ↔ x = y := by
  constructor
  · intro h
    induction h with
    | refl => rfl
    | fwd k hk => simp at hk
    | bwd k hk => simp at hk
  · rintro rfl; exact .refl _
/-- The first k bits of n. -/
def low (n k : Nat) : Nat := n % 2 ^ k
theorem testBit_low (n k i : Nat) : (low n k).testBit i = (decide (i < k) && n.testBit i) := Nat.testBit_mod_two_pow ..
theorem low_all {n k : Nat} (h : n < 2 ^ k) : low n k = n := Nat.mod_eq_of_lt h
theorem low_succ_set {n k : Nat} (h : n.testBit k = true) : low n (k + 1) = setB (low n k) k true := by
  apply Nat.eq_of_testBit_eq
  intro i
  rw [testBit_setB, testBit_low, testBit_low]
  by_cases e : i = k
  · subst e; simp [h]
  · rw [if_neg e]
    congr 1
    rw [decide_eq_decide]; omega
theorem low_succ_not {n k : Nat} (h : n.testBit k = false) : low n (k + 1) = low n k := by
  apply Nat.eq_of_testBit_eq
  intro i
  rw [testBit_low, testBit_low]
  by_cases e : i = k
  · subst e; simp [h]
  · congr 1
    rw [decide_eq_decide]; omega
/-- The least vertex of the part of v, by the first k edges. -/
def lab (e : Nat → Nat × Nat) (n : Nat) : Nat → Nat → Nat
  | 0, v => v
  | k + 1, v =>
    if n.testBit k = true then
      (if lab e n k v = max (lab e n k (e k).1) (lab e n k (e k).2) then min (lab e n k (e k).1) (lab e n k (e k).2) else lab e n k v)
    else lab e n k v
theorem lab_facts (e : Nat → Nat × Nat) (n : Nat) : ∀ k, (∀ v, lab e n k v ≤ v ∧ lab e n k (lab e n k v) = lab e n k v) ∧ ∀ x y, lab e n k x = lab e n k y ↔ Cn e (low n k) x y
  | 0 => by
    refine ⟨fun v => ⟨Nat.le_refl _, rfl⟩, fun x y => ?_⟩
    have : low n 0 = 0 := by unfold low; simp [Nat.mod_one]
    rw [this, Cn_zero]
    rfl
  | k + 1 => by
    obtain ⟨h1, h2⟩ := lab_facts e n k
    cases hb : n.testBit k with
    | false =>
      simp only [lab, hb, Bool.false_eq_true, if_false]
      rw [low_succ_not hb]
      exact ⟨h1, h2⟩
    | true =>
      simp only [lab, hb, if_true]
      rw [low_succ_set hb]
      refine ⟨fun v => ?_, fun x y => ?_⟩
      · have a1 := h1 v
        have a2 := h1 (e k).1
        have a3 := h1 (e k).2
        grind
      · rw [Cn_add, ← h2, ← h2, ← h2, ← h2, ← h2]
        grind
/-- Tells whether a vertex is the least of its part. -/
theorem lab_le (e : Nat → Nat × Nat) (n k v : Nat) : lab e n k v ≤ v := ((lab_facts e n k).1 v).1
theorem lab_lab (e : Nat → Nat × Nat) (n k v : Nat) : lab e n k (lab e n k v) = lab e n k v := ((lab_facts e n k).1 v).2
theorem lab_iff {e : Nat → Nat × Nat} {n k : Nat} (hn : n < 2 ^ k) (x y : Nat) : lab e n k x = lab e n k y ↔ Cn e n x y := by
  have := (lab_facts e n k).2 x y
  rwa [low_all hn] at this
theorem lab_least {e : Nat → Nat × Nat} {n k : Nat} (hn : n < 2 ^ k) {x y : Nat} (h : Cn e n x y) : lab e n k x ≤ y := by
  rw [(lab_iff hn x y).2 h]
  exact lab_le ..
theorem lab_cn {e : Nat → Nat × Nat} {n k : Nat} (hn : n < 2 ^ k) (x : Nat) : Cn e n x (lab e n k x) := (lab_iff hn _ _).1 (lab_lab ..).symm
/-- How many of the numbers under v. -/
def cnt (p : Nat → Bool) : Nat → Nat
  | 0 => 0
  | v + 1 => cnt p v + (p v).toNat
theorem cnt_congr {p q : Nat → Bool} {v : Nat} (h : ∀ i, i < v → p i = q i) : cnt p v = cnt q v := by
  induction v with
  | zero => rfl
  | succ n ih => simp only [cnt]; rw [ih (fun i hi => h i (by omega)), h n (by omega)]
theorem cnt_le (p : Nat → Bool) (v : Nat) : cnt p v ≤ v := by
  induction v with
  | zero => simp [cnt]
  | succ n ih => simp only [cnt]; have := Bool.toNat_le (p n); omega
theorem cnt_one {p q : Nat → Bool} {v m : Nat} (hm : m < v) (h1 : p m = true) (h2 : q m = false) (h : ∀ i, i < v → i ≠ m → p i = q i) : cnt p v = cnt q v + 1 := by
  induction v with
  | zero => omega
  | succ n ih =>
    simp only [cnt]
    by_cases e : m = n
    · subst e
      rw [cnt_congr (q := q) (fun i hi => h i (by omega) (by omega)), h1, h2]
      simp
    · rw [ih (by omega) (fun i hi hne => h i (by omega) hne), h n (by omega) (fun e' => e e'.symm)]
      omega
theorem cnt_zero_iff {p : Nat → Bool} {v : Nat} : cnt p v = 0 ↔ ∀ i, i < v → p i = false := by
  induction v with
  | zero => simp [cnt]
  | succ n ih =>
    simp only [cnt]
    constructor
    · intro h i hi
      by_cases e : i = n
      · subst e
        cases hp : p i
        · rfl
        · rw [hp] at h; simp at h
      · exact ih.1 (by omega) i (by omega)
    · intro h
      rw [ih.2 (fun i hi => h i (by omega)), h n (by omega)]
      rfl
/-- The number of parts of v vertices, by k edges. -/
def parts (e : Nat → Nat × Nat) (v k n : Nat) : Nat := cnt (fun c => lab e n k c == c) v
theorem rep_iff {e : Nat → Nat × Nat} {n k : Nat} (hn : n < 2 ^ k) (c : Nat) : (lab e n k c == c) = true ↔ ∀ y, Cn e n c y → c ≤ y := by
  rw [beq_iff_eq]
  constructor
  · intro h y hy
    have := lab_least hn hy
    omega
  · intro h
    have := h _ (lab_cn hn c)
    have := lab_le e n k c
    omega
theorem parts_zero (e : Nat → Nat × Nat) (v k : Nat) : parts e v k 0 = v := by
  have : ∀ k c, lab e 0 k c = c := by
    intro k
    induction k with
    | zero => intro c; rfl
    | succ k ih => intro c; simp [lab, ih]
  unfold parts
  simp only [this, beq_self_eq_true]
  induction v with
  | zero => rfl
  | succ n ih => simp only [cnt]; rw [ih]; rfl
/-- One more edge joins two parts, or none. -/
theorem parts_add {e : Nat → Nat × Nat} {v k n j : Nat} (hn : n < 2 ^ k) (hj : j < k) (h1 : (e j).1 < v) (h2 : (e j).2 < v) :
    (Cn e n (e j).1 (e j).2 → parts e v k (setB n j true) = parts e v k n) ∧ (¬ Cn e n (e j).1 (e j).2 → parts e v k n = parts e v k (setB n j true) + 1) := by
  have hn' : setB n j true < 2 ^ k := setB_lt true hn hj
  constructor
  · intro hc
    unfold parts
    refine cnt_congr fun c hcv => ?_
    rw [Bool.eq_iff_iff, rep_iff hn, rep_iff hn']
    simp only [Cn_add]
    constructor
    · intro h y hy; exact h y (.inl hy)
    · rintro h y (hy | ⟨ha, hb⟩ | ⟨ha, hb⟩)
      · exact h y hy
      · exact h y ((ha.trans hc).trans hb)
      · exact h y ((ha.trans hc.symm).trans hb)
  · intro hc
    have hne : lab e n k (e j).1 ≠ lab e n k (e j).2 := fun h => hc ((lab_iff hn _ _).1 h)
    have l1 := lab_le e n k (e j).1
    have l2 := lab_le e n k (e j).2
    have c1 := lab_cn (e := e) hn (e j).1
    have c2 := lab_cn (e := e) hn (e j).2
    unfold parts
    refine cnt_one (m := max (lab e n k (e j).1) (lab e n k (e j).2)) (by omega) ?_ ?_ ?_
    · have := lab_lab e n k (e j).1
      have := lab_lab e n k (e j).2
      rw [beq_iff_eq]
      rcases Nat.le_total (lab e n k (e j).1) (lab e n k (e j).2) with hle | hle
      · rw [Nat.max_eq_right hle]; assumption
      · rw [Nat.max_eq_left hle]; assumption
    · rw [Bool.eq_false_iff]
      intro h
      rw [rep_iff hn'] at h
      rcases Nat.le_total (lab e n k (e j).1) (lab e n k (e j).2) with hle | hle
      · rw [Nat.max_eq_right hle] at h
        have := h (lab e n k (e j).1) (Cn_add.2 (.inr (.inr ⟨c2.symm, c1⟩)))
        omega
      · rw [Nat.max_eq_left hle] at h
        have := h (lab e n k (e j).2) (Cn_add.2 (.inr (.inl ⟨c1.symm, c2⟩)))
        omega
    · intro c hcv hcm
      rw [Bool.eq_iff_iff, rep_iff hn, rep_iff hn']
      simp only [Cn_add]
      constructor
      · rintro h y (hy | ⟨ha, hb⟩ | ⟨ha, hb⟩)
        · exact h y hy
        · have e1 : lab e n k (e j).1 = c := by
            have := h _ (ha.trans c1)
            have := lab_least (e := e) hn ha.symm
            omega
          have := lab_least (e := e) hn hb
          have := lab_le e n k c
          omega
        · have e1 : lab e n k (e j).2 = c := by
            have := h _ (ha.trans c2)
            have := lab_least (e := e) hn ha.symm
            omega
          have := lab_least (e := e) hn hb
          omega
      · intro h y hy; exact h y (.inl hy)
theorem pop_setB {m n j : Nat} (hj : j < m) (h : n.testBit j = false) : pop m (setB n j true) = pop m n + 1 := by
  induction m with
  | zero => omega
  | succ m ih =>
    simp only [pop]
    by_cases e : j = m
    · subst e
      rw [pop_congr (t := n) (fun i hi => by rw [testBit_setB, if_neg (by omega)]), testBit_setB, if_pos rfl, h]
      simp
    · rw [ih (by omega), testBit_setB, if_neg (by omega)]
      omega
theorem setB_off_on {n j : Nat} (h : n.testBit j = true) : setB (setB n j false) j true = n := by
  apply Nat.eq_of_testBit_eq
  intro i
  rw [testBit_setB, testBit_setB]
  by_cases e : i = j
  · subst e; simp [h]
  · simp [e]
theorem setB_bit (n j : Nat) (b : Bool) : (setB n j b).testBit j = b := by rw [testBit_setB, if_pos rfl]
theorem setB_ne {n j i : Nat} (b : Bool) (h : i ≠ j) : (setB n j b).testBit i = n.testBit i := by rw [testBit_setB, if_neg h]
theorem setB_same {n j : Nat} {b : Bool} (h : n.testBit j = b) : setB n j b = n := by rw [← h, setB_self]
/-- A statement over masks, from none on, an edge at a time. -/
theorem mask_induction {P : Nat → Prop} {k : Nat} (h0 : P 0) (hs : ∀ n j, n < 2 ^ k → j < k → n.testBit j = false → P n → P (setB n j true)) : ∀ n, n < 2 ^ k → P n := by
  intro n hn
  have : ∀ d, d ≤ k → P (low n d) := by
    intro d
    induction d with
    | zero => intro _; have : low n 0 = 0 := by unfold low; simp [Nat.mod_one]
              rw [this]; exact h0
    | succ d ih =>
      intro hd
      cases hb : n.testBit d with
      | false => rw [low_succ_not hb]; exact ih (by omega)
      | true =>
        rw [low_succ_set hb]
        refine hs _ _ (Nat.lt_of_le_of_lt (Nat.mod_le _ _) hn) (by omega) ?_ (ih (by omega))
        rw [testBit_low]; simp
  have := this k (Nat.le_refl k)
  rwa [low_all hn] at this
/-- A graph: the ends of its edges are vertices. -/
def Gr (e : Nat → Nat × Nat) (v k : Nat) : Prop := ∀ j, j < k → (e j).1 < v ∧ (e j).2 < v
/-- The number of loops is no number under 0. -/
theorem loops_nonneg {e : Nat → Nat × Nat} {v k : Nat} (hg : Gr e v k) : ∀ n, n < 2 ^ k → v ≤ pop k n + parts e v k n := by
  refine mask_induction ?_ ?_
  · rw [parts_zero]; omega
  · intro n j hn hj hb ih
    have hp := parts_add (e := e) hn hj (hg j hj).1 (hg j hj).2
    rw [pop_setB hj hb]
    by_cases hc : Cn e n (e j).1 (e j).2
    · rw [hp.1 hc]; omega
    · have := hp.2 hc; omega
theorem lt_of_testBit {n k j : Nat} (hn : n < 2 ^ k) (h : n.testBit j = true) : j < k := by
  rcases Nat.lt_or_ge j k with h1 | h1
  · exact h1
  · rw [Nat.testBit_lt_two_pow (Nat.lt_of_lt_of_le hn (Nat.pow_le_pow_right (by decide) h1))] at h
    cases h
/-- Taking an edge away. -/
theorem parts_del {e : Nat → Nat × Nat} {v k n j : Nat} (hg : Gr e v k) (hn : n < 2 ^ k) (hb : n.testBit j = true) :
    pop k n = pop k (setB n j false) + 1 ∧ (Cn e (setB n j false) (e j).1 (e j).2 → parts e v k (setB n j false) = parts e v k n) ∧ (¬ Cn e (setB n j false) (e j).1 (e j).2 → parts e v k (setB n j false) = parts e v k n + 1) := by
  have hj := lt_of_testBit hn hb
  have hp := parts_add (e := e) (setB_lt false hn hj) hj (hg j hj).1 (hg j hj).2
  have h2 := pop_setB (m := k) (n := setB n j false) hj (setB_bit ..)
  rw [setB_off_on hb] at hp h2
  exact ⟨h2, fun h => (hp.1 h).symm, hp.2⟩
/-- No loops: every edge is a bridge. -/
theorem bridge_of_forest {e : Nat → Nat × Nat} {v k n j : Nat} (hg : Gr e v k) (hn : n < 2 ^ k) (hf : pop k n + parts e v k n = v) (hb : n.testBit j = true) : ¬ Cn e (setB n j false) (e j).1 (e j).2 := by
  intro hc
  obtain ⟨h1, h2, _⟩ := parts_del hg hn hb
  have := h2 hc
  have := loops_nonneg hg (setB n j false) (setB_lt false hn (lt_of_testBit hn hb))
  omega
theorem parts_pos {e : Nat → Nat × Nat} {v k n : Nat} (hn : n < 2 ^ k) (hv : 0 < v) : 0 < parts e v k n := by
  rcases Nat.eq_zero_or_pos (parts e v k n) with h | h
  · have := cnt_zero_iff.1 h 0 hv
    have h0 := lab_le e n k 0
    simp at this
    omega
  · exact h
/-- One part: all are connected. -/
theorem parts_one {e : Nat → Nat × Nat} {v k n : Nat} (hn : n < 2 ^ k) (hv : 0 < v) : parts e v k n = 1 ↔ ∀ x, x < v → Cn e n 0 x := by
  have h0 : (lab e n k 0 == 0) = true := by have := lab_le e n k 0; rw [beq_iff_eq]; omega
  have hq : cnt (fun c => c == 0) v = 1 := by
    obtain ⟨v, rfl⟩ : ∃ u, v = u + 1 := ⟨v - 1, by omega⟩
    clear hv
    induction v with
    | zero => rfl
    | succ v ih => simp only [cnt] at *; rw [ih]; simp
  constructor
  · intro h x hx
    have hl := lab_lab e n k x
    have hle := lab_le e n k x
    have hxc := lab_cn (e := e) hn x
    by_cases hz : lab e n k x = 0
    · rw [hz] at hxc; exact hxc.symm
    · exfalso
      unfold parts at h
      have : 2 ≤ cnt (fun c => lab e n k c == c) v := by
        have h2 : cnt (fun c => c == 0 || c == lab e n k x) v = cnt (fun c => c == 0) v + 1 := cnt_one (m := lab e n k x) (by omega) (by simp) (by simpa using hz) (fun i hi hne => by simp [hne])
        have hmono : ∀ (p q : Nat → Bool) (u : Nat), (∀ i, p i = true → q i = true) → cnt p u ≤ cnt q u := by
          intro p q u hpq
          induction u with
          | zero => exact Nat.le_refl _
          | succ u ih =>
            simp only [cnt]
            have := hpq u
            cases hp : p u <;> cases hq : q u <;> simp_all <;> omega
        have h3 := hmono (fun c => c == 0 || c == lab e n k x) (fun c => lab e n k c == c) v (fun i hi => by
          simp at hi
          rcases hi with rfl | rfl
          · exact h0
          · simpa using hl)
        omega
      omega
  · intro h
    unfold parts
    rw [← hq]
    refine cnt_congr fun c hc => ?_
    have := lab_least hn (h c hc).symm
    rw [Bool.eq_iff_iff, beq_iff_eq, beq_iff_eq]
    constructor
    · intro h1; omega
    · rintro rfl; omega
def upd (D : Nat → Int) (y : Nat) (v : Int) : Nat → Int := fun c => if c = y then v else D c
/-- One direction of one cell. -/
def relax (s : Nat → Nat → Int) (x d : Nat) (S : (Nat → Int) × List Nat) : (Nat → Int) × List Nat :=
  if 0 ≤ s x d ∧ S.1 (s x d).toNat < 0 then (upd S.1 (s x d).toNat (S.1 x + 1), S.2 ++ [(s x d).toNat]) else S
def bround (s : Nat → Nat → Int) (x : Nat) (S : (Nat → Int) × List Nat) : (Nat → Int) × List Nat := relax s x 3 (relax s x 2 (relax s x 1 (relax s x 0 S)))
def bfsF (s : Nat → Nat → Int) : Nat → (Nat → Int) × List Nat → Nat → (Nat → Int)
  | 0, S, _ => S.1
  | f + 1, S, i => match S.2[i]? with
    | none => S.1
    | some x => bfsF s f (bround s x S) (i + 1)
/-- The distances from a cell, or -1. -/
def bfsD (s : Nat → Nat → Int) (v src : Nat) : Nat → Int := bfsF s (v + 1) (upd (fun _ => -1) src 0, [src]) 0
/-- Steps stay among v cells. -/
def Rng (s : Nat → Nat → Int) (v : Nat) : Prop := ∀ x d, x < v → d < 4 → s x d = -1 ∨ (0 ≤ s x d ∧ s x d < (v : Int))

structure BInv (s : Nat → Nat → Int) (v src : Nat) (S : (Nat → Int) × List Nat) (i : Nat) (m : Nat) : Prop where
  src0 : S.1 src = 0
  zero : ∀ c, S.1 c = 0 → c = src
  srcq : src ∈ S.2
  inr : ∀ c ∈ S.2, c < v
  nodup : S.2.Nodup
  neg : ∀ c, S.1 c = -1 ∨ 0 ≤ S.1 c
  mem : ∀ c, 0 ≤ S.1 c ↔ c ∈ S.2
  sorted : S.2.Pairwise (fun a b => S.1 a ≤ S.1 b)
  top : ∀ x, S.2[i]? = some x → ∀ c ∈ S.2, S.1 c ≤ S.1 x + 1
  done : ∀ j x, S.2[j]? = some x → ∀ d, d < 4 → (j < i ∨ (j = i ∧ d < m)) → 0 ≤ s x d → 0 ≤ S.1 (s x d).toNat ∧ S.1 (s x d).toNat ≤ S.1 x + 1
  pred : ∀ c ∈ S.2, c = src ∨ ∃ c' d, c' ∈ S.2 ∧ d < 4 ∧ s c' d = (c : Int) ∧ S.1 c = S.1 c' + 1
theorem BInv.start {s : Nat → Nat → Int} {v src : Nat} (h : src < v) : BInv s v src (upd (fun _ => -1) src 0, [src]) 0 0 where
  src0 := by simp [upd]
  zero := fun c => by simp only [upd]; split <;> simp_all
  srcq := by simp
  inr := by simpa using h
  nodup := by simp
  neg := fun c => by simp only [upd]; split <;> simp
  mem := fun c => by
    simp only [upd, List.mem_singleton]
    split
    · rename_i e; simp [e]
    · rename_i e; simp [e]
  sorted := by simp
  top := fun x hx c hc => by
    simp at hx hc
    subst hx hc
    omega
  done := fun j x hx d hd hj => by omega
  pred := fun c hc => .inl (by simpa using hc)
theorem BInv.relax {s : Nat → Nat → Int} {v src : Nat} (hs : Rng s v) {S : (Nat → Int) × List Nat} {i m x : Nat} (hm : m < 4) (hx : S.2[i]? = some x) (I : BInv s v src S i m) :
    BInv s v src (relax s x m S) i (m + 1) ∧ (relax s x m S).2[i]? = some x := by
  have hxq : x ∈ S.2 := List.mem_of_getElem? hx
  have hi : i < S.2.length := by
    rcases Nat.lt_or_ge i S.2.length with h | h
    · exact h
    · rw [List.getElem?_eq_none h] at hx; cases hx
  have hxv := I.inr x hxq
  have hx0 := (I.mem x).2 hxq
  unfold Go.Proofs.Ytoohcdfokejkdaa.P.relax
  by_cases hc : 0 ≤ s x m ∧ S.1 (s x m).toNat < 0
  · rw [if_pos hc]
    obtain ⟨y, hy⟩ : ∃ y : Nat, s x m = y := ⟨(s x m).toNat, by omega⟩
    have hyv : y < v := by have := hs x m hxv hm; omega
    rw [hy] at hc ⊢
    simp only [Int.toNat_natCast] at hc ⊢
    have hyq : y ∉ S.2 := fun h => by have := (I.mem y).2 h; omega
    have keep : ∀ c, c ∈ S.2 → upd S.1 y (S.1 x + 1) c = S.1 c := by
      intro c h
      unfold upd
      rw [if_neg]
      rintro rfl
      exact hyq h
    have uy : upd S.1 y (S.1 x + 1) y = S.1 x + 1 := by unfold upd; rw [if_pos rfl]
    have idx : ∀ j z, (S.2 ++ [y])[j]? = some z → S.2[j]? = some z ∨ (j = S.2.length ∧ z = y) := by
      intro j z h
      rcases Nat.lt_or_ge j S.2.length with h1 | h1
      · rw [List.getElem?_append_left h1] at h; exact .inl h
      · rw [List.getElem?_append_right h1] at h
        have : j - S.2.length = 0 := by
          rcases Nat.eq_zero_or_pos (j - S.2.length) with h2 | h2
          · exact h2
          · rw [List.getElem?_eq_none (by simp only [List.length_singleton]; omega)] at h; cases h
        rw [this] at h
        simp at h
        exact .inr ⟨by omega, h.symm⟩
    have I0 : ∀ c, (upd S.1 y (S.1 x + 1), S.2 ++ [y]).1 c = 0 → c = src := by
      intro c
      show upd _ _ _ c = 0 → _
      unfold upd
      split
      · intro h; omega
      · exact I.zero c
    refine ⟨{ src0 := ?_, zero := I0, srcq := ?_, inr := ?_, nodup := ?_, neg := ?_, mem := ?_, sorted := ?_, top := ?_, done := ?_, pred := ?_ }, by rw [List.getElem?_append_left hi]; exact hx⟩
    · show upd _ _ _ src = 0
      rw [keep _ I.srcq]; exact I.src0
    · exact List.mem_append_left _ I.srcq
    · intro c hcq
      rcases List.mem_append.1 hcq with h | h
      · exact I.inr c h
      · simp at h; omega
    · rw [List.nodup_append]
      refine ⟨I.nodup, by simp, ?_⟩
      intro a ha b hb hab
      simp at hb
      subst hab hb
      exact hyq ha
    · intro c
      show upd _ _ _ c = -1 ∨ 0 ≤ upd _ _ _ c
      by_cases e : c = y
      · subst e; rw [uy]; omega
      · rw [show upd S.1 y (S.1 x + 1) c = S.1 c from if_neg e]; exact I.neg c
    · intro c
      rw [List.mem_append, List.mem_singleton]
      show 0 ≤ upd _ _ _ c ↔ _
      unfold upd
      by_cases e : c = y
      · rw [if_pos e]; exact ⟨fun _ => .inr e, fun _ => by omega⟩
      · rw [if_neg e, I.mem]; simp [e]
    · rw [List.pairwise_append]
      refine ⟨I.sorted.imp_of_mem fun {a b} ha hb h => ?_, by simp, ?_⟩
      · show upd _ _ _ a ≤ upd _ _ _ b
        rw [keep a ha, keep b hb]; exact h
      · intro a ha b hb
        simp at hb
        subst hb
        show upd _ _ _ a ≤ upd _ _ _ b
        rw [keep a ha, uy]
        exact I.top x hx a ha
    · intro z hz c hcq
      rw [List.getElem?_append_left hi, hx] at hz
      obtain rfl := Option.some.inj hz
      show upd _ _ _ c ≤ upd _ _ _ x + 1
      rw [keep x hxq]
      rcases List.mem_append.1 hcq with h | h
      · rw [keep c h]; exact I.top x hx c h
      · simp at h; subst h; rw [uy]; omega
    · intro j z hz d hd hj h0
      rcases idx j z hz with h | ⟨h, _⟩
      · have hzq : z ∈ S.2 := List.mem_of_getElem? h
        show 0 ≤ upd _ _ _ _ ∧ upd _ _ _ _ ≤ upd _ _ _ z + 1
        rw [keep z hzq]
        by_cases e : j = i ∧ d = m
        · obtain ⟨rfl, rfl⟩ := e
          rw [hx] at h
          obtain rfl := Option.some.inj h
          rw [hy, Int.toNat_natCast, uy]
          omega
        · have := I.done j z h d hd (by omega) h0
          have h1 := (I.mem _).1 this.1
          rw [keep _ h1]
          exact this
      · omega
    · intro c hcq
      rcases List.mem_append.1 hcq with h | h
      · rcases I.pred c h with h1 | ⟨c', d, h1, h2, h3, h4⟩
        · exact .inl h1
        · refine .inr ⟨c', d, List.mem_append_left _ h1, h2, h3, ?_⟩
          show upd _ _ _ c = upd _ _ _ c' + 1
          rw [keep c h, keep c' h1]; exact h4
      · simp at h
        subst h
        refine .inr ⟨x, m, List.mem_append_left _ hxq, hm, hy, ?_⟩
        show upd _ _ _ c = upd _ _ _ x + 1
        rw [uy, keep x hxq]
  · rw [if_neg hc]
    refine ⟨{ I with done := ?_ }, hx⟩
    intro j z hz d hd hj h0
    by_cases e : j = i ∧ d = m
    · obtain ⟨rfl, rfl⟩ := e
      rw [hx] at hz
      obtain rfl := Option.some.inj hz
      have h1 : 0 ≤ S.1 (s x d).toNat := by
        have := I.neg (s x d).toNat
        omega
      exact ⟨h1, I.top x hx _ ((I.mem _).1 h1)⟩
    · exact I.done j z hz d hd (by omega) h0
theorem BInv.next {s : Nat → Nat → Int} {v src : Nat} {S : (Nat → Int) × List Nat} {i x : Nat} (hx : S.2[i]? = some x) (I : BInv s v src S i 4) : BInv s v src S (i + 1) 0 :=
  { I with
    top := fun z hz c hc => by
      have h1 := I.top x hx c hc
      have h2 := List.pairwise_iff_getElem.1 I.sorted i (i + 1)
      obtain ⟨a, rfl⟩ := List.getElem?_eq_some_iff.1 hx
      obtain ⟨b, rfl⟩ := List.getElem?_eq_some_iff.1 hz
      have := h2 a b (by omega)
      omega
    done := fun j z hz d hd hj h0 => I.done j z hz d hd (by omega) h0 }
theorem BInv.round {s : Nat → Nat → Int} {v src : Nat} (hs : Rng s v) {S : (Nat → Int) × List Nat} {i x : Nat} (hx : S.2[i]? = some x) (I : BInv s v src S i 0) : BInv s v src (bround s x S) (i + 1) 0 := by
  obtain ⟨I1, h1⟩ := I.relax hs (by omega) hx
  obtain ⟨I2, h2⟩ := I1.relax hs (by omega) h1
  obtain ⟨I3, h3⟩ := I2.relax hs (by omega) h2
  obtain ⟨I4, h4⟩ := I3.relax hs (by omega) h3
  exact I4.next h4
theorem nodup_len {v : Nat} : ∀ {q : List Nat}, q.Nodup → (∀ c ∈ q, c < v) → q.length ≤ v := by
  induction v with
  | zero =>
    intro q _ h
    cases q with
    | nil => simp
    | cons a l => have := h a (by simp); omega
  | succ v ih =>
    intro q hn h
    have h1 := ih (q := q.erase v) (hn.erase v) (fun c hc => by
      have h1 := h c (List.mem_of_mem_erase hc)
      have : c ≠ v := by rintro rfl; exact absurd hc (List.Nodup.not_mem_erase hn)
      omega)
    have h2 := List.length_erase (a := v) (l := q)
    split at h2 <;> omega
theorem BInv.len {s : Nat → Nat → Int} {v src : Nat} {S : (Nat → Int) × List Nat} {i m : Nat} (I : BInv s v src S i m) : S.2.length ≤ v := nodup_len I.nodup I.inr
/-- What distances are. -/
structure Dist (s : Nat → Nat → Int) (v src : Nat) (D : Nat → Int) : Prop where
  src0 : D src = 0
  zero : ∀ c, D c = 0 → c = src
  neg : ∀ c, D c = -1 ∨ 0 ≤ D c
  inr : ∀ c, 0 ≤ D c → c < v
  lip : ∀ x d, d < 4 → 0 ≤ D x → 0 ≤ s x d → 0 ≤ D (s x d).toNat ∧ D (s x d).toNat ≤ D x + 1
  pred : ∀ c, 0 < D c → ∃ c' d, d < 4 ∧ s c' d = (c : Int) ∧ 0 ≤ D c' ∧ D c = D c' + 1
theorem BInv.dist {s : Nat → Nat → Int} {v src : Nat} {S : (Nat → Int) × List Nat} {i : Nat} (hi : S.2[i]? = none) (I : BInv s v src S i 0) : Dist s v src S.1 where
  src0 := I.src0
  zero := I.zero
  neg := I.neg
  inr := fun c h => I.inr c ((I.mem c).1 h)
  lip := fun x d hd hx h0 => by
    obtain ⟨j, hj⟩ := List.mem_iff_getElem?.1 ((I.mem x).1 hx)
    refine I.done j x hj d hd (.inl ?_) h0
    rcases Nat.lt_or_ge j i with h | h
    · exact h
    · rw [List.getElem?_eq_none_iff] at hi
      rw [List.getElem?_eq_none (by omega)] at hj
      cases hj
  pred := fun c h => by
    rcases I.pred c ((I.mem c).1 (by omega)) with h1 | ⟨c', d, h1, h2, h3, h4⟩
    · rw [h1, I.src0] at h; omega
    · exact ⟨c', d, h2, h3, (I.mem c').2 h1, h4⟩
theorem bfsF_dist {s : Nat → Nat → Int} {v src : Nat} (hs : Rng s v) : ∀ (f : Nat) (S : (Nat → Int) × List Nat) (i : Nat), BInv s v src S i 0 → i ≤ S.2.length → v + 1 - i ≤ f → Dist s v src (bfsF s f S i)
  | 0, S, i, I, hi, hf => by have := I.len; omega
  | f + 1, S, i, I, hi, hf => by
    simp only [bfsF]
    cases h : S.2[i]? with
    | none => exact I.dist h
    | some x =>
      have I2 := I.round hs h
      have hl : S.2.length ≤ (bround s x S).2.length := by
        have h1 : ∀ m T, T.2.length ≤ (Go.Proofs.Ytoohcdfokejkdaa.P.relax s x m T).2.length := by
          intro m T
          unfold Go.Proofs.Ytoohcdfokejkdaa.P.relax
          split <;> simp
        exact Nat.le_trans (h1 0 S) (Nat.le_trans (h1 1 _) (Nat.le_trans (h1 2 _) (h1 3 _)))
      have h2 := (List.getElem?_eq_some_iff.1 h).1
      exact bfsF_dist hs f _ (i + 1) I2 (by omega) (by omega)
theorem bfsD_dist {s : Nat → Nat → Int} {v src : Nat} (hs : Rng s v) (h : src < v) : Dist s v src (bfsD s v src) := bfsF_dist hs _ _ 0 (BInv.start h) (by simp) (by omega)
/-- Steps are the edges of n. -/
structure Net (s : Nat → Nat → Int) (e : Nat → Nat × Nat) (v n : Nat) : Prop where
  rng : Rng s v
  edge : ∀ x d, x < v → d < 4 → 0 ≤ s x d → ∃ k, n.testBit k = true ∧ (e k = (x, (s x d).toNat) ∨ e k = ((s x d).toNat, x))
  lt : ∀ k, n.testBit k = true → (e k).1 < v ∧ (e k).2 < v
  fwd : ∀ k, n.testBit k = true → ∃ d, d < 4 ∧ s (e k).1 d = ((e k).2 : Int)
  bwd : ∀ k, n.testBit k = true → ∃ d, d < 4 ∧ s (e k).2 d = ((e k).1 : Int)
theorem Dist.cn {s : Nat → Nat → Int} {e : Nat → Nat × Nat} {v n src : Nat} {D : Nat → Int} (N : Net s e v n) (I : Dist s v src D) (c : Nat) : 0 ≤ D c ↔ Cn e n src c := by
  constructor
  · intro h
    obtain ⟨m, hm⟩ : ∃ m : Nat, D c = m := ⟨(D c).toNat, by omega⟩
    clear h
    induction m using Nat.strongRecOn generalizing c with
    | _ m ih =>
      by_cases h0 : 0 < D c
      · obtain ⟨c', d, hd, h1, h2, h3⟩ := I.pred c h0
        have := ih (D c').toNat (by omega) c' (by omega)
        obtain ⟨k, hk, hk2⟩ := N.edge c' d (I.inr _ h2) hd (by omega)
        rw [h1] at hk2
        simp only [Int.toNat_natCast] at hk2
        rcases hk2 with h | h
        · have e1 := Cn.edge (e := e) hk
          rw [h] at e1
          exact this.trans e1
        · have e1 := Cn.edge' (e := e) hk
          rw [h] at e1
          exact this.trans e1
      · rw [I.zero c (by omega)]
        exact .refl _
  · intro h
    induction h with
    | refl => rw [I.src0]; omega
    | fwd k hk _ ih =>
      obtain ⟨d, hd, h1⟩ := N.fwd k hk
      have := I.lip _ d hd ih (by omega)
      rw [h1] at this
      simpa using this.1
    | bwd k hk _ ih =>
      obtain ⟨d, hd, h1⟩ := N.bwd k hk
      have := I.lip _ d hd ih (by omega)
      rw [h1] at this
      simpa using this.1
def cellsN (w h : Int) : Nat := (cellsOf w h).toNat
theorem cellsN_cast (w h : Int) : ((cellsN w h : Nat) : Int) = cellsOf w h := by have := cellsOf_range w h; unfold cellsN; omega
theorem cellsN_le (w h : Int) : cellsN w h ≤ 16 := by have := cellsOf_range w h; unfold cellsN; omega
def ends (w h : Int) (g : Nat) : Nat × Nat := ((endsI w h g).1.toNat, (endsI w h g).2.toNat)
def st (w h : Int) (n : Nat) (c d : Nat) : Int := stepI w h n c d
theorem ends_facts {w h : Int} {g : Nat} (hg : g < gapsN w h) : endsI w h g = (((ends w h g).1 : Int), ((ends w h g).2 : Int)) ∧ (ends w h g).1 < (ends w h g).2 ∧ (ends w h g).2 < cellsN w h := by
  have hc := gapsN_cast w h
  have hc2 := cellsN_cast w h
  obtain ⟨h1, h2, h3, _⟩ := end_facts (w := w) (h := h) (g := g) (by omega) (by omega)
  unfold ends
  refine ⟨?_, by simp only; omega, by simp only; omega⟩
  apply Prod.ext
  · simp only; omega
  · simp only; omega
theorem gr_grid (w h : Int) : Gr (ends w h) (cellsN w h) (gapsN w h) := fun g hg => by
  have := ends_facts hg
  omega
theorem step_open {w h : Int} {n : Nat} {c d : Int} (hn : n < 2 ^ gapsN w h) (h0 : 0 ≤ stepI w h n c d) : ∃ g : Nat, g < gapsN w h ∧ gapI w h c d = g ∧ n.testBit g = true ∧ stepI w h n c d = nbI w h c d ∧ endsI w h g = (min c (nbI w h c d), max c (nbI w h c d)) := by
  have hc := gapsN_cast w h
  unfold stepI at *
  by_cases ho : openI n (gapI w h c d) = true
  · rw [if_pos ho] at *
    rcases step_facts w h c d with ⟨h1, _⟩ | ⟨h1, h2, h3, h4, h5, h6, _⟩
    · omega
    · refine ⟨(gapI w h c d).toNat, by omega, by omega, ?_, rfl, ?_⟩
      · unfold openI at ho
        simp only [Bool.and_eq_true] at ho
        exact ho.2
      · rw [show (((gapI w h c d).toNat : Nat) : Int) = gapI w h c d by omega]; exact h6
  · rw [if_neg ho] at h0; omega
theorem net_grid {w h : Int} {n : Nat} (hn : n < 2 ^ gapsN w h) : Net (st w h n) (ends w h) (cellsN w h) n where
  rng := fun x d _ _ => by
    have := cellsN_cast w h
    unfold st
    rcases step_lt (w := w) (h := h) (c := x) (d := d) (n := n) with h1 | h1
    · exact .inl h1
    · exact .inr (by omega)
  edge := fun x d hx hd h0 => by
    unfold st at *
    obtain ⟨g, h1, h2, h3, h4, h5⟩ := step_open hn h0
    refine ⟨g, h3, ?_⟩
    unfold ends
    rw [h5, h4]
    rw [h4] at h0
    rcases Int.le_total x (nbI w h x d) with hl | hl
    · left
      rw [Int.min_eq_left hl, Int.max_eq_right hl]; rfl
    · right
      rw [Int.min_eq_right hl, Int.max_eq_left hl]; rfl
  lt := fun k hk => by
    have := ends_facts (lt_of_testBit hn hk)
    omega
  fwd := fun k hk => by
    have hkg := lt_of_testBit hn hk
    have hc := gapsN_cast w h
    obtain ⟨e1, e2, e3⟩ := ends_facts hkg
    obtain ⟨_, _, _, h4⟩ := end_facts (w := w) (h := h) (g := k) (by omega) (by omega)
    rw [e1] at h4
    simp only at h4
    have ho : openI n (k : Int) = true := by unfold openI; simp [hk]
    rcases h4 with ⟨a, b⟩ | ⟨a, b⟩
    · exact ⟨1, by omega, by unfold st stepI; rw [show ((1 : Nat) : Int) = 1 from rfl, b, if_pos ho, a]⟩
    · exact ⟨2, by omega, by unfold st stepI; rw [show ((2 : Nat) : Int) = 2 from rfl, b, if_pos ho, a]⟩
  bwd := fun k hk => by
    have hkg := lt_of_testBit hn hk
    have hc := gapsN_cast w h
    obtain ⟨e1, e2, e3⟩ := ends_facts hkg
    obtain ⟨_, _, _, h4⟩ := end_facts (w := w) (h := h) (g := k) (by omega) (by omega)
    rw [e1] at h4
    simp only at h4
    have ho : openI n (k : Int) = true := by unfold openI; simp [hk]
    rcases h4 with ⟨a, b⟩ | ⟨a, b⟩
    · rcases step_facts w h (ends w h k).1 1 with ⟨q, _⟩ | ⟨q1, q2, q3, q4, q5, q6, q7, q8⟩
      · omega
      · rw [a] at q7 q8
        exact ⟨3, by omega, by unfold st stepI; rw [show ((3 : Nat) : Int) = (1 + 2) % 4 from rfl, q8, b, if_pos ho, q7]⟩
    · rcases step_facts w h (ends w h k).1 2 with ⟨q, _⟩ | ⟨q1, q2, q3, q4, q5, q6, q7, q8⟩
      · omega
      · rw [a] at q7 q8
        exact ⟨0, by omega, by unfold st stepI; rw [show ((0 : Nat) : Int) = (2 + 2) % 4 from rfl, q8, b, if_pos ho, q7]⟩
/-- The distance from a cell, or -1. -/
def distN (w h : Int) (n s : Nat) : Nat → Int := bfsD (st w h n) (cellsN w h) s
theorem distN_dist {w h : Int} {n s : Nat} (hn : n < 2 ^ gapsN w h) (hs : s < cellsN w h) : Dist (st w h n) (cellsN w h) s (distN w h n s) := bfsD_dist (net_grid hn).rng hs
theorem distN_cn {w h : Int} {n s : Nat} (hn : n < 2 ^ gapsN w h) (hs : s < cellsN w h) (c : Nat) : 0 ≤ distN w h n s c ↔ Cn (ends w h) n s c := (distN_dist hn hs).cn (net_grid hn) c
def sumTo : Nat → (Nat → Int) → Int
  | 0, _ => 0
  | n + 1, f => sumTo n f + f n
theorem sumTo_congr {n : Nat} {f g : Nat → Int} (h : ∀ i, i < n → f i = g i) : sumTo n f = sumTo n g := by
  induction n with
  | zero => rfl
  | succ n ih => simp only [sumTo]; rw [ih (fun i hi => h i (by omega)), h n (by omega)]
theorem sumTo_zero {n : Nat} {f : Nat → Int} (h : ∀ i, i < n → f i = 0) : sumTo n f = 0 := by
  induction n with
  | zero => rfl
  | succ n ih => simp only [sumTo]; rw [ih (fun i hi => h i (by omega)), h n (by omega)]; rfl
/-- Two sums that differ at one place. -/
theorem sumTo_one {n : Nat} {f g : Nat → Int} {k : Nat} (hk : k < n) (h : ∀ i, i < n → i ≠ k → g i = f i) : sumTo n g = sumTo n f + (g k - f k) := by
  induction n with
  | zero => omega
  | succ n ih =>
    simp only [sumTo]
    by_cases e : k = n
    · subst e
      rw [sumTo_congr (fun i hi => h i (by omega) (by omega))]
      omega
    · rw [ih (by omega) (fun i hi hne => h i (by omega) hne), h n (by omega) (fun e' => e e'.symm)]
      omega
/-- s without k. -/
def del (s k : Nat) : Nat := andNot s (2 ^ k)
theorem testBit_del (s k i : Nat) : (del s k).testBit i = (s.testBit i && decide (i ≠ k)) := by
  unfold del
  rw [testBit_andNot, Nat.testBit_two_pow]
  by_cases h : i = k
  · simp [h]
  · simp [h, show ¬ k = i from fun e => h e.symm]
theorem del_le (s k : Nat) : del s k ≤ s := andNot_le _ _
theorem del_lt {s k : Nat} (h : s.testBit k = true) : del s k < s := by
  refine Nat.lt_of_le_of_ne (del_le s k) fun e => ?_
  have := testBit_del s k k
  rw [e, h] at this
  simp at this
theorem pop_del {n s k : Nat} (hk : k < n) (h : s.testBit k = true) : pop n s = pop n (del s k) + 1 := by
  induction n with
  | zero => omega
  | succ n ih =>
    simp only [pop]
    by_cases e : k = n
    · subst e
      rw [testBit_del, h, pop_congr (s := del s k) (t := s) (fun i hi => by rw [testBit_del]; simp; omega)]
      simp
    · rw [ih (by omega), testBit_del]
      simp [show ¬ n = k from fun e' => e e'.symm]
      omega
/-- How many of s stand above k, under n. -/
def above (n s k : Nat) : Nat := pop n (s / 2 ^ (k + 1))
/-- 1, or -1 for an odd number. -/
def sgn (c : Nat) : Int := if c % 2 = 0 then 1 else -1
theorem sgn_succ (c : Nat) : sgn (c + 1) = -sgn c := by
  unfold sgn
  by_cases h : c % 2 = 0
  · rw [if_pos h, if_neg (by omega)]
  · rw [if_neg h, if_pos (by omega)]; rfl
/-- The determinant of the first r rows, over the columns of s. -/
def Dn (a : Nat → Nat → Int) (n : Nat) : Nat → Nat → Int
  | 0, _ => 1
  | r + 1, s => sumTo n fun k => if s.testBit k then sgn (above n s k) * a r k * Dn a n r (del s k) else 0
/-- The determinant of as many rows as s has columns. -/
def Ds (a : Nat → Nat → Int) (n s : Nat) : Int := Dn a n (pop n s) s
def term (a : Nat → Nat → Int) (n s k : Nat) : Int := sgn (above n s k) * a (pop n s - 1) k * Ds a n (del s k)
theorem Ds_sum {a : Nat → Nat → Int} {n s : Nat} (h : pop n s ≠ 0) : Ds a n s = sumTo n fun k => if s.testBit k then term a n s k else 0 := by
  unfold Ds
  obtain ⟨r, hr⟩ : ∃ r, pop n s = r + 1 := ⟨pop n s - 1, by omega⟩
  rw [hr]
  simp only [Dn]
  refine sumTo_congr fun k hk => ?_
  by_cases hb : s.testBit k = true
  · rw [if_pos hb, if_pos hb]
    unfold term Ds
    rw [pop_del hk hb] at hr
    rw [pop_del hk hb, show pop n (del s k) = r by omega]
    rfl
  · rw [if_neg hb, if_neg hb]
theorem pop_ne {n s : Nat} (hs : s < 2 ^ n) (h0 : s ≠ 0) : pop n s ≠ 0 := by
  intro h
  apply h0
  apply Nat.eq_of_testBit_eq
  intro i
  rw [Nat.zero_testBit]
  by_cases hi : i < n
  · cases hb : s.testBit i
    · rfl
    · have := pop_del hi hb; omega
  · exact Nat.testBit_lt_two_pow (Nat.lt_of_lt_of_le hs (Nat.pow_le_pow_right (by decide) (by omega)))
theorem Ds_zero (a : Nat → Nat → Int) (n : Nat) : Ds a n 0 = 1 := by
  unfold Ds
  rw [show pop n 0 = 0 from by rw [pop_big (n := 0) (by decide) (by omega)]; rfl]
  rfl
theorem pop_full (n : Nat) : pop n (2 ^ n - 1) = n := by
  have : ∀ m, m ≤ n → pop m (2 ^ n - 1) = m := by
    intro m
    induction m with
    | zero => intro _; rfl
    | succ m ih =>
      intro h
      simp only [pop]
      rw [ih (by omega), Nat.testBit_two_pow_sub_one]
      simp
      omega
  exact this n (Nat.le_refl n)
end Go.Proofs.Ytoohcdfokejkdaa.P
