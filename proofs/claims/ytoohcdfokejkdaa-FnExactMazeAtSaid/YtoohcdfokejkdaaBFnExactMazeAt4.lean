/- The statement FnExactMazeAt of the seat, out of its plain form (FnExactMazeAt_pure) and the walk of its Go function. Part 4 of 6: each Go function's walk, then the plain lemmas, then the row. No condition: it holds for every input. -/
import Derived.Test.YtoohcdfokejkdaaBFnExactMazeAt3
namespace Go.Proofs.Ytoohcdfokejkdaa.P
open Go.RowKit Go.Proofs.YtoohcdfokejkdaaW.PrintWords Go.Proofs.YtoohcdfokejkdaaW.PrintLast Go.Proofs.YtoohcdfokejkdaaW.PrintMore
attribute [local go_sem] max2_int min2_int max_two min_two max_three min_three max_four min_four   -- for this text's walks alone
set_option linter.unusedVariables false
set_option linter.unusedSimpArgs false

/-! ### spec_l11Trees: function 86 -/
mutual
def spec_l11Trees.l0 : Nat → List (List Int) → Int → List (List Int) → Int → Option (Int)
  | 0, _, _, _, _ => none
  | k + 1, x0, x3, x4, x5 => if x5 < x3 then ((some (([] : List Int) : List Int)).bind fun y104 => (if 0 ≤ x5 then (if x5 < (x0.length : Int) then (if y104.length + (rd_L2 x0 x5).length < 17592186044416 then (if x4.length < 5864062014805 then (spec_l11Trees.l0 k x0 x3 (x4 ++ [(y104 ++ (rd_L2 x0 x5))]) (wrap64 (x5 + 1))) else (none)) else (none)) else (none)) else (none))) else (spec_l11Trees.l1 k x3 x4 1 0)
def spec_l11Trees.l1 : Nat → Int → List (List Int) → Int → Int → Option (Int)
  | 0, _, _, _, _ => none
  | k + 1, x3, x4, x6, x7 => if x7 < (wrap64 (x3 - 1)) then (if 0 ≤ x7 then (if x7 < (x4.length : Int) then (if x7 < ((rd_L2 x4 x7).length : Int) then (if (rd (rd_L2 x4 x7) x7) = 0 then (some 0) else (spec_l11Trees.l2 k x3 x4 x6 x7 (wrap64 (x7 + 1)))) else (none)) else (none)) else (none)) else (if x3 = 0 then (some 1) else (if 0 ≤ (wrap64 (x3 - 1)) then (if (wrap64 (x3 - 1)) < (x4.length : Int) then (if (wrap64 (x3 - 1)) < ((rd_L2 x4 (wrap64 (x3 - 1))).length : Int) then (some (rd (rd_L2 x4 (wrap64 (x3 - 1))) (wrap64 (x3 - 1)))) else (none)) else (none)) else (none)))
def spec_l11Trees.l2 : Nat → Int → List (List Int) → Int → Int → Int → Option (Int)
  | 0, _, _, _, _, _ => none
  | k + 1, x3, x4, x6, x7, x8 => if x8 < x3 then (spec_l11Trees.l3 k x3 x4 x6 x7 x8 (wrap64 (x7 + 1))) else (if 0 ≤ x7 then (if x7 < (x4.length : Int) then (if x7 < ((rd_L2 x4 x7).length : Int) then (spec_l11Trees.l1 k x3 x4 (rd (rd_L2 x4 x7) x7) (wrap64 (x7 + 1))) else (none)) else (none)) else (none))
def spec_l11Trees.l3 : Nat → Int → List (List Int) → Int → Int → Int → Int → Option (Int)
  | 0, _, _, _, _, _, _ => none
  | k + 1, x3, x4, x6, x7, x8, x9 => if x9 < x3 then (if 0 ≤ x8 then (if x8 < (x4.length : Int) then (if 0 ≤ x9 then (if x9 < ((rd_L2 x4 x8).length : Int) then (if 0 ≤ x7 then (if x7 < (x4.length : Int) then (if x7 < ((rd_L2 x4 x7).length : Int) then (if x7 < ((rd_L2 x4 x8).length : Int) then (if x9 < ((rd_L2 x4 x7).length : Int) then (if x6 = 0 then (none) else (spec_l11Trees.l3 k x3 (x4.set (x8 : Int).toNat ((rd_L2 x4 x8).set (x9 : Int).toNat (wrap64 (Int.tdiv (wrap64 ((wrap64 ((rd (rd_L2 x4 x8) x9) * (rd (rd_L2 x4 x7) x7))) - (wrap64 ((rd (rd_L2 x4 x8) x7) * (rd (rd_L2 x4 x7) x9))))) x6)))) x6 x7 x8 (wrap64 (x9 + 1)))) else (none)) else (none)) else (none)) else (none)) else (none)) else (none)) else (none)) else (none)) else (none)) else (spec_l11Trees.l2 k x3 x4 x6 x7 (wrap64 (x8 + 1)))
end
def spec_l11Trees.f (k : Nat) (l0 : List (List Int)) : Option (Int) := spec_l11Trees.l0 k l0 (l0.length : Int) (([] : List (List Int))) 0
def spec_l11Trees.T19 : Bool × List (List Nat × List Nat) := (true, [([], []), ([], []), ([0, 1], [0, 1]), ([2], [2]), ([], []), ([], []), ([], []), ([5, 6], [5, 6]), ([7], [7]), ([], []), ([8, 9], [8, 9]), ([10], [10]), ([], []), ([], []), ([12, 13], [12, 13]), ([14], [14]), ([], []), ([15, 16], [15, 16]), ([17], [17]), ([11, 18], [11, 18]), ([], []), ([], []), ([20, 21], [20, 21]), ([22], [22]), ([], []), ([23, 24], [23, 24]), ([25], [25]), ([], []), ([], []), ([27, 28], [27, 28]), ([29], [29]), ([], []), ([30, 31], [30, 31]), ([32], [32]), ([26, 33], [26, 33]), ([19, 34], [19, 34]), ([], []), ([35, 36], [35, 36]), ([3, 4, 0, 1, 2, 3, 4, 5, 6, 7, 8, 9, 10, 11, 12, 13, 14, 15, 16, 17, 18, 19, 20, 21, 22, 23, 24, 25, 26, 27, 28, 29, 30, 31, 32, 33, 34, 35, 36, 37], [3, 4]), ([38, 37, 0, 1, 2, 3, 4, 5, 6, 7, 8, 9, 10, 11, 12, 13, 14, 15, 16, 17, 18, 19, 20, 21, 22, 23, 24, 25, 26, 27, 28, 29, 30, 31, 32, 33, 34, 35, 36, 37], [37, 38])])
def spec_l11Trees.B19 : List Nat := [0, 0, 3, 7, 0, 0, 0, 96, 224, 0, 992, 2016, 0, 0, 12288, 28672, 0, 126976, 258048, 524256, 0, 0, 3145728, 7340032, 0, 32505856, 66060288, 0, 0, 402653184, 939524096, 0, 4160749568, 8455716864, 17178820608, 34359738336, 0, 137438953440, 274877906943, 549755813887]
theorem spec_l11Trees.tab19 : rtab .any (opsOf Try.f86 19) = spec_l11Trees.T19 := by kernel_rfl
theorem spec_l11Trees.bits19 : waitsOk spec_l11Trees.T19.2 spec_l11Trees.B19 = true := by kernel_rfl
set_option maxHeartbeats 8000000 in
set_option maxRecDepth 100000 in
theorem spec_l11Trees.calls (k : Nat) (A0 : Option Addr) (c0 : Nat) (l0 : List (List Int)) (r : Int) (w : World) (hr0 : Kd.C (Kd.slice 3 (Kd.int .i64)) w A0 l0.length l0) (hc0 : l0.length ≤ c0) (h : spec_l11Trees.f k l0 = some r) :
    Calls Try.prog 86 #[.slice A0 l0.length c0] w fun e w' => e = .returned (.int .i64 r) ∧ Below w.heap.size w w' := by
  have HR0 := Aside0.mk hr0
  have HC0 := Aside0.mk hc0
  clear hr0 hc0
  have HB := Aside0.mk (Below.refl w.heap.size w)
  have H : (spec_l11Trees.l0 k l0 (l0.length : Int) (([] : List (List Int))) 0) = some r := h
  clear h
  obtain ⟨y101, hy101⟩ : ∃ y_ : List (List Int), y_ = (([] : List (List Int))) := ⟨_, rfl⟩
  replace H : (spec_l11Trees.l0 k l0 (l0.length : Int) y101 0) = some r := by (rw [hy101]; with_reducible exact H)
  have Ny101 := Aside0.mk hy101
  clear hy101
  have H' := Aside0.mk H
  clear H
  go_enter Try.func86, Try.ntmps86
  go_wp2_with (((with_reducible refine gate_dst (N := 12) rfl ?_); refine Kd.S_lit (Kd.slice 3 (Kd.int .i64)) _ 29 ?hg (N := 12) ?hd (xs := ([] : List (List Int))) (inner := []) (ok := fun _ => True) (okp := fun _ => True) ?hr ?hp (fun _ hk => hk) trivial (Below.refl _ _) (Nat.le_refl _) (by simp) ?_; (case hd => rfl); (case hg => rfl); (case hr => (go_simp; done)); (case hp => exact (Reps.none _ _)); intro v102 w2 ho3 hb hg_ hnew_; clear hg_ hnew_; (rw [← Ny101.out] at ho3); have n0_ := Aside0.mk (Kd.S_lower ho3 (below_size HB.out)); have n1_ := Aside0.mk (below_step HB.out hb); clear HB; have HO103 := n0_; have HB := n1_; clear n0_ n1_; clear hb ho3))
  go_loopg [4, 5] k (fun kq v4 v5 w' => ∃ (x4_1 : List (List Int)) (x5_1 : Int), v5 = .int .i64 x5_1 ∧ Aside0 (spec_l11Trees.l0 kq l0 (l0.length : Int) x4_1 x5_1 = some r) ∧ Aside0 (kq ≤ k) ∧ Aside0 (Kd.S (Kd.slice 3 (Kd.int .i64)) 29 w' w.heap.size (fun _ => True) v4 x4_1) ∧ Aside0 (Below w.heap.size w w'))
  case atStart => exact ⟨(y101), (0), (by rfl), H', ⟨Nat.le_refl _⟩, ⟨by exact HO103.out⟩, ⟨by repeat ((with_reducible exact HB.out))⟩⟩
  case round =>
    clear H'; try clear p2
    obtain ⟨x4_1, x5_1, rfl, HA, HK1, HO_4, HB⟩ := hrel
    cases gk with
    | zero => exact absurd HA.out (by simp [spec_l11Trees.l0])
    | succ k1 =>
      have H := HA.out
      clear HA
      simp only [spec_l11Trees.l0] at H
      by_cases c4 : x5_1 < (l0.length : Int)
      · rw [if_pos c4] at H
        have c4b0 : decide (x5_1 < (l0.length : Int)) = true := decide_eq_true c4
        clear c4
        obtain ⟨y104, hy104⟩ : ∃ y_ : List Int, y_ = (([] : List Int)) := ⟨_, rfl⟩
        replace H : (if 0 ≤ x5_1 then (if x5_1 < (l0.length : Int) then (if y104.length + (rd_L2 l0 x5_1).length < 17592186044416 then (if x4_1.length < 5864062014805 then (spec_l11Trees.l0 k1 l0 (l0.length : Int) (x4_1 ++ [(y104 ++ (rd_L2 l0 x5_1))]) (wrap64 (x5_1 + 1))) else (none)) else (none)) else (none)) else (none)) = some r := by (have H2_ := (Option.bind_some _ _).symm.trans H; rw [hy104]; with_reducible exact H2_)
        have Ny104 := Aside0.mk hy104
        clear hy104
        replace H := iN_ H; obtain ⟨c5, H⟩ := H
        have c5b0 : decide (0 ≤ x5_1) = true := decide_eq_true c5
        clear c5
        replace H := iN_ H; obtain ⟨c6, H⟩ := H
        have c6b0 : decide (x5_1 < (l0.length : Int)) = true := decide_eq_true c6
        clear c6
        replace H := iN_ H; obtain ⟨c7, H⟩ := H
        have LMc7 := Aside0.mk c7
        clear c7
        obtain ⟨y108, hy108⟩ : ∃ y_ : List Int, y_ = (y104 ++ (rd_L2 l0 x5_1)) := ⟨_, rfl⟩
        replace H : (if x4_1.length < 5864062014805 then (spec_l11Trees.l0 k1 l0 (l0.length : Int) (x4_1 ++ [y108]) (wrap64 (x5_1 + 1))) else (none)) = some r := by (rw [hy108]; with_reducible exact H)
        have Ny108 := Aside0.mk hy108
        clear hy108
        replace H := iN_ H; obtain ⟨c8, H⟩ := H
        have LMc8 := Aside0.mk c8
        clear c8
        obtain ⟨y111, hy111⟩ : ∃ y_ : List (List Int), y_ = (x4_1 ++ [y108]) := ⟨_, rfl⟩
        replace H : (spec_l11Trees.l0 k1 l0 (l0.length : Int) y111 (wrap64 (x5_1 + 1))) = some r := by (rw [hy111]; with_reducible exact H)
        have Ny111 := Aside0.mk hy111
        clear hy111
        have H' := Aside0.mk H
        clear H
        go_wp2_with (first | ((with_reducible refine gate_dst (N := 19) rfl ?_); refine Kd.R_lit (Kd.int .i64) _ 3 ?hg (N := 19) ?hd (xs := ([] : List Int)) (inner := []) (ok := fun _ => True) (okp := fun _ => True) ?hr ?hp (fun _ hk => hk) trivial (Below.refl _ _) (Nat.le_refl _) (by simp) ?_; (case hd => rfl); (case hg => rfl); (case hr => (go_simp; done)); (case hp => exact (Reps.none _ _)); intro v105 w9 ho10 hb hg_ hnew_; clear hg_ hnew_; (rw [← Ny104.out] at ho10); have n0_ := Aside0.mk (Kd.S_elder' HO_4.out (Kd.R_base ho10) hb); have n1_ := Aside0.mk (Kd.R_lower ho10 (below_size HB.out)); have n2_ := Aside0.mk (below_step HB.out hb); clear HO_4; clear HB; have HO_4 := n0_; have HO106 := n1_; have HB := n2_; clear n0_ n1_ n2_; clear hb ho10; have p107 : 0 ≤ (x5_1 : Int) := of_decide_eq_true (by with_reducible assumption); have q107 : x5_1 < (l0.length : Int) := of_decide_eq_true (by with_reducible assumption); obtain ⟨ad107, A107_0, c107_0, e107, hx107_0, hl107_0, hi107_0⟩ := at_L2 HR0.out x5_1 p107 q107; cases e107; replace hx107_0 := (HB.out.cell (World.block_lt_of_cell? w _ hx107_0)).trans hx107_0; have HR107_0 := Aside0.mk hi107_0; have HC107_0 := Aside0.mk hl107_0; clear hi107_0 hl107_0; replace p107 := eq_true p107; replace q107 := eq_true q107) | ((with_reducible refine gate_builtin (b := .append) (xs := #[.tmp 19, .tmp 23]) rfl ?_); at_builtin; refine Kd.R_append_rows (Kd.int .i64) (w0 := w) w.heap.size rfl (.tmp 19) (.tmp 23) 29 3 (.int .i64 0) 8 rfl Try.underlying29 info3 rfl (by decide) (by omega) v105 y104 (rd_L2 l0 x5_1) _ _ _ (fun _ => True) (fun _ => False) rfl rfl ?aO ?aR (fun _ _ h => h) (fun _ h => h.elim) ?aF ?aB ?aS ?aL ?_; (case aR => repeat (exact (Kd.C_below HR107_0.out HB.out))); (case aB => exact HB.out); (case aF => exact (fun _ _ => trivial)); (case aO => exact HO106.out); (case aS => exact (below_size HB.out)); (case aL => have := LMc7.out; omega); intro v109 w11 ho hb hg hat; rw [← Ny108.out] at ho; have n0_ := Aside0.mk (Kd.S_after (ok := (fun _ => True)) HO_4.out hg hat); have n1_ := Aside0.mk (hb); have n2_ := Aside0.mk (ho); clear HO_4; clear HB; clear HO106; have HO_4 := n0_; have HB := n1_; have HO110 := n2_; clear n0_ n1_ n2_; clear ho hb hg hat; obtain ⟨Ao13, co13, eo13⟩ := Kd.R_slice HO110.out; subst eo13) | ((with_reducible refine gate_builtin (b := .append) (xs := #[.tmp 18, .tmp 25]) rfl ?_); at_builtin; refine Kd.S_append (Kd.slice 3 (Kd.int .i64)) (w0 := w) w.heap.size rfl (.tmp 18) (.tmp 25) 24 29 (.slice none 0 0) 24 rfl Try.underlying24 info29 rfl (by decide) (by omega) u4 x4_1 y108 [.slice Ao13 y108.length co13] (fun _ => True) (fun k_ => some k_ = (.slice Ao13 y108.length co13 : Value).ownBlock) rfl rfl ?aP (fun k_ hk_ => ((Kd.R_mono (ok' := fun k_ => ((fun _ => True)) k_ ∧ some k_ ≠ (u4 : Value).ownBlock) (Kd.R_apart' (HO110.out) (Kd.S_typed HO_4.out) (by decide)) (fun k_ hk => ⟨trivial, hk.2⟩))).1 k_ hk_.symm) ?aF ?aO ?aB ?aS ?aL ?_; (case aP => exact Kd.M_row (Kd.R_mono (Kd.R_tight rfl (Kd.R_mono (ok' := fun k_ => ((fun _ => True)) k_ ∧ some k_ ≠ (u4 : Value).ownBlock) (Kd.R_apart' (HO110.out) (Kd.S_typed HO_4.out) (by decide)) (fun k_ hk => ⟨trivial, hk.2⟩))) (fun _ h_ => h_))); (case aB => exact HB.out); (case aF => exact (fun _ _ => trivial)); (case aO => exact (by exact Kd.S_mono HO_4.out (fun k_ hk => ⟨trivial, fun e_ => hk.2 e_⟩))); (case aS => exact (below_size HB.out)); (case aL => have := LMc8.out; omega); intro v112 w12 ho hb hg hat; rw [← Ny111.out] at ho; have n0_ := Aside0.mk (hb); have n1_ := Aside0.mk (ho); clear HB; clear HO_4; clear HO110; have HB := n0_; have HO113 := n1_; clear n0_ n1_; clear ho hb hg hat))
        go_roundg k1
        case measure => have := HK1.out; omega
        case rel => exact ⟨(y111), (wrap64 (x5_1 + 1)), (by rfl), H', ⟨by have := HK1.out; omega⟩, ⟨by exact HO113.out⟩, ⟨by repeat ((with_reducible exact HB.out))⟩⟩
      · rw [if_neg c4] at H
        have c4b0 : decide (x5_1 < (l0.length : Int)) = false := decide_eq_false c4
        clear c4
        have H' := Aside0.mk H
        clear H
        go_wp2
        go_loopg [6, 7] k1 (fun kq v6 v7 w' => ∃ (x4_2 : List (List Int)) (x6_2 : Int) (x7_2 : Int), v6 = .int .i64 x6_2 ∧ v7 = .int .i64 x7_2 ∧ Aside0 (spec_l11Trees.l1 kq (l0.length : Int) x4_2 x6_2 x7_2 = some r) ∧ Aside0 (kq ≤ k1) ∧ Aside0 (Kd.S (Kd.slice 3 (Kd.int .i64)) 29 w' w.heap.size (fun _ => True) u4 x4_2) ∧ Aside0 (Below w.heap.size w w'))
        case atStart => exact ⟨(x4_1), (1), (0), (by rfl), (by rfl), H', ⟨Nat.le_refl _⟩, ⟨by exact HO_4.out⟩, ⟨by repeat ((with_reducible exact HB.out))⟩⟩
        case round =>
          clear H'; try clear c1; try clear p1; try clear q1; try clear hx1; try clear p2; try clear c4; try clear c4b0; try clear c5; try clear c5b0; try clear c6; try clear c6b0; try clear p6; try clear c7; try clear c8; try clear c10; try clear p10; try clear q10; try clear hx10; try clear hx107_0; try clear p107; try clear p2; try clear q107
          obtain ⟨x4_2, x6_2, x7_2, rfl, rfl, HA, HK2, HO_4, HB⟩ := hrel
          cases gk with
          | zero => exact absurd HA.out (by simp [spec_l11Trees.l1])
          | succ k2 =>
            have H := HA.out
            clear HA
            simp only [spec_l11Trees.l1] at H
            by_cases c14 : x7_2 < (wrap64 ((l0.length : Int) - 1))
            · rw [if_pos c14] at H
              have c14b0 : decide (x7_2 < (wrap64 ((l0.length : Int) - 1))) = true := decide_eq_true c14
              clear c14
              replace H := iN_ H; obtain ⟨c15, H⟩ := H
              have c15b0 : decide (0 ≤ x7_2) = true := decide_eq_true c15
              clear c15
              replace H := iN_ H; obtain ⟨c16, H⟩ := H
              have c16b0 : decide (x7_2 < (x4_2.length : Int)) = true := decide_eq_true c16
              clear c16
              replace H := iN_ H; obtain ⟨c17, H⟩ := H
              have c17b0 : decide (x7_2 < ((rd_L2 x4_2 x7_2).length : Int)) = true := decide_eq_true c17
              clear c17
              by_cases c18 : (rd (rd_L2 x4_2 x7_2) x7_2) = 0
              · rw [if_pos c18] at H
                have c18b0 : ((rd (rd_L2 x4_2 x7_2) x7_2) == 0) = true := beq_iff_eq.mpr c18
                have c18b1 : ((rd (rd_L2 x4_2 x7_2) x7_2) != 0) = false := bne_eq_false_iff_eq.mpr c18
                clear c18
                obtain rfl := Option.some.inj H
                obtain ⟨Ao19, co19, eo19⟩ := Kd.S_slice HO_4.out
                subst eo19
                have p116 : 0 ≤ (x7_2 : Int) := of_decide_eq_true (by with_reducible assumption)
                have q116 : x7_2 < (x4_2.length : Int) := of_decide_eq_true (by with_reducible assumption)
                obtain ⟨ad116, A116_0, c116_0, e116, hx116_0, hl116_0, hi116_0⟩ := at_L2 (Kd.S_reads' HO_4.out).2.2 x7_2 p116 q116
                cases e116
                obtain ⟨ce116, hce116, hMe116, hcc116⟩ := Kd.S_get HO_4.out [] x7_2 p116 (by exact q116)
                obtain ⟨ve116_0, rfl, ge116_0⟩ := hMe116
                have hv116_0 := hcc116 0 _ rfl
                rw [Nat.add_zero, show ((Kd.slice 3 (Kd.int .i64))).sz = 1 from rfl, Nat.mul_one] at hv116_0
                replace hv116_0 := Option.some.inj (hv116_0.symm.trans hx116_0)
                rw [hv116_0] at ge116_0
                have HL116_0 := Aside0.mk (show Kd.R (Kd.int .i64) 3 _ _ _ _ (rd_L2 x4_2 x7_2) from ge116_0)
                clear hv116_0 ge116_0
                have HX116_0 := Aside0.mk hx116_0
                clear hcc116 hce116
                have HR116_0 := Aside0.mk hi116_0
                have HC116_0 := Aside0.mk hl116_0
                clear hi116_0 hl116_0; replace p116 := eq_true p116; replace q116 := eq_true q116
                have p117 : 0 ≤ (x7_2 : Int) := of_decide_eq_true (by with_reducible assumption)
                have q117 : x7_2 < ((rd_L2 x4_2 x7_2).length : Int) := of_decide_eq_true (by with_reducible assumption)
                obtain ⟨ad117, e117, hx117_0⟩ := Kd.at_int HR116_0.out x7_2 p117 q117
                cases e117
                replace p117 := eq_true p117; replace q117 := eq_true q117
                go_wp2
                go_ret
                exact ⟨by rfl, by repeat ((with_reducible exact HB.out))⟩
              · rw [if_neg c18] at H
                have c18b0 : ((rd (rd_L2 x4_2 x7_2) x7_2) == 0) = false := beq_eq_false_iff_ne.mpr c18
                have c18b1 : ((rd (rd_L2 x4_2 x7_2) x7_2) != 0) = true := bne_iff_ne.mpr c18
                have H' := Aside0.mk H
                clear H
                obtain ⟨Ao20, co20, eo20⟩ := Kd.S_slice HO_4.out
                subst eo20
                have p116 : 0 ≤ (x7_2 : Int) := of_decide_eq_true (by with_reducible assumption)
                have q116 : x7_2 < (x4_2.length : Int) := of_decide_eq_true (by with_reducible assumption)
                obtain ⟨ad116, A116_0, c116_0, e116, hx116_0, hl116_0, hi116_0⟩ := at_L2 (Kd.S_reads' HO_4.out).2.2 x7_2 p116 q116
                cases e116
                obtain ⟨ce116, hce116, hMe116, hcc116⟩ := Kd.S_get HO_4.out [] x7_2 p116 (by exact q116)
                obtain ⟨ve116_0, rfl, ge116_0⟩ := hMe116
                have hv116_0 := hcc116 0 _ rfl
                rw [Nat.add_zero, show ((Kd.slice 3 (Kd.int .i64))).sz = 1 from rfl, Nat.mul_one] at hv116_0
                replace hv116_0 := Option.some.inj (hv116_0.symm.trans hx116_0)
                rw [hv116_0] at ge116_0
                have HL116_0 := Aside0.mk (show Kd.R (Kd.int .i64) 3 _ _ _ _ (rd_L2 x4_2 x7_2) from ge116_0)
                clear hv116_0 ge116_0
                have HX116_0 := Aside0.mk hx116_0
                clear hcc116 hce116
                have HR116_0 := Aside0.mk hi116_0
                have HC116_0 := Aside0.mk hl116_0
                clear hi116_0 hl116_0; replace p116 := eq_true p116; replace q116 := eq_true q116
                have p117 : 0 ≤ (x7_2 : Int) := of_decide_eq_true (by with_reducible assumption)
                have q117 : x7_2 < ((rd_L2 x4_2 x7_2).length : Int) := of_decide_eq_true (by with_reducible assumption)
                obtain ⟨ad117, e117, hx117_0⟩ := Kd.at_int HR116_0.out x7_2 p117 q117
                cases e117
                replace p117 := eq_true p117; replace q117 := eq_true q117
                go_wp2
                go_loopg [8] k2 (fun kq v8 w' => ∃ (x4_3 : List (List Int)) (x8_3 : Int), v8 = .int .i64 x8_3 ∧ Aside0 (spec_l11Trees.l2 kq (l0.length : Int) x4_3 x6_2 x7_2 x8_3 = some r) ∧ Aside0 (kq ≤ k2) ∧ Aside0 (Kd.S (Kd.slice 3 (Kd.int .i64)) 29 w' w.heap.size (fun _ => True) (.slice (some ad116) x4_2.length co20) x4_3) ∧ Aside0 (Below w.heap.size w w'))
                case atStart => exact ⟨(x4_2), (wrap64 (x7_2 + 1)), (by rfl), H', ⟨Nat.le_refl _⟩, ⟨by exact HO_4.out⟩, ⟨by repeat ((with_reducible exact HB.out))⟩⟩
                case round =>
                  clear H'; try clear c1; try clear p1; try clear q1; try clear hx1; try clear p2; try clear c4; try clear c4b0; try clear c5; try clear c5b0; try clear c6; try clear c6b0; try clear p6; try clear c7; try clear c8; try clear c10; try clear p10; try clear q10; try clear hx10; try clear c11; try clear p11; try clear q11; try clear hx11; try clear c14; try clear c14b0; try clear c15; try clear c15b0; try clear c16; try clear c16b0; try clear c17; try clear c17b0; try clear c18; try clear c18b0; try clear c18b1; try clear hx107_0; try clear hx116_0; try clear hx117_0; try clear p1; try clear p10; try clear p107; try clear p116; try clear p117; try clear p2; try clear p6; try clear q1; try clear q10; try clear q107; try clear q116; try clear q117
                  obtain ⟨x4_3, x8_3, rfl, HA, HK3, HO_4, HB⟩ := hrel
                  have hl4_3 := (Kd.S_reads' HO_4.out).1
                  rw [hl4_3] at HO_4
                  (try simp only [hl4_3])
                  cases gk with
                  | zero => exact absurd HA.out (by simp [spec_l11Trees.l2])
                  | succ k3 =>
                    have H := HA.out
                    clear HA
                    simp only [spec_l11Trees.l2] at H
                    by_cases c21 : x8_3 < (l0.length : Int)
                    · rw [if_pos c21] at H
                      have c21b0 : decide (x8_3 < (l0.length : Int)) = true := decide_eq_true c21
                      clear c21
                      have H' := Aside0.mk H
                      clear H
                      go_wp2
                      go_loopg [9] k3 (fun kq v9 w' => ∃ (x4_4 : List (List Int)) (x9_4 : Int), v9 = .int .i64 x9_4 ∧ Aside0 (spec_l11Trees.l3 kq (l0.length : Int) x4_4 x6_2 x7_2 x8_3 x9_4 = some r) ∧ Aside0 (kq ≤ k3) ∧ Aside0 (Kd.S (Kd.slice 3 (Kd.int .i64)) 29 w' w.heap.size (fun _ => True) (.slice (some ad116) x4_3.length co20) x4_4) ∧ Aside0 (Below w.heap.size w w'))
                      case atStart => exact ⟨(x4_3), (wrap64 (x7_2 + 1)), (by rfl), H', ⟨Nat.le_refl _⟩, ⟨by (try simp only [hl4_3]); exact HO_4.out⟩, ⟨by repeat ((with_reducible exact HB.out))⟩⟩
                      case round =>
                        clear H'; try clear c1; try clear p1; try clear q1; try clear hx1; try clear c2; try clear p2; try clear c4; try clear c4b0; try clear c5; try clear c5b0; try clear c6; try clear c6b0; try clear p6; try clear c7; try clear c8; try clear c10; try clear p10; try clear q10; try clear hx10; try clear c11; try clear p11; try clear q11; try clear hx11; try clear c14; try clear c14b0; try clear c15; try clear c15b0; try clear c16; try clear c16b0; try clear c17; try clear c17b0; try clear c18; try clear c18b0; try clear c18b1; try clear c21; try clear c21b0; try clear hx107_0; try clear hx116_0; try clear hx117_0; try clear p1; try clear p10; try clear p107; try clear p11; try clear p116; try clear p117; try clear p2; try clear p6; try clear q1; try clear q10; try clear q107; try clear q11; try clear q116; try clear q117
                        obtain ⟨x4_4, x9_4, rfl, HA, HK4, HO_4, HB⟩ := hrel
                        have hl4_4 := (Kd.S_reads' HO_4.out).1
                        rw [hl4_4] at HO_4
                        (try simp only [hl4_4])
                        cases gk with
                        | zero => exact absurd HA.out (by simp [spec_l11Trees.l3])
                        | succ k4 =>
                          have H := HA.out
                          clear HA
                          simp only [spec_l11Trees.l3] at H
                          by_cases c22 : x9_4 < (l0.length : Int)
                          · rw [if_pos c22] at H
                            have c22b0 : decide (x9_4 < (l0.length : Int)) = true := decide_eq_true c22
                            clear c22
                            replace H := iN_ H; obtain ⟨c23, H⟩ := H
                            have c23b0 : decide (0 ≤ x8_3) = true := decide_eq_true c23
                            clear c23
                            replace H := iN_ H; obtain ⟨c24, H⟩ := H
                            have c24b0 : decide (x8_3 < (x4_4.length : Int)) = true := decide_eq_true c24
                            clear c24
                            replace H := iN_ H; obtain ⟨c25, H⟩ := H
                            have c25b0 : decide (0 ≤ x9_4) = true := decide_eq_true c25
                            clear c25
                            replace H := iN_ H; obtain ⟨c26, H⟩ := H
                            have c26b0 : decide (x9_4 < ((rd_L2 x4_4 x8_3).length : Int)) = true := decide_eq_true c26
                            clear c26
                            replace H := iN_ H; obtain ⟨c27, H⟩ := H
                            have c27b0 : decide (0 ≤ x7_2) = true := decide_eq_true c27
                            clear c27
                            replace H := iN_ H; obtain ⟨c28, H⟩ := H
                            have c28b0 : decide (x7_2 < (x4_4.length : Int)) = true := decide_eq_true c28
                            clear c28
                            replace H := iN_ H; obtain ⟨c29, H⟩ := H
                            have c29b0 : decide (x7_2 < ((rd_L2 x4_4 x7_2).length : Int)) = true := decide_eq_true c29
                            clear c29
                            replace H := iN_ H; obtain ⟨c30, H⟩ := H
                            have c30b0 : decide (x7_2 < ((rd_L2 x4_4 x8_3).length : Int)) = true := decide_eq_true c30
                            clear c30
                            replace H := iN_ H; obtain ⟨c31, H⟩ := H
                            have c31b0 : decide (x9_4 < ((rd_L2 x4_4 x7_2).length : Int)) = true := decide_eq_true c31
                            clear c31
                            by_cases c32 : x6_2 = 0
                            · rw [if_pos c32] at H
                              exact absurd H (by simp)
                            · rw [if_neg c32] at H
                              have c32b0 : (x6_2 == 0) = false := beq_eq_false_iff_ne.mpr c32
                              have c32b1 : (x6_2 != 0) = true := bne_iff_ne.mpr c32
                              obtain ⟨y129, hy129⟩ : ∃ y_ : List Int, y_ = ((rd_L2 x4_4 x8_3).set (x9_4 : Int).toNat (wrap64 (Int.tdiv (wrap64 ((wrap64 ((rd (rd_L2 x4_4 x8_3) x9_4) * (rd (rd_L2 x4_4 x7_2) x7_2))) - (wrap64 ((rd (rd_L2 x4_4 x8_3) x7_2) * (rd (rd_L2 x4_4 x7_2) x9_4))))) x6_2))) := ⟨_, rfl⟩
                              replace H : (spec_l11Trees.l3 k4 (l0.length : Int) (x4_4.set (x8_3 : Int).toNat y129) x6_2 x7_2 x8_3 (wrap64 (x9_4 + 1))) = some r := by (rw [hy129]; with_reducible exact H)
                              have Ny129 := Aside0.mk hy129
                              clear hy129
                              obtain ⟨y131, hy131⟩ : ∃ y_ : List (List Int), y_ = (x4_4.set (x8_3 : Int).toNat y129) := ⟨_, rfl⟩
                              replace H : (spec_l11Trees.l3 k4 (l0.length : Int) y131 x6_2 x7_2 x8_3 (wrap64 (x9_4 + 1))) = some r := by (rw [hy131]; with_reducible exact H)
                              have Ny131 := Aside0.mk hy131
                              clear hy131
                              have H' := Aside0.mk H
                              clear H
                              try go_wp2
                              have n0_ := Aside0.mk (Kd.S_drew HO_4.out)
                              have n1_ := Aside0.mk (below_drew1 HB.out); clear HO_4; clear HB; have HO_4 := n0_; have HB := n1_; clear n0_ n1_
                              have p120 : 0 ≤ (x8_3 : Int) := of_decide_eq_true (by with_reducible assumption)
                              have q120 : x8_3 < (x4_4.length : Int) := of_decide_eq_true (by with_reducible assumption)
                              obtain ⟨ad120, A120_0, c120_0, e120, hx120_0, hl120_0, hi120_0⟩ := at_L2 (Kd.S_reads' HO_4.out).2.2 x8_3 p120 q120
                              obtain rfl : ad116 = ad120 := (by injection e120)
                              obtain ⟨ce120, hce120, hMe120, hcc120⟩ := Kd.S_get HO_4.out [] x8_3 p120 (by exact q120)
                              obtain ⟨ve120_0, rfl, ge120_0⟩ := hMe120
                              have hv120_0 := hcc120 0 _ rfl
                              rw [Nat.add_zero, show ((Kd.slice 3 (Kd.int .i64))).sz = 1 from rfl, Nat.mul_one] at hv120_0
                              replace hv120_0 := Option.some.inj (hv120_0.symm.trans hx120_0)
                              rw [hv120_0] at ge120_0
                              have HL120_0 := Aside0.mk (show Kd.R (Kd.int .i64) 3 _ _ _ _ (rd_L2 x4_4 x8_3) from ge120_0)
                              clear hv120_0 ge120_0
                              have HX120_0 := Aside0.mk hx120_0
                              clear hcc120 hce120
                              have HR120_0 := Aside0.mk hi120_0
                              have HC120_0 := Aside0.mk hl120_0
                              clear hi120_0 hl120_0; replace p120 := eq_true p120; replace q120 := eq_true q120
                              have p121 : 0 ≤ (x8_3 : Int) := of_decide_eq_true (by with_reducible assumption)
                              have q121 : x8_3 < (x4_4.length : Int) := of_decide_eq_true (by with_reducible assumption)
                              obtain ⟨ad121, A121_0, c121_0, e121, hx121_0, hl121_0, hi121_0⟩ := at_L2 (Kd.S_reads' HO_4.out).2.2 x8_3 p121 q121
                              obtain rfl : ad116 = ad121 := (by injection e121)
                              obtain ⟨ce121, hce121, hMe121, hcc121⟩ := Kd.S_get HO_4.out [] x8_3 p121 (by exact q121)
                              obtain ⟨ve121_0, rfl, ge121_0⟩ := hMe121
                              have hv121_0 := hcc121 0 _ rfl
                              rw [Nat.add_zero, show ((Kd.slice 3 (Kd.int .i64))).sz = 1 from rfl, Nat.mul_one] at hv121_0
                              replace hv121_0 := Option.some.inj (hv121_0.symm.trans hx121_0)
                              rw [hv121_0] at ge121_0
                              have HL121_0 := Aside0.mk (show Kd.R (Kd.int .i64) 3 _ _ _ _ (rd_L2 x4_4 x8_3) from ge121_0)
                              clear hv121_0 ge121_0
                              have HX121_0 := Aside0.mk hx121_0
                              clear hcc121 hce121
                              have HR121_0 := Aside0.mk hi121_0
                              have HC121_0 := Aside0.mk hl121_0
                              clear hi121_0 hl121_0; replace p121 := eq_true p121; replace q121 := eq_true q121
                              have ea_ := Option.some.inj (hx120_0.symm.trans hx121_0)
                              injection ea_ with ea_ en_ ec_
                              subst ea_; subst ec_; clear en_
                              have p122 : 0 ≤ (x9_4 : Int) := of_decide_eq_true (by with_reducible assumption)
                              have q122 : x9_4 < ((rd_L2 x4_4 x8_3).length : Int) := of_decide_eq_true (by with_reducible assumption)
                              obtain ⟨ad122, e122, hx122_0⟩ := Kd.at_int HR121_0.out x9_4 p122 q122
                              cases e122
                              replace p122 := eq_true p122; replace q122 := eq_true q122
                              have p123 : 0 ≤ (x7_2 : Int) := of_decide_eq_true (by with_reducible assumption)
                              have q123 : x7_2 < (x4_4.length : Int) := of_decide_eq_true (by with_reducible assumption)
                              obtain ⟨ad123, A123_0, c123_0, e123, hx123_0, hl123_0, hi123_0⟩ := at_L2 (Kd.S_reads' HO_4.out).2.2 x7_2 p123 q123
                              obtain rfl : ad116 = ad123 := (by injection e123)
                              obtain ⟨ce123, hce123, hMe123, hcc123⟩ := Kd.S_get HO_4.out [] x7_2 p123 (by exact q123)
                              obtain ⟨ve123_0, rfl, ge123_0⟩ := hMe123
                              have hv123_0 := hcc123 0 _ rfl
                              rw [Nat.add_zero, show ((Kd.slice 3 (Kd.int .i64))).sz = 1 from rfl, Nat.mul_one] at hv123_0
                              replace hv123_0 := Option.some.inj (hv123_0.symm.trans hx123_0)
                              rw [hv123_0] at ge123_0
                              have HL123_0 := Aside0.mk (show Kd.R (Kd.int .i64) 3 _ _ _ _ (rd_L2 x4_4 x7_2) from ge123_0)
                              clear hv123_0 ge123_0
                              have HX123_0 := Aside0.mk hx123_0
                              clear hcc123 hce123
                              have HR123_0 := Aside0.mk hi123_0
                              have HC123_0 := Aside0.mk hl123_0
                              clear hi123_0 hl123_0; replace p123 := eq_true p123; replace q123 := eq_true q123
                              have p124 : 0 ≤ (x7_2 : Int) := of_decide_eq_true (by with_reducible assumption)
                              have q124 : x7_2 < ((rd_L2 x4_4 x7_2).length : Int) := of_decide_eq_true (by with_reducible assumption)
                              obtain ⟨ad124, e124, hx124_0⟩ := Kd.at_int HR123_0.out x7_2 p124 q124
                              cases e124
                              replace p124 := eq_true p124; replace q124 := eq_true q124
                              have p125 : 0 ≤ (x8_3 : Int) := of_decide_eq_true (by with_reducible assumption)
                              have q125 : x8_3 < (x4_4.length : Int) := of_decide_eq_true (by with_reducible assumption)
                              obtain ⟨ad125, A125_0, c125_0, e125, hx125_0, hl125_0, hi125_0⟩ := at_L2 (Kd.S_reads' HO_4.out).2.2 x8_3 p125 q125
                              obtain rfl : ad116 = ad125 := (by injection e125)
                              obtain ⟨ce125, hce125, hMe125, hcc125⟩ := Kd.S_get HO_4.out [] x8_3 p125 (by exact q125)
                              obtain ⟨ve125_0, rfl, ge125_0⟩ := hMe125
                              have hv125_0 := hcc125 0 _ rfl
                              rw [Nat.add_zero, show ((Kd.slice 3 (Kd.int .i64))).sz = 1 from rfl, Nat.mul_one] at hv125_0
                              replace hv125_0 := Option.some.inj (hv125_0.symm.trans hx125_0)
                              rw [hv125_0] at ge125_0
                              have HL125_0 := Aside0.mk (show Kd.R (Kd.int .i64) 3 _ _ _ _ (rd_L2 x4_4 x8_3) from ge125_0)
                              clear hv125_0 ge125_0
                              have HX125_0 := Aside0.mk hx125_0
                              clear hcc125 hce125
                              have HR125_0 := Aside0.mk hi125_0
                              have HC125_0 := Aside0.mk hl125_0
                              clear hi125_0 hl125_0; replace p125 := eq_true p125; replace q125 := eq_true q125
                              have ea_ := Option.some.inj (hx120_0.symm.trans hx125_0)
                              injection ea_ with ea_ en_ ec_
                              subst ea_; subst ec_; clear en_
                              have p126 : 0 ≤ (x7_2 : Int) := of_decide_eq_true (by with_reducible assumption)
                              have q126 : x7_2 < ((rd_L2 x4_4 x8_3).length : Int) := of_decide_eq_true (by with_reducible assumption)
                              obtain ⟨ad126, e126, hx126_0⟩ := Kd.at_int HR125_0.out x7_2 p126 q126
                              cases e126
                              replace p126 := eq_true p126; replace q126 := eq_true q126
                              have p127 : 0 ≤ (x7_2 : Int) := of_decide_eq_true (by with_reducible assumption)
                              have q127 : x7_2 < (x4_4.length : Int) := of_decide_eq_true (by with_reducible assumption)
                              obtain ⟨ad127, A127_0, c127_0, e127, hx127_0, hl127_0, hi127_0⟩ := at_L2 (Kd.S_reads' HO_4.out).2.2 x7_2 p127 q127
                              obtain rfl : ad116 = ad127 := (by injection e127)
                              obtain ⟨ce127, hce127, hMe127, hcc127⟩ := Kd.S_get HO_4.out [] x7_2 p127 (by exact q127)
                              obtain ⟨ve127_0, rfl, ge127_0⟩ := hMe127
                              have hv127_0 := hcc127 0 _ rfl
                              rw [Nat.add_zero, show ((Kd.slice 3 (Kd.int .i64))).sz = 1 from rfl, Nat.mul_one] at hv127_0
                              replace hv127_0 := Option.some.inj (hv127_0.symm.trans hx127_0)
                              rw [hv127_0] at ge127_0
                              have HL127_0 := Aside0.mk (show Kd.R (Kd.int .i64) 3 _ _ _ _ (rd_L2 x4_4 x7_2) from ge127_0)
                              clear hv127_0 ge127_0
                              have HX127_0 := Aside0.mk hx127_0
                              clear hcc127 hce127
                              have HR127_0 := Aside0.mk hi127_0
                              have HC127_0 := Aside0.mk hl127_0
                              clear hi127_0 hl127_0; replace p127 := eq_true p127; replace q127 := eq_true q127
                              have ea_ := Option.some.inj (hx123_0.symm.trans hx127_0)
                              injection ea_ with ea_ en_ ec_
                              subst ea_; subst ec_; clear en_
                              have p128 : 0 ≤ (x9_4 : Int) := of_decide_eq_true (by with_reducible assumption)
                              have q128 : x9_4 < ((rd_L2 x4_4 x7_2).length : Int) := of_decide_eq_true (by with_reducible assumption)
                              obtain ⟨ad128, e128, hx128_0⟩ := Kd.at_int HR127_0.out x9_4 p128 q128
                              cases e128
                              replace p128 := eq_true p128; replace q128 := eq_true q128
                              have p33 : 0 ≤ (x9_4 : Int) := of_decide_eq_true (by with_reducible assumption)
                              have q33 : (x9_4 : Int) < (((rd_L2 x4_4 x8_3).length : Int) : Int) := of_decide_eq_true (by with_reducible assumption)
                              obtain ⟨go33, co33, eo33, gb33, gl33, cl33, HG33⟩ := Kd.R_form HL120_0.out (by omega)
                              (cases eo33)
                              have GB33 := Aside0.mk gb33
                              have GG33 := Aside0.mk HG33
                              clear gb33 gl33 HG33
                              (simp only [add_plain] at hx126_0)
                              obtain ⟨hx33_0, hf33_0⟩ := Kd.R_celln 0 HL120_0.out (x9_4 : Int) p33 q33
                              replace p33 := eq_true p33; replace q33 := eq_true q33
                              have hq35 : (x8_3 : Int) < (x4_4.length : Int) := (by have h_ : (x8_3 : Int) < ((x4_4.length : Int) : Int) := of_decide_eq_true (by with_reducible assumption); exact h_)
                              obtain ⟨oki35, ce35, hcl35, hM35, hcc35, hok35, hbk35⟩ := Kd.S_borrow HO_4.out [] (x8_3 : Int) (of_decide_eq_true (by with_reducible assumption)) hq35
                              obtain ⟨ve35_0, rfl, ge35_0⟩ := hM35
                              have hv35 := hcc35 0 _ rfl
                              rw [Nat.add_zero, show ((Kd.slice 3 (Kd.int .i64))).sz = 1 from rfl, Nat.mul_one] at hv35
                              replace hv35 := Option.some.inj (hv35.symm.trans HX120_0.out)
                              subst hv35; clear hcc35 hcl35
                              replace ge35_0 := (show Kd.R (Kd.int .i64) 3 _ _ _ _ (rd_L2 x4_4 x8_3) from ge35_0)
                              have HP35 := Kd.R_putg ge35_0 (x9_4 : Int) (wrap64 (Int.tdiv (wrap64 ((wrap64 ((rd (rd_L2 x4_4 x8_3) x9_4) * (rd (rd_L2 x4_4 x7_2) x7_2))) - (wrap64 ((rd (rd_L2 x4_4 x8_3) x7_2) * (rd (rd_L2 x4_4 x7_2) x9_4))))) x6_2))
                              rw [← Ny129.out] at HP35
                              have HS35 := hbk35 HP35.2 (fun k_ e_ => by injection e_ with e_; subst e_; exact ge35_0.1 _ rfl) (x' := y129) (Kd.M_row HP35.1)
                              rw [← Ny131.out] at HS35
                              have HQ35 := Aside0.mk HS35
                              clear HP35 HS35 hbk35 hok35
                              (try simp only [add_plain] at *)
                              refine start_ (n := 40) (S := fun w' => w'.cell? (ad116.add (x8_3).toNat) = some (.slice (some ⟨go33, 0, none⟩) (rd_L2 x4_4 x8_3).length c120_0) ∧ w'.cell? (ad116.add (x8_3).toNat) = some (.slice (some ⟨go33, 0, none⟩) (rd_L2 x4_4 x8_3).length c120_0) ∧ w'.cell? ⟨go33, (x9_4).toNat, none⟩ = some (.int .i64 (rd (rd_L2 x4_4 x8_3) x9_4)) ∧ w'.cell? (ad116.add (x7_2).toNat) = some (.slice (some ad124) (rd_L2 x4_4 x7_2).length c123_0) ∧ w'.cell? (ad124.add (x7_2).toNat) = some (.int .i64 (rd (rd_L2 x4_4 x7_2) x7_2)) ∧ w'.cell? (ad116.add (x8_3).toNat) = some (.slice (some ⟨go33, 0, none⟩) (rd_L2 x4_4 x8_3).length c120_0) ∧ w'.cell? ⟨go33, (x7_2).toNat, none⟩ = some (.int .i64 (rd (rd_L2 x4_4 x8_3) x7_2)) ∧ w'.cell? (ad116.add (x7_2).toNat) = some (.slice (some ad124) (rd_L2 x4_4 x7_2).length c123_0) ∧ w'.cell? (ad124.add (x9_4).toNat) = some (.int .i64 (rd (rd_L2 x4_4 x7_2) x9_4))) (ds := [39]) #[false, false, false, false, false, false, false, false, false, false, false, false, false, false, false, false, false, false, false, false, false, false, false, false, false, false, false, false, false, false, false, false, false, false, false, false, false, false, false, false] (by kernel_rfl) rfl rfl ⟨hx120_0, hx121_0, hx122_0, hx123_0, hx124_0, hx125_0, hx126_0, hx127_0, hx128_0⟩ (fun hHeld => ?_); refine with_tabW spec_l11Trees.tab19 spec_l11Trees.bits19 (fun HT_ HW_ => ?_)
                              generalize wr.drew = w34 at HO_4 HB GG33 HL120_0 HL121_0 HL123_0 HL125_0 HL127_0 HQ35 HR120_0 HR121_0 HR123_0 HR125_0 HR127_0 HX120_0 HX121_0 HX123_0 HX125_0 HX127_0 hf33_0 hx120_0 hx121_0 hx122_0 hx123_0 hx124_0 hx125_0 hx126_0 hx127_0 hx128_0 hx33_0 hHeld ⊢
                              refine pu_ (v := ?_) (a' := ?_) 0 (some 55) rfl rfl HT_ (by kernel_rfl) (.inl ⟨by rfl, ?_⟩) ?_ ?_; rotate_left 2; (intro w'; go_simp; with_reducible rfl); (simp only [P6_]; rfl)
                              refine pu_ (v := ?_) (a' := ?_) 1 (some 56) rfl rfl HT_ (by kernel_rfl) (.inl ⟨by rfl, ?_⟩) ?_ ?_; rotate_left 2; (intro w'; go_simp; with_reducible rfl); (simp only [P6_]; rfl)
                              refine pu_ (v := ?_) (a' := ?_) 2 (some 57) rfl rfl HT_ (by kernel_rfl) (.inl ⟨by rfl, ?_⟩) ?_ ?_; rotate_left 2; (intro w'; go_simp; with_reducible rfl); (simp only [P6_]; rfl)
                              refine pu_ (v := ?_) (a' := ?_) 4 (some 59) rfl rfl HT_ (by kernel_rfl) (.inl ⟨by rfl, ?_⟩) ?_ ?_; rotate_left 2; (intro w'; go_simp; with_reducible rfl); (simp only [P6_]; rfl)
                              refine pu_ (v := ?_) (a' := ?_) 5 (some 60) rfl rfl HT_ (by kernel_rfl) (.inl ⟨by rfl, ?_⟩) ?_ ?_; rotate_left 2; (intro w'; go_simp; with_reducible rfl); (simp only [P6_]; rfl)
                              refine pu_ (v := ?_) (a' := ?_) 6 (some 61) rfl rfl HT_ (by kernel_rfl) (.inl ⟨by rfl, ?_⟩) ?_ ?_; rotate_left 2; (intro w'; go_simp; with_reducible rfl); (simp only [P6_]; rfl)
                              refine pu_ (v := ?_) (a' := ?_) 7 (some 62) rfl rfl HT_ (by kernel_rfl) (.inl ⟨by rfl, ?_⟩) ?_ ?_; rotate_left 2; (intro w'; go_simp; with_reducible rfl); (simp only [P6_]; rfl)
                              refine pu_ (v := ?_) (a' := ?_) 9 (some 64) rfl rfl HT_ (by kernel_rfl) (.inl ⟨by rfl, ?_⟩) ?_ ?_; rotate_left 2; (intro w'; go_simp; with_reducible rfl); (simp only [P6_]; rfl)
                              refine pu_ (v := ?_) (a' := ?_) 12 (some 67) rfl rfl HT_ (by kernel_rfl) (.inl ⟨by rfl, ?_⟩) ?_ ?_; rotate_left 2; (intro w'; go_simp; with_reducible rfl); (simp only [P6_]; rfl)
                              refine pu_ (v := ?_) (a' := ?_) 13 (some 68) rfl rfl HT_ (by kernel_rfl) (.inl ⟨by rfl, ?_⟩) ?_ ?_; rotate_left 2; (intro w'; go_simp; with_reducible rfl); (simp only [P6_]; rfl)
                              refine pu_ (v := ?_) (a' := ?_) 14 (some 69) rfl rfl HT_ (by kernel_rfl) (.inl ⟨by rfl, ?_⟩) ?_ ?_; rotate_left 2; (intro w'; go_simp; with_reducible rfl); (simp only [P6_]; rfl)
                              refine pu_ (v := ?_) (a' := ?_) 16 (some 71) rfl rfl HT_ (by kernel_rfl) (.inl ⟨by rfl, ?_⟩) ?_ ?_; rotate_left 2; (intro w'; go_simp; with_reducible rfl); (simp only [P6_]; rfl)
                              refine pu_ (v := ?_) (a' := ?_) 20 (some 75) rfl rfl HT_ (by kernel_rfl) (.inl ⟨by rfl, ?_⟩) ?_ ?_; rotate_left 2; (intro w'; go_simp; with_reducible rfl); (simp only [P6_]; rfl)
                              refine pu_ (v := ?_) (a' := ?_) 21 (some 76) rfl rfl HT_ (by kernel_rfl) (.inl ⟨by rfl, ?_⟩) ?_ ?_; rotate_left 2; (intro w'; go_simp; with_reducible rfl); (simp only [P6_]; rfl)
                              refine pu_ (v := ?_) (a' := ?_) 22 (some 77) rfl rfl HT_ (by kernel_rfl) (.inl ⟨by rfl, ?_⟩) ?_ ?_; rotate_left 2; (intro w'; go_simp; with_reducible rfl); (simp only [P6_]; rfl)
                              refine pu_ (v := ?_) (a' := ?_) 24 (some 79) rfl rfl HT_ (by kernel_rfl) (.inl ⟨by rfl, ?_⟩) ?_ ?_; rotate_left 2; (intro w'; go_simp; with_reducible rfl); (simp only [P6_]; rfl)
                              refine pu_ (v := ?_) (a' := ?_) 27 (some 82) rfl rfl HT_ (by kernel_rfl) (.inl ⟨by rfl, ?_⟩) ?_ ?_; rotate_left 2; (intro w'; go_simp; with_reducible rfl); (simp only [P6_]; rfl)
                              refine pu_ (v := ?_) (a' := ?_) 28 (some 83) rfl rfl HT_ (by kernel_rfl) (.inl ⟨by rfl, ?_⟩) ?_ ?_; rotate_left 2; (intro w'; go_simp; with_reducible rfl); (simp only [P6_]; rfl)
                              refine pu_ (v := ?_) (a' := ?_) 29 (some 84) rfl rfl HT_ (by kernel_rfl) (.inl ⟨by rfl, ?_⟩) ?_ ?_; rotate_left 2; (intro w'; go_simp; with_reducible rfl); (simp only [P6_]; rfl)
                              refine pu_ (v := ?_) (a' := ?_) 31 (some 86) rfl rfl HT_ (by kernel_rfl) (.inl ⟨by rfl, ?_⟩) ?_ ?_; rotate_left 2; (intro w'; go_simp; with_reducible rfl); (simp only [P6_]; rfl)
                              refine pu_ (v := ?_) (a' := ?_) 36 (some 91) rfl rfl HT_ (by kernel_rfl) (.inl ⟨by rfl, ?_⟩) ?_ ?_; rotate_left 2; (intro w'; go_simp; with_reducible rfl); (simp only [P6_]; rfl)
                              refine ta_ (v := ?_) (a' := ?_) 3 (some 58) rfl rfl HT_ HW_ (by kernel_rfl) (.inl ⟨by rfl, ?_⟩) hHeld ?_ ?_; rotate_left 2; (rintro w' ⟨s0, s1, s2, s3, s4, s5, s6, s7, s8⟩; go_simp; with_reducible rfl); (simp only [P6_]; rfl)
                              refine ta_ (v := ?_) (a' := ?_) 8 (some 63) rfl rfl HT_ HW_ (by kernel_rfl) (.inl ⟨by rfl, ?_⟩) hHeld ?_ ?_; rotate_left 2; (rintro w' ⟨s0, s1, s2, s3, s4, s5, s6, s7, s8⟩; go_simp; with_reducible rfl); (simp only [P6_]; rfl)
                              refine pu_ (v := ?_) (a' := ?_) 10 (some 65) rfl rfl HT_ (by kernel_rfl) (.inl ⟨by rfl, ?_⟩) ?_ ?_; rotate_left 2; (intro w'; go_simp; with_reducible rfl); (simp only [P6_]; rfl)
                              refine ta_ (v := ?_) (a' := ?_) 11 (some 66) rfl rfl HT_ HW_ (by kernel_rfl) (.inl ⟨by rfl, ?_⟩) hHeld ?_ ?_; rotate_left 2; (rintro w' ⟨s0, s1, s2, s3, s4, s5, s6, s7, s8⟩; go_simp; with_reducible rfl); (simp only [P6_]; rfl)
                              refine ta_ (v := ?_) (a' := ?_) 15 (some 70) rfl rfl HT_ HW_ (by kernel_rfl) (.inl ⟨by rfl, ?_⟩) hHeld ?_ ?_; rotate_left 2; (rintro w' ⟨s0, s1, s2, s3, s4, s5, s6, s7, s8⟩; go_simp; with_reducible rfl); (simp only [P6_]; rfl)
                              refine pu_ (v := ?_) (a' := ?_) 17 (some 72) rfl rfl HT_ (by kernel_rfl) (.inl ⟨by rfl, ?_⟩) ?_ ?_; rotate_left 2; (intro w'; go_simp; with_reducible rfl); (simp only [P6_]; rfl)
                              refine ta_ (v := ?_) (a' := ?_) 18 (some 73) rfl rfl HT_ HW_ (by kernel_rfl) (.inl ⟨by rfl, ?_⟩) hHeld ?_ ?_; rotate_left 2; (rintro w' ⟨s0, s1, s2, s3, s4, s5, s6, s7, s8⟩; go_simp; with_reducible rfl); (simp only [P6_]; rfl)
                              refine pu_ (v := ?_) (a' := ?_) 19 (some 74) rfl rfl HT_ (by kernel_rfl) (.inl ⟨by rfl, ?_⟩) ?_ ?_; rotate_left 2; (intro w'; go_simp; with_reducible rfl); (simp only [P6_]; rfl)
                              refine ta_ (v := ?_) (a' := ?_) 23 (some 78) rfl rfl HT_ HW_ (by kernel_rfl) (.inl ⟨by rfl, ?_⟩) hHeld ?_ ?_; rotate_left 2; (rintro w' ⟨s0, s1, s2, s3, s4, s5, s6, s7, s8⟩; go_simp; with_reducible rfl); (simp only [P6_]; rfl)
                              refine pu_ (v := ?_) (a' := ?_) 25 (some 80) rfl rfl HT_ (by kernel_rfl) (.inl ⟨by rfl, ?_⟩) ?_ ?_; rotate_left 2; (intro w'; go_simp; with_reducible rfl); (simp only [P6_]; rfl)
                              refine ta_ (v := ?_) (a' := ?_) 26 (some 81) rfl rfl HT_ HW_ (by kernel_rfl) (.inl ⟨by rfl, ?_⟩) hHeld ?_ ?_; rotate_left 2; (rintro w' ⟨s0, s1, s2, s3, s4, s5, s6, s7, s8⟩; go_simp; with_reducible rfl); (simp only [P6_]; rfl)
                              refine ta_ (v := ?_) (a' := ?_) 30 (some 85) rfl rfl HT_ HW_ (by kernel_rfl) (.inl ⟨by rfl, ?_⟩) hHeld ?_ ?_; rotate_left 2; (rintro w' ⟨s0, s1, s2, s3, s4, s5, s6, s7, s8⟩; go_simp; with_reducible rfl); (simp only [P6_]; rfl)
                              refine pu_ (v := ?_) (a' := ?_) 32 (some 87) rfl rfl HT_ (by kernel_rfl) (.inl ⟨by rfl, ?_⟩) ?_ ?_; rotate_left 2; (intro w'; go_simp; with_reducible rfl); (simp only [P6_]; rfl)
                              refine ta_ (v := ?_) (a' := ?_) 33 (some 88) rfl rfl HT_ HW_ (by kernel_rfl) (.inl ⟨by rfl, ?_⟩) hHeld ?_ ?_; rotate_left 2; (rintro w' ⟨s0, s1, s2, s3, s4, s5, s6, s7, s8⟩; go_simp; with_reducible rfl); (simp only [P6_]; rfl)
                              refine pu_ (v := ?_) (a' := ?_) 34 (some 89) rfl rfl HT_ (by kernel_rfl) (.inl ⟨by rfl, ?_⟩) ?_ ?_; rotate_left 2; (intro w'; go_simp; with_reducible rfl); (simp only [P6_]; rfl)
                              refine pu_ (v := ?_) (a' := ?_) 35 (some 90) rfl rfl HT_ (by kernel_rfl) (.inl ⟨by rfl, ?_⟩) ?_ ?_; rotate_left 2; (intro w'; go_simp; with_reducible rfl); (simp only [P6_]; rfl)
                              refine pu_ (v := ?_) (a' := ?_) 37 (some 92) rfl rfl HT_ (by kernel_rfl) (.inl ⟨by rfl, ?_⟩) ?_ ?_; rotate_left 2; (intro w'; go_simp; with_reducible rfl); (simp only [P6_]; rfl)
                              refine pu_ (v := ?_) (a' := ?_) 38 (some 93) rfl rfl HT_ (by kernel_rfl) (.inl ⟨by rfl, ?_⟩) ?_ ?_; rotate_left 2; (intro w'; go_simp; with_reducible rfl); (simp only [P6_]; rfl)
                              refine last_ (i := 39) (N := none) #[true, true, true, true, true, true, true, true, true, true, true, true, true, true, true, true, true, true, true, true, true, true, true, true, true, true, true, true, true, true, true, true, true, true, true, true, true, true, true, true] rfl rfl (one_of HT_.out (by kernel_rfl)) (by decide) (fun K hK => ?_)
                              refine skip_ (w1 := ?_) (by rfl) rfl ?_ ?_
                              rotate_left
                              · go_simp
                                rfl
                              refine hK.out _ _ ?_
                              clear hK K
                              refine done_ (done_of HT_.out (by kernel_rfl)) ?_
                              try go_wp2
                              (try simp only [← hl4_4])
                              go_roundg k4
                              case measure => have := HK1.out; have := HK2.out; have := HK3.out; have := HK4.out; omega
                              case rel => exact ⟨(y131), (wrap64 (x9_4 + 1)), (by rfl), H', ⟨by have := HK1.out; have := HK2.out; have := HK3.out; have := HK4.out; omega⟩, ⟨by (try simp only [hl4_3]); (try simp only [hl4_4]); exact HQ35.out⟩, ⟨by repeat ((with_reducible first | exact HB.out | refine below_set ?_ GB33.out))⟩⟩
                          · rw [if_neg c22] at H
                            have c22b0 : decide (x9_4 < (l0.length : Int)) = false := decide_eq_false c22
                            clear c22
                            have H' := Aside0.mk H
                            clear H
                            go_wp2
                            (try simp only [← hl4_3, ← hl4_4])
                            go_roundg k4
                            case measure => have := HK1.out; have := HK2.out; have := HK3.out; have := HK4.out; omega
                            case rel => exact ⟨(x4_4), (wrap64 (x8_3 + 1)), (by rfl), H', ⟨by have := HK1.out; have := HK2.out; have := HK3.out; have := HK4.out; omega⟩, ⟨by (try simp only [hl4_3]); (try simp only [hl4_4]); exact HO_4.out⟩, ⟨by repeat ((with_reducible exact HB.out))⟩⟩
                    · rw [if_neg c21] at H
                      have c21b0 : decide (x8_3 < (l0.length : Int)) = false := decide_eq_false c21
                      clear c21
                      replace H := iN_ H; obtain ⟨c37, H⟩ := H
                      have c37b0 : decide (0 ≤ x7_2) = true := decide_eq_true c37
                      clear c37
                      replace H := iN_ H; obtain ⟨c38, H⟩ := H
                      have c38b0 : decide (x7_2 < (x4_3.length : Int)) = true := decide_eq_true c38
                      clear c38
                      replace H := iN_ H; obtain ⟨c39, H⟩ := H
                      have c39b0 : decide (x7_2 < ((rd_L2 x4_3 x7_2).length : Int)) = true := decide_eq_true c39
                      clear c39
                      have H' := Aside0.mk H
                      clear H
                      have p118 : 0 ≤ (x7_2 : Int) := of_decide_eq_true (by with_reducible assumption)
                      have q118 : x7_2 < (x4_3.length : Int) := of_decide_eq_true (by with_reducible assumption)
                      obtain ⟨ad118, A118_0, c118_0, e118, hx118_0, hl118_0, hi118_0⟩ := at_L2 (Kd.S_reads' HO_4.out).2.2 x7_2 p118 q118
                      obtain rfl : ad116 = ad118 := (by injection e118)
                      obtain ⟨ce118, hce118, hMe118, hcc118⟩ := Kd.S_get HO_4.out [] x7_2 p118 (by exact q118)
                      obtain ⟨ve118_0, rfl, ge118_0⟩ := hMe118
                      have hv118_0 := hcc118 0 _ rfl
                      rw [Nat.add_zero, show ((Kd.slice 3 (Kd.int .i64))).sz = 1 from rfl, Nat.mul_one] at hv118_0
                      replace hv118_0 := Option.some.inj (hv118_0.symm.trans hx118_0)
                      rw [hv118_0] at ge118_0
                      have HL118_0 := Aside0.mk (show Kd.R (Kd.int .i64) 3 _ _ _ _ (rd_L2 x4_3 x7_2) from ge118_0)
                      clear hv118_0 ge118_0
                      have HX118_0 := Aside0.mk hx118_0
                      clear hcc118 hce118
                      have HR118_0 := Aside0.mk hi118_0
                      have HC118_0 := Aside0.mk hl118_0
                      clear hi118_0 hl118_0; replace p118 := eq_true p118; replace q118 := eq_true q118
                      have p119 : 0 ≤ (x7_2 : Int) := of_decide_eq_true (by with_reducible assumption)
                      have q119 : x7_2 < ((rd_L2 x4_3 x7_2).length : Int) := of_decide_eq_true (by with_reducible assumption)
                      obtain ⟨ad119, e119, hx119_0⟩ := Kd.at_int HR118_0.out x7_2 p119 q119
                      cases e119
                      replace p119 := eq_true p119; replace q119 := eq_true q119
                      go_wp2
                      (try simp only [← hl4_3])
                      go_roundg k3
                      case measure => have := HK1.out; have := HK2.out; have := HK3.out; omega
                      case rel => exact ⟨(x4_3), (rd (rd_L2 x4_3 x7_2) x7_2), (wrap64 (x7_2 + 1)), (by rfl), (by rfl), H', ⟨by have := HK1.out; have := HK2.out; have := HK3.out; omega⟩, ⟨by (try simp only [hl4_3]); exact HO_4.out⟩, ⟨by repeat ((with_reducible exact HB.out))⟩⟩
            · rw [if_neg c14] at H
              have c14b0 : decide (x7_2 < (wrap64 ((l0.length : Int) - 1))) = false := decide_eq_false c14
              clear c14
              by_cases c40 : (l0.length : Int) = 0
              · rw [if_pos c40] at H
                have c40b0 : ((l0.length : Int) == 0) = true := beq_iff_eq.mpr c40
                have c40b1 : ((l0.length : Int) != 0) = false := bne_eq_false_iff_eq.mpr c40
                clear c40
                obtain rfl := Option.some.inj H
                go_wp2
                go_ret
                exact ⟨by rfl, by repeat ((with_reducible exact HB.out))⟩
              · rw [if_neg c40] at H
                have c40b0 : ((l0.length : Int) == 0) = false := beq_eq_false_iff_ne.mpr c40
                have c40b1 : ((l0.length : Int) != 0) = true := bne_iff_ne.mpr c40
                have c40b2 : ¬ (l0 = []) := fun h_ => c40 (by rw [h_]; rfl)
                obtain ⟨ji41, hji41⟩ : ∃ j_ : Int, (wrap64 ((l0.length : Int) - 1)) = j_ := ⟨_, rfl⟩
                replace H : (if 0 ≤ (ji41) then (if (ji41) < (x4_2.length : Int) then (if (ji41) < ((rd_L2 x4_2 (ji41)).length : Int) then (some (rd (rd_L2 x4_2 (ji41)) (ji41))) else (none)) else (none)) else (none)) = some r := by (rw [hji41] at H; exact H)
                (try rw [hji41] at c14b0)
                have hji41w : (IntKind.i64.wrap ((l0.length : Int) - 1)) = ji41 := (i64_w _).trans hji41
                replace H := iN_ H; obtain ⟨c42, H⟩ := H
                have c42b0 : decide (0 ≤ (ji41)) = true := decide_eq_true c42
                clear c42
                replace H := iN_ H; obtain ⟨c43, H⟩ := H
                have c43b0 : decide ((ji41) < (x4_2.length : Int)) = true := decide_eq_true c43
                clear c43
                replace H := iN_ H; obtain ⟨c44, H⟩ := H
                have c44b0 : decide ((ji41) < ((rd_L2 x4_2 (ji41)).length : Int)) = true := decide_eq_true c44
                clear c44
                obtain rfl := Option.some.inj H
                obtain ⟨Ao45, co45, eo45⟩ := Kd.S_slice HO_4.out
                subst eo45
                have p114 : 0 ≤ ((ji41) : Int) := of_decide_eq_true (by with_reducible assumption)
                have q114 : (ji41) < (x4_2.length : Int) := of_decide_eq_true (by with_reducible assumption)
                obtain ⟨ad114, A114_0, c114_0, e114, hx114_0, hl114_0, hi114_0⟩ := at_L2 (Kd.S_reads' HO_4.out).2.2 (ji41) p114 q114
                cases e114
                obtain ⟨ce114, hce114, hMe114, hcc114⟩ := Kd.S_get HO_4.out [] (ji41) p114 (by exact q114)
                obtain ⟨ve114_0, rfl, ge114_0⟩ := hMe114
                have hv114_0 := hcc114 0 _ rfl
                rw [Nat.add_zero, show ((Kd.slice 3 (Kd.int .i64))).sz = 1 from rfl, Nat.mul_one] at hv114_0
                replace hv114_0 := Option.some.inj (hv114_0.symm.trans hx114_0)
                rw [hv114_0] at ge114_0
                have HL114_0 := Aside0.mk (show Kd.R (Kd.int .i64) 3 _ _ _ _ (rd_L2 x4_2 (ji41)) from ge114_0)
                clear hv114_0 ge114_0
                have HX114_0 := Aside0.mk hx114_0
                clear hcc114 hce114
                have HR114_0 := Aside0.mk hi114_0
                have HC114_0 := Aside0.mk hl114_0
                clear hi114_0 hl114_0; replace p114 := eq_true p114; replace q114 := eq_true q114
                have p115 : 0 ≤ ((ji41) : Int) := of_decide_eq_true (by with_reducible assumption)
                have q115 : (ji41) < ((rd_L2 x4_2 (ji41)).length : Int) := of_decide_eq_true (by with_reducible assumption)
                obtain ⟨ad115, e115, hx115_0⟩ := Kd.at_int HR114_0.out (ji41) p115 q115
                cases e115
                replace p115 := eq_true p115; replace q115 := eq_true q115
                go_wp2
                go_ret
                exact ⟨by rfl, by repeat ((with_reducible exact HB.out))⟩

end Go.Proofs.Ytoohcdfokejkdaa.P
namespace Go.Proofs.Ytoohcdfokejkdaa.P
open Go.RowKit Go.Proofs.YtoohcdfokejkdaaW.PrintWords Go.Proofs.YtoohcdfokejkdaaW.PrintLast Go.Proofs.YtoohcdfokejkdaaW.PrintMore
attribute [local go_sem] max2_int min2_int max_two min_two max_three min_three max_four min_four   -- for this text's walks alone
set_option linter.unusedVariables false
set_option linter.unusedSimpArgs false

def spec_l12Tail.l0 : Nat → Int → List (List Int) → List (List Int) → Int → Option (Int)
  | 0, _, _, _, _ => none
  | k + 1, x8, x11, x16, x17 => if x17 < x8 then (if 0 ≤ x17 then (if x17 < (x11.length : Int) then (if 1 ≤ ((rd_L2 x11 x17).length : Int) then (if x16.length < 5864062014805 then (spec_l12Tail.l0 k x8 x11 (x16 ++ [((rd_L2 x11 x17).drop 1)]) (wrap64 (x17 + 1))) else (none)) else (none)) else (none)) else (none)) else ((spec_l11Trees.f k x16).bind fun t113 => (some t113))
def spec_l12Tail.f (k : Nat) (l0 : List (List Int)) (a1 : Int) : Option (Int) := spec_l12Tail.l0 k a1 l0 (([] : List (List Int))) 1
/-! ### spec_l12Trees: function 85 -/
mutual
def spec_l12Trees.l0 : Nat → Int → List Int → List Int → Int → Int → Int → Int → Option (Int)
  | 0, _, _, _, _, _, _, _ => none
  | k + 1, x1, x2, x7, x8, x9, x102000, x102001 => if x9 < (x2.length : Int) then (if 0 ≤ x9 then (if x9 < (x7.length : Int) then (spec_l12Trees.l1 k x1 x2 (x7.set (x9 : Int).toNat (-1)) x8 x9 0 x102000 x102001) else (none)) else (none)) else (spec_l12Trees.l2 k x1 x7 x8 (([] : List (List Int))) 0 x102000 x102001)
def spec_l12Trees.l1 : Nat → Int → List Int → List Int → Int → Int → Int → Int → Int → Option (Int)
  | 0, _, _, _, _, _, _, _, _ => none
  | k + 1, x1, x2, x7, x8, x9, x10, x102000, x102001 => if x10 < x9 then (if 0 ≤ x10 then (if x10 < (x2.length : Int) then (if 0 ≤ x9 then (if x9 < (x2.length : Int) then (if (rd x2 x10) = (rd x2 x9) then (if x10 < (x7.length : Int) then (if x9 < (x7.length : Int) then (spec_l12Trees.l1 k x1 x2 (x7.set (x9 : Int).toNat (rd x7 x10)) x8 x9 (wrap64 (x10 + 1)) x102000 x102001) else (none)) else (none)) else (spec_l12Trees.l1 k x1 x2 x7 x8 x9 (wrap64 (x10 + 1)) x102000 x102001)) else (none)) else (none)) else (none)) else (none)) else (if 0 ≤ x9 then (if x9 < (x7.length : Int) then (if (rd x7 x9) < 0 then (spec_l12Trees.l0 k x1 x2 (x7.set (x9 : Int).toNat x8) (wrap64 (x8 + 1)) (wrap64 (x9 + 1)) x102000 x102001) else (spec_l12Trees.l0 k x1 x2 x7 x8 (wrap64 (x9 + 1)) x102000 x102001)) else (none)) else (none))
def spec_l12Trees.l2 : Nat → Int → List Int → Int → List (List Int) → Int → Int → Int → Option (Int)
  | 0, _, _, _, _, _, _, _ => none
  | k + 1, x1, x7, x8, x11, x12, x102000, x102001 => if x12 < x8 then (if 0 ≤ x8 then (if (x8 : Int).toNat ≤ 35184372088832 then (if x11.length < 5864062014805 then (spec_l12Trees.l2 k x1 x7 x8 (x11 ++ [(List.replicate (x8 : Int).toNat 0)]) (wrap64 (x12 + 1)) x102000 x102001) else (none)) else (none)) else (none)) else (spec_l12Trees.l3 k x1 x7 x8 x11 0 x102000 x102001)
def spec_l12Trees.l3 : Nat → Int → List Int → Int → List (List Int) → Int → Int → Int → Option (Int)
  | 0, _, _, _, _, _, _, _ => none
  | k + 1, x1, x7, x8, x11, x13, x102000, x102001 => (spec_CountGaps.f x102000 x102001).bind fun t121 => (if x13 < t121 then ((spec_EndsOf.f x102000 x102001 x13).bind fun bt123 => ((spec_l03Bit.f x1 x13).bind fun t125 => (if t125 = true then (spec_l12Trees.l3 k x1 x7 x8 x11 (wrap64 (x13 + 1)) x102000 x102001) else (if 0 ≤ bt123.1 then (if bt123.1 < (x7.length : Int) then (if 0 ≤ bt123.2 then (if bt123.2 < (x7.length : Int) then (if (rd x7 bt123.1) = (rd x7 bt123.2) then (spec_l12Trees.l3 k x1 x7 x8 x11 (wrap64 (x13 + 1)) x102000 x102001) else (if 0 ≤ (rd x7 bt123.1) then (if (rd x7 bt123.1) < (x11.length : Int) then (if (rd x7 bt123.1) < ((rd_L2 x11 (rd x7 bt123.1)).length : Int) then ((some (x11.set ((rd x7 bt123.1) : Int).toNat ((rd_L2 x11 (rd x7 bt123.1)).set ((rd x7 bt123.1) : Int).toNat (wrap64 ((rd (rd_L2 x11 (rd x7 bt123.1)) (rd x7 bt123.1)) + 1))) : List (List Int))).bind fun y137 => (if 0 ≤ (rd x7 bt123.2) then (if (rd x7 bt123.2) < (x11.length : Int) then (if (rd x7 bt123.2) < ((rd_L2 y137 (rd x7 bt123.2)).length : Int) then ((some (y137.set ((rd x7 bt123.2) : Int).toNat ((rd_L2 y137 (rd x7 bt123.2)).set ((rd x7 bt123.2) : Int).toNat (wrap64 ((rd (rd_L2 y137 (rd x7 bt123.2)) (rd x7 bt123.2)) + 1))) : List (List Int))).bind fun y147 => (if (rd x7 bt123.2) < ((rd_L2 y147 (rd x7 bt123.1)).length : Int) then ((some (y147.set ((rd x7 bt123.1) : Int).toNat ((rd_L2 y147 (rd x7 bt123.1)).set ((rd x7 bt123.2) : Int).toNat (wrap64 ((rd (rd_L2 y147 (rd x7 bt123.1)) (rd x7 bt123.2)) - 1))) : List (List Int))).bind fun y157 => (if (rd x7 bt123.1) < ((rd_L2 y157 (rd x7 bt123.2)).length : Int) then (spec_l12Trees.l3 k x1 x7 x8 (y157.set ((rd x7 bt123.2) : Int).toNat ((rd_L2 y157 (rd x7 bt123.2)).set ((rd x7 bt123.1) : Int).toNat (wrap64 ((rd (rd_L2 y157 (rd x7 bt123.2)) (rd x7 bt123.1)) - 1)))) (wrap64 (x13 + 1)) x102000 x102001) else (none))) else (none))) else (none)) else (none)) else (none))) else (none)) else (none)) else (none))) else (none)) else (none)) else (none)) else (none))))) else ((spec_l12Tail.f k x11 x8).bind fun t122 => (some t122)))
end
def spec_l12Trees.f (k : Nat) (a0_0 : Int) (a0_1 : Int) (a1 : Int) (l2 : List Int) : Option (Int) := if 0 ≤ (l2.length : Int) then (if ((l2.length : Int) : Int).toNat ≤ 35184372088832 then (spec_l12Trees.l0 k a1 l2 (List.replicate ((l2.length : Int) : Int).toNat 0) 0 0 a0_0 a0_1) else (none)) else (none)
def spec_l12Trees.T10 : Bool × List (List Nat × List Nat) := (true, [([], []), ([], []), ([0, 1], [0, 1]), ([2], [2]), ([], []), ([], []), ([4, 5], [4, 5]), ([6], [6]), ([3, 7], [3, 7])])
def spec_l12Trees.B10 : List Nat := [0, 0, 3, 7, 0, 0, 48, 112, 255]
theorem spec_l12Trees.tab10 : rtab .any (opsOf Try.f85 10) = spec_l12Trees.T10 := by kernel_rfl
theorem spec_l12Trees.bits10 : waitsOk spec_l12Trees.T10.2 spec_l12Trees.B10 = true := by kernel_rfl
def spec_l12Trees.T24 : Bool × List (List Nat × List Nat) := (true, [([], []), ([], []), ([0, 1], [0, 1]), ([2, 2], [2]), ([3], [3]), ([3], [3]), ([4, 5, 3], [3, 4, 5]), ([6, 3], [3, 6]), ([3], [3]), ([3], [3]), ([8, 9, 3], [3, 8, 9]), ([10, 3], [3, 10]), ([7, 11, 3], [3, 7, 11]), ([3, 12], [3, 12])])
def spec_l12Trees.B24 : List Nat := [0, 0, 3, 7, 15, 15, 63, 127, 15, 15, 783, 1807, 4095, 8191]
theorem spec_l12Trees.tab24 : rtab .any (opsOf Try.f85 24) = spec_l12Trees.T24 := by kernel_rfl
theorem spec_l12Trees.bits24 : waitsOk spec_l12Trees.T24.2 spec_l12Trees.B24 = true := by kernel_rfl
def spec_l12Trees.T25 : Bool × List (List Nat × List Nat) := (true, [([], []), ([], []), ([], []), ([1, 2], [1, 2]), ([3], [3]), ([0, 4], [0, 4]), ([5], [5]), ([], []), ([], []), ([7, 8], [7, 8]), ([9], [9]), ([], []), ([], []), ([], []), ([12, 13], [12, 13]), ([14], [14]), ([11, 15], [11, 15]), ([16], [16]), ([], []), ([], []), ([18, 19], [18, 19]), ([20], [20]), ([17, 21], [17, 21]), ([22], [22]), ([23], [23]), ([6, 10, 0, 1, 2, 3, 4, 5, 6, 7, 8, 9, 10, 11, 12, 13, 14, 15, 16, 17, 18, 19, 20, 21, 22, 23, 24], [6, 10]), ([25, 24, 0, 1, 2, 3, 4, 5, 6, 7, 8, 9, 10, 11, 12, 13, 14, 15, 16, 17, 18, 19, 20, 21, 22, 23, 24], [24, 25])])
def spec_l12Trees.B25 : List Nat := [0, 0, 0, 6, 14, 31, 63, 0, 0, 384, 896, 0, 0, 0, 12288, 28672, 63488, 129024, 0, 0, 786432, 1835008, 4192256, 8386560, 16775168, 33554431, 67108863]
theorem spec_l12Trees.tab25 : rtab .any (opsOf Try.f85 25) = spec_l12Trees.T25 := by kernel_rfl
theorem spec_l12Trees.bits25 : waitsOk spec_l12Trees.T25.2 spec_l12Trees.B25 = true := by kernel_rfl
def spec_l12Trees.T26 : Bool × List (List Nat × List Nat) := (true, [([], []), ([], []), ([], []), ([1, 2], [1, 2]), ([3], [3]), ([0, 4], [0, 4]), ([5], [5]), ([], []), ([], []), ([7, 8], [7, 8]), ([9], [9]), ([], []), ([], []), ([], []), ([12, 13], [12, 13]), ([14], [14]), ([11, 15], [11, 15]), ([16], [16]), ([], []), ([], []), ([18, 19], [18, 19]), ([20], [20]), ([17, 21], [17, 21]), ([22], [22]), ([23], [23]), ([6, 10, 0, 1, 2, 3, 4, 5, 6, 7, 8, 9, 10, 11, 12, 13, 14, 15, 16, 17, 18, 19, 20, 21, 22, 23, 24], [6, 10]), ([25, 24, 0, 1, 2, 3, 4, 5, 6, 7, 8, 9, 10, 11, 12, 13, 14, 15, 16, 17, 18, 19, 20, 21, 22, 23, 24], [24, 25])])
def spec_l12Trees.B26 : List Nat := [0, 0, 0, 6, 14, 31, 63, 0, 0, 384, 896, 0, 0, 0, 12288, 28672, 63488, 129024, 0, 0, 786432, 1835008, 4192256, 8386560, 16775168, 33554431, 67108863]
theorem spec_l12Trees.tab26 : rtab .any (opsOf Try.f85 26) = spec_l12Trees.T26 := by kernel_rfl
theorem spec_l12Trees.bits26 : waitsOk spec_l12Trees.T26.2 spec_l12Trees.B26 = true := by kernel_rfl
def spec_l12Trees.T27 : Bool × List (List Nat × List Nat) := (true, [([], []), ([], []), ([], []), ([1, 2], [1, 2]), ([3], [3]), ([0, 4], [0, 4]), ([5], [5]), ([], []), ([], []), ([7, 8], [7, 8]), ([9], [9]), ([], []), ([], []), ([], []), ([12, 13], [12, 13]), ([14], [14]), ([11, 15], [11, 15]), ([16], [16]), ([], []), ([], []), ([18, 19], [18, 19]), ([20], [20]), ([17, 21], [17, 21]), ([22], [22]), ([23], [23]), ([6, 10, 0, 1, 2, 3, 4, 5, 6, 7, 8, 9, 10, 11, 12, 13, 14, 15, 16, 17, 18, 19, 20, 21, 22, 23, 24], [6, 10]), ([25, 24, 0, 1, 2, 3, 4, 5, 6, 7, 8, 9, 10, 11, 12, 13, 14, 15, 16, 17, 18, 19, 20, 21, 22, 23, 24], [24, 25])])
def spec_l12Trees.B27 : List Nat := [0, 0, 0, 6, 14, 31, 63, 0, 0, 384, 896, 0, 0, 0, 12288, 28672, 63488, 129024, 0, 0, 786432, 1835008, 4192256, 8386560, 16775168, 33554431, 67108863]
theorem spec_l12Trees.tab27 : rtab .any (opsOf Try.f85 27) = spec_l12Trees.T27 := by kernel_rfl
theorem spec_l12Trees.bits27 : waitsOk spec_l12Trees.T27.2 spec_l12Trees.B27 = true := by kernel_rfl
def spec_l12Trees.T28 : Bool × List (List Nat × List Nat) := (true, [([], []), ([], []), ([], []), ([1, 2], [1, 2]), ([3], [3]), ([0, 4], [0, 4]), ([5], [5]), ([], []), ([], []), ([7, 8], [7, 8]), ([9], [9]), ([], []), ([], []), ([], []), ([12, 13], [12, 13]), ([14], [14]), ([11, 15], [11, 15]), ([16], [16]), ([], []), ([], []), ([18, 19], [18, 19]), ([20], [20]), ([17, 21], [17, 21]), ([22], [22]), ([23], [23]), ([6, 10, 0, 1, 2, 3, 4, 5, 6, 7, 8, 9, 10, 11, 12, 13, 14, 15, 16, 17, 18, 19, 20, 21, 22, 23, 24], [6, 10]), ([25, 24, 0, 1, 2, 3, 4, 5, 6, 7, 8, 9, 10, 11, 12, 13, 14, 15, 16, 17, 18, 19, 20, 21, 22, 23, 24], [24, 25])])
def spec_l12Trees.B28 : List Nat := [0, 0, 0, 6, 14, 31, 63, 0, 0, 384, 896, 0, 0, 0, 12288, 28672, 63488, 129024, 0, 0, 786432, 1835008, 4192256, 8386560, 16775168, 33554431, 67108863]
theorem spec_l12Trees.tab28 : rtab .any (opsOf Try.f85 28) = spec_l12Trees.T28 := by kernel_rfl
theorem spec_l12Trees.bits28 : waitsOk spec_l12Trees.T28.2 spec_l12Trees.B28 = true := by kernel_rfl
set_option maxHeartbeats 8000000 in
set_option maxRecDepth 100000 in
theorem spec_l12Trees.calls (k : Nat) (a0_0 : Int) (a0_1 : Int) (a1 : Int) (A2 : Option Addr) (c2 : Nat) (l2 : List Int) (r : Int) (w : World) (hr2 : Kd.C (Kd.int .i64) w A2 l2.length l2) (hc2 : l2.length ≤ c2) (h : spec_l12Trees.f k a0_0 a0_1 a1 l2 = some r) :
    Calls Try.prog 85 #[.agg #[.int .i64 a0_0, .int .i64 a0_1], .int .i64 a1, .slice A2 l2.length c2] w fun e w' => e = .returned (.int .i64 r) ∧ Below w.heap.size w w' := by
  have hu40 := Try.underlying40
  have HR2 := Aside0.mk hr2
  have HC2 := Aside0.mk hc2
  clear hr2 hc2
  have HB := Aside0.mk (Below.refl w.heap.size w)
  have H : (if 0 ≤ (l2.length : Int) then (if ((l2.length : Int) : Int).toNat ≤ 35184372088832 then (spec_l12Trees.l0 k a1 l2 (List.replicate ((l2.length : Int) : Int).toNat 0) 0 0 a0_0 a0_1) else (none)) else (none)) = some r := h
  clear h
  replace H := iN_ H; obtain ⟨c4, H⟩ := H
  have c4b0 := eq_true c4
  have c4b1 : decide (0 ≤ (l2.length : Int)) = true := decide_eq_true c4
  clear c4
  replace H := iN_ H; obtain ⟨c5, H⟩ := H
  have c5b0 := eq_true c5
  have c5b1 : decide (((l2.length : Int) : Int).toNat ≤ 35184372088832) = true := decide_eq_true c5
  clear c5
  obtain ⟨y102, hy102⟩ : ∃ y_ : List Int, y_ = (List.replicate ((l2.length : Int) : Int).toNat 0) := ⟨_, rfl⟩
  replace H : (spec_l12Trees.l0 k a1 l2 y102 0 0 a0_0 a0_1) = some r := by (rw [hy102]; with_reducible exact H)
  have Ny102 := Aside0.mk hy102
  clear hy102
  have H' := Aside0.mk H
  clear H
  go_enter Try.func85, Try.ntmps85
  go_wp2_with (first | ((with_reducible refine gate_dst (N := 3) rfl ?_); refine box_event ?hg (N := 3) ?hd (cs := #[.int .i64 a0_0, .int .i64 a0_1]) (t := 40) ?hr ?_; (case hd => rfl); (case hg => rfl); (case hr => (go_simp; done)); intro gb101 hg w6 hbox hb; have n0_ := Aside0.mk (below_step HB.out hb); have n1_ := Aside0.mk (hbox); have n2_ := Aside0.mk ((by rw [hg]; exact (below_size HB.out) : w.heap.size ≤ gb101)); have n3_ := Aside0.mk ((by rw [hg]; exact (below_size HB.out) : w.heap.size ≤ gb101)); clear HB; have HB := n0_; have BK101 := n1_; have GW101 := n2_; have GE101 := n3_; clear n0_ n1_ n2_ n3_; clear hb hbox hg) | ((with_reducible refine gate_dst (N := 20) rfl ?_); refine Kd.R_make (Kd.int .i64) _ 3 rfl (N := 20) rfl 29 _ _ rfl (l2.length : Int) rfl rfl Try.underlying29 (.int .i64 0) 8 info3 rfl (by decide) (by omega) 0 (ok := fun _ => True) (okp := fun _ => True) rfl (fun _ hk => hk) trivial (of_decide_eq_true (by with_reducible assumption)) (Nat.le_trans (Nat.mul_le_mul_right _ (of_decide_eq_true (by with_reducible assumption) : (l2.length : Int).toNat ≤ 35184372088832)) (by omega)) (Below.refl _ _) (Nat.le_refl _) ?_; intro v103 w7 ho8 hb hg_ hnew_; clear hg_ hnew_; (rw [← Ny102.out] at ho8); have n0_ := Aside0.mk (Kd.R_lower ho8 (below_size HB.out)); have n1_ := Aside0.mk (blk_below (g := gb101) (o := .cells #[.int .i64 a0_0, .int .i64 a0_1] 40 (0, 0)) BK101.out hb); have n2_ := Aside0.mk (below_step HB.out hb); clear BK101; clear HB; have HO104 := n0_; have BK101 := n1_; have HB := n2_; clear n0_ n1_ n2_; clear hb ho8))
  go_loopg [8, 9] k (fun kq v8 v9 w' => ∃ (x7_1 : List Int) (x8_1 : Int) (x9_1 : Int), v8 = .int .i64 x8_1 ∧ v9 = .int .i64 x9_1 ∧ Aside0 (spec_l12Trees.l0 kq a1 l2 x7_1 x8_1 x9_1 a0_0 a0_1 = some r) ∧ Aside0 (kq ≤ k) ∧ Aside0 (Kd.R (Kd.int .i64) 3 w' w.heap.size (fun _ => True) v103 x7_1) ∧ Aside0 (w'.heap[gb101]? = some (.cells #[.int .i64 a0_0, .int .i64 a0_1] 40 (0, 0))) ∧ Aside0 (Below w.heap.size w w'))
  case atStart => exact ⟨(y102), (0), (0), (by rfl), (by rfl), H', ⟨Nat.le_refl _⟩, ⟨by exact HO104.out⟩, ⟨by exact BK101.out⟩, ⟨by repeat ((with_reducible exact HB.out))⟩⟩
  case round =>
    clear H'; try clear c2; try clear p2; try clear c4; try clear c4b0; try clear c4b1; try clear c5; try clear c5b0; try clear c5b1; try clear c8
    obtain ⟨x7_1, x8_1, x9_1, rfl, rfl, HA, HK1, HO_7, BK101, HB⟩ := hrel
    cases gk with
    | zero => exact absurd HA.out (by simp [spec_l12Trees.l0])
    | succ k1 =>
      have H := HA.out
      clear HA
      simp only [spec_l12Trees.l0] at H
      by_cases c9 : x9_1 < (l2.length : Int)
      · rw [if_pos c9] at H
        have c9b0 : decide (x9_1 < (l2.length : Int)) = true := decide_eq_true c9
        clear c9
        replace H := iN_ H; obtain ⟨c10, H⟩ := H
        have c10b0 : decide (0 ≤ x9_1) = true := decide_eq_true c10
        clear c10
        replace H := iN_ H; obtain ⟨c11, H⟩ := H
        have c11b0 : decide (x9_1 < (x7_1.length : Int)) = true := decide_eq_true c11
        clear c11
        obtain ⟨y105, hy105⟩ : ∃ y_ : List Int, y_ = (x7_1.set (x9_1 : Int).toNat (-1)) := ⟨_, rfl⟩
        replace H : (spec_l12Trees.l1 k1 a1 l2 y105 x8_1 x9_1 0 a0_0 a0_1) = some r := by (rw [hy105]; with_reducible exact H)
        have Ny105 := Aside0.mk hy105
        clear hy105
        have H' := Aside0.mk H
        clear H
        have p12 : 0 ≤ (x9_1 : Int) := of_decide_eq_true (by with_reducible assumption)
        have q12 : (x9_1 : Int) < ((x7_1.length : Int) : Int) := of_decide_eq_true (by with_reducible assumption)
        obtain ⟨go12, co12, eo12, gb12, gl12, cl12, HG12⟩ := Kd.R_form HO_7.out (by omega)
        (cases eo12)
        have GB12 := Aside0.mk gb12
        have GG12 := Aside0.mk HG12
        clear gb12 gl12 HG12
        obtain ⟨hx12_0, hf12_0⟩ := Kd.R_celln 0 HO_7.out (x9_1 : Int) p12 q12
        replace p12 := eq_true p12; replace q12 := eq_true q12
        have HP13 := Kd.R_putg HO_7.out (x9_1 : Int) (-1)
        go_wp2_with (((with_reducible refine gate_store (t := 3) (p := 29) rfl ?_); refine store_event (t := 3) (p := 29) (v := ?vo_w14) (w1 := (wr.setCell ⟨go12, (x9_1 : Int).toNat, none⟩ (.int .i64 (-1)))) ?hg ?ho ?hn ?hr ?_; (case ho => rfl); (case hg => rfl); (case hn => rfl); (case hr => (go_simp; done)); intro w14 hw; have hg : wr.grownBy w14 (some go12) := (by rw [hw]; exact HP13.2); have hp_ : Kd.R (Kd.int .i64) 3 w14 w.heap.size (fun _ => True) (.slice (some ⟨go12, 0, none⟩) x7_1.length co12) y105 := (by rw [hw, Ny105.out]; exact HP13.1); clear HP13; have n0_ := Aside0.mk (hp_); have n1_ := Aside0.mk (blk_grown (g := gb101) (o := .cells #[.int .i64 a0_0, .int .i64 a0_1] 40 (0, 0)) BK101.out hg (Kd.R_ne HO_7.out BK101.out (by decide))); have n2_ := Aside0.mk ((by rw [hw]; exact below_set (HB.out) GB12.out : Below w.heap.size w w14)); clear HO_7; clear BK101; clear HB; have HO_7 := n0_; have BK101 := n1_; have HB := n2_; clear n0_ n1_ n2_; clear hg hw hp_))
        go_loopg [10] k1 (fun kq v10 w' => ∃ (x7_2 : List Int) (x10_2 : Int), v10 = .int .i64 x10_2 ∧ Aside0 (spec_l12Trees.l1 kq a1 l2 x7_2 x8_1 x9_1 x10_2 a0_0 a0_1 = some r) ∧ Aside0 (kq ≤ k1) ∧ Aside0 (Kd.R (Kd.int .i64) 3 w' w.heap.size (fun _ => True) (.slice (some ⟨go12, 0, none⟩) x7_1.length co12) x7_2) ∧ Aside0 (w'.heap[gb101]? = some (.cells #[.int .i64 a0_0, .int .i64 a0_1] 40 (0, 0))) ∧ Aside0 (Below w.heap.size w w'))
        case atStart => exact ⟨(y105), (0), (by rfl), H', ⟨Nat.le_refl _⟩, ⟨by exact HO_7.out⟩, ⟨by exact BK101.out⟩, ⟨by repeat ((with_reducible exact HB.out))⟩⟩
        case round =>
          clear H'; try clear c1; try clear p1; try clear q1; try clear hx1; try clear c2; try clear p2; try clear c4; try clear c4b0; try clear c4b1; try clear c5; try clear c5b0; try clear c5b1; try clear c8; try clear c9; try clear c9b0; try clear c10; try clear c10b0; try clear c11; try clear c11b0; try clear p12; try clear q12; try clear hx12; try clear hf12; try clear hx12_0; try clear p12; try clear p2; try clear q12
          obtain ⟨x7_2, x10_2, rfl, HA, HK2, HO_7, BK101, HB⟩ := hrel
          have hl7_2 := (Kd.R_reads' HO_7.out).1
          rw [hl7_2] at HO_7
          (try simp only [hl7_2])
          (try simp only [hl7_2] at BK101)
          cases gk with
          | zero => exact absurd HA.out (by simp [spec_l12Trees.l1])
          | succ k2 =>
            have H := HA.out
            clear HA
            simp only [spec_l12Trees.l1] at H
            by_cases c15 : x10_2 < x9_1
            · rw [if_pos c15] at H
              have c15b0 : decide (x10_2 < x9_1) = true := decide_eq_true c15
              clear c15
              replace H := iN_ H; obtain ⟨c16, H⟩ := H
              have c16b0 : decide (0 ≤ x10_2) = true := decide_eq_true c16
              clear c16
              replace H := iN_ H; obtain ⟨c17, H⟩ := H
              have c17b0 : decide (x10_2 < (l2.length : Int)) = true := decide_eq_true c17
              clear c17
              replace H := iN_ H; obtain ⟨c18, H⟩ := H
              have c18b0 : decide (0 ≤ x9_1) = true := decide_eq_true c18
              clear c18
              replace H := iN_ H; obtain ⟨c19, H⟩ := H
              have c19b0 : decide (x9_1 < (l2.length : Int)) = true := decide_eq_true c19
              clear c19
              by_cases c20 : (rd l2 x10_2) = (rd l2 x9_1)
              · rw [if_pos c20] at H
                have c20b0 : ((rd l2 x10_2) == (rd l2 x9_1)) = true := beq_iff_eq.mpr c20
                have c20b1 : ((rd l2 x10_2) != (rd l2 x9_1)) = false := bne_eq_false_iff_eq.mpr c20
                clear c20
                replace H := iN_ H; obtain ⟨c21, H⟩ := H
                have c21b0 : decide (x10_2 < (x7_2.length : Int)) = true := decide_eq_true c21
                clear c21
                replace H := iN_ H; obtain ⟨c22, H⟩ := H
                have c22b0 : decide (x9_1 < (x7_2.length : Int)) = true := decide_eq_true c22
                clear c22
                obtain ⟨y109, hy109⟩ : ∃ y_ : List Int, y_ = (x7_2.set (x9_1 : Int).toNat (rd x7_2 x10_2)) := ⟨_, rfl⟩
                replace H : (spec_l12Trees.l1 k2 a1 l2 y109 x8_1 x9_1 (wrap64 (x10_2 + 1)) a0_0 a0_1) = some r := by (rw [hy109]; with_reducible exact H)
                have Ny109 := Aside0.mk hy109
                clear hy109
                have H' := Aside0.mk H
                clear H
                try go_wp2
                have n0_ := Aside0.mk (Kd.R_drew HO_7.out)
                have n1_ := Aside0.mk (blk_drew BK101.out); have n2_ := Aside0.mk (below_drew1 HB.out); clear HO_7; clear BK101; clear HB; have HO_7 := n0_; have BK101 := n1_; have HB := n2_; clear n0_ n1_ n2_
                have p106 : 0 ≤ (x10_2 : Int) := of_decide_eq_true (by with_reducible assumption)
                have q106 : x10_2 < (l2.length : Int) := of_decide_eq_true (by with_reducible assumption)
                obtain ⟨ad106, e106, hx106_0⟩ := Kd.at_int HR2.out x10_2 p106 q106
                have hw106_0 := hx106_0
                cases e106
                replace hx106_0 := (HB.out.cell (World.block_lt_of_cell? w _ hx106_0)).trans hx106_0
                replace p106 := eq_true p106; replace q106 := eq_true q106
                have p107 : 0 ≤ (x9_1 : Int) := of_decide_eq_true (by with_reducible assumption)
                have q107 : x9_1 < (l2.length : Int) := of_decide_eq_true (by with_reducible assumption)
                obtain ⟨ad107, e107, hx107_0⟩ := Kd.at_int HR2.out x9_1 p107 q107
                have hw107_0 := hx107_0
                obtain rfl : ad106 = ad107 := (by injection e107)
                replace hx107_0 := (HB.out.cell (World.block_lt_of_cell? w _ hx107_0)).trans hx107_0
                replace p107 := eq_true p107; replace q107 := eq_true q107
                refine start_ (n := 9) (S := fun w' => w'.cell? (ad106.add (x10_2).toNat) = some (.int .i64 (rd l2 x10_2)) ∧ w'.cell? (ad106.add (x9_1).toNat) = some (.int .i64 (rd l2 x9_1))) (ds := []) #[false, false, false, false, false, false, false, false, false] (by kernel_rfl) rfl rfl ⟨((HB.out.cell (World.block_lt_of_cell? w _ hw106_0)).trans hw106_0), ((HB.out.cell (World.block_lt_of_cell? w _ hw107_0)).trans hw107_0)⟩ (fun hHeld => ?_); refine with_tabW spec_l12Trees.tab10 spec_l12Trees.bits10 (fun HT_ HW_ => ?_)
                generalize wr.drew = w24 at HO_7 BK101 HB hx106_0 hx107_0 hHeld ⊢
                refine pu_ (v := ?_) (a' := ?_) 0 (some 35) rfl rfl HT_ (by kernel_rfl) (.inl ⟨by rfl, ?_⟩) ?_ ?_; rotate_left 2; (intro w'; go_simp; with_reducible rfl); (simp only [P6_]; rfl)
                refine pu_ (v := ?_) (a' := ?_) 1 (some 36) rfl rfl HT_ (by kernel_rfl) (.inl ⟨by rfl, ?_⟩) ?_ ?_; rotate_left 2; (intro w'; go_simp; with_reducible rfl); (simp only [P6_]; rfl)
                refine pu_ (v := ?_) (a' := ?_) 2 (some 37) rfl rfl HT_ (by kernel_rfl) (.inl ⟨by rfl, ?_⟩) ?_ ?_; rotate_left 2; (intro w'; go_simp; with_reducible rfl); (simp only [P6_]; rfl)
                refine pu_ (v := ?_) (a' := ?_) 4 (some 39) rfl rfl HT_ (by kernel_rfl) (.inl ⟨by rfl, ?_⟩) ?_ ?_; rotate_left 2; (intro w'; go_simp; with_reducible rfl); (simp only [P6_]; rfl)
                refine pu_ (v := ?_) (a' := ?_) 5 (some 40) rfl rfl HT_ (by kernel_rfl) (.inl ⟨by rfl, ?_⟩) ?_ ?_; rotate_left 2; (intro w'; go_simp; with_reducible rfl); (simp only [P6_]; rfl)
                refine pu_ (v := ?_) (a' := ?_) 6 (some 41) rfl rfl HT_ (by kernel_rfl) (.inl ⟨by rfl, ?_⟩) ?_ ?_; rotate_left 2; (intro w'; go_simp; with_reducible rfl); (simp only [P6_]; rfl)
                refine ta_ (v := ?_) (a' := ?_) 3 (some 38) rfl rfl HT_ HW_ (by kernel_rfl) (.inl ⟨by rfl, ?_⟩) hHeld ?_ ?_; rotate_left 2; (rintro w' ⟨s0, s1⟩; go_simp; with_reducible rfl); (simp only [P6_]; rfl)
                refine ta_ (v := ?_) (a' := ?_) 7 (some 42) rfl rfl HT_ HW_ (by kernel_rfl) (.inl ⟨by rfl, ?_⟩) hHeld ?_ ?_; rotate_left 2; (rintro w' ⟨s0, s1⟩; go_simp; with_reducible rfl); (simp only [P6_]; rfl)
                refine pu_ (v := ?_) (a' := ?_) 8 (some 43) rfl rfl HT_ (by kernel_rfl) (.inl ⟨by rfl, ?_⟩) ?_ ?_; rotate_left 2; (intro w'; go_simp; with_reducible rfl); (simp only [P6_]; rfl)
                refine done_ (done_of HT_.out (by kernel_rfl)) ?_
                have p108 : 0 ≤ (x10_2 : Int) := of_decide_eq_true (by with_reducible assumption)
                have q108 : x10_2 < (x7_2.length : Int) := of_decide_eq_true (by with_reducible assumption)
                obtain ⟨ad108, e108, hx108_0⟩ := Kd.at_int (Kd.R_reads' HO_7.out).2.2 x10_2 p108 q108
                obtain rfl : (⟨go12, 0, none⟩ : Addr) = ad108 := (by injection e108)
                (simp only [add_plain] at hx108_0)
                replace p108 := eq_true p108; replace q108 := eq_true q108
                have p23 : 0 ≤ (x9_1 : Int) := of_decide_eq_true (by with_reducible assumption)
                have q23 : (x9_1 : Int) < ((x7_2.length : Int) : Int) := of_decide_eq_true (by with_reducible assumption)
                obtain ⟨hx23_0, hf23_0⟩ := Kd.R_celln 0 HO_7.out (x9_1 : Int) p23 q23
                replace p23 := eq_true p23; replace q23 := eq_true q23
                obtain ⟨hy25_, hz25_⟩ := Kd.R_celln 0 HO_7.out (x9_1 : Int) (of_decide_eq_true (by with_reducible assumption)) (of_decide_eq_true (by with_reducible assumption))
                have HP25 := Kd.R_putg HO_7.out (x9_1 : Int) (rd x7_2 x10_2)
                try go_wp2_with (((with_reducible refine gate_store (t := 3) (p := 50) rfl ?_); refine store_event (t := 3) (p := 50) (v := ?vo_w26) (w1 := (w24.setCell ⟨go12, (x9_1 : Int).toNat, none⟩ (.int .i64 (rd x7_2 x10_2)))) ?hg ?ho ?hn ?hr ?_; (case ho => rfl); (case hg => rfl); (case hn => rfl); (case hr => (go_simp; done)); intro w26 hw; have hg : w24.grownBy w26 (some go12) := (by rw [hw]; exact HP25.2); have hp_ : Kd.R (Kd.int .i64) 3 w26 w.heap.size (fun _ => True) (.slice (some ⟨go12, 0, none⟩) x7_2.length co12) y109 := (by rw [hw, Ny109.out]; exact HP25.1); clear HP25; have n0_ := Aside0.mk (hp_); have n1_ := Aside0.mk (blk_grown (g := gb101) (o := .cells #[.int .i64 a0_0, .int .i64 a0_1] 40 (0, 0)) BK101.out hg (Kd.R_ne HO_7.out BK101.out (by decide))); have n2_ := Aside0.mk ((by rw [hw]; exact below_set (HB.out) GB12.out : Below w.heap.size w w26)); clear HO_7; clear BK101; clear HB; have HO_7 := n0_; have BK101 := n1_; have HB := n2_; clear n0_ n1_ n2_; clear hg hw hp_))
                (try simp only [← hl7_2])
                go_roundg k2
                case measure => have := HK1.out; have := HK2.out; omega
                case rel => exact ⟨(y109), (wrap64 (x10_2 + 1)), (by rfl), H', ⟨by have := HK1.out; have := HK2.out; omega⟩, ⟨by (try simp only [hl7_2]); exact HO_7.out⟩, ⟨by (try simp only [hl7_2]); exact BK101.out⟩, ⟨by repeat ((with_reducible exact HB.out))⟩⟩
              · rw [if_neg c20] at H
                have c20b0 : ((rd l2 x10_2) == (rd l2 x9_1)) = false := beq_eq_false_iff_ne.mpr c20
                have c20b1 : ((rd l2 x10_2) != (rd l2 x9_1)) = true := bne_iff_ne.mpr c20
                have H' := Aside0.mk H
                clear H
                try go_wp2
                have n0_ := Aside0.mk (Kd.R_drew HO_7.out)
                have n1_ := Aside0.mk (blk_drew BK101.out); have n2_ := Aside0.mk (below_drew1 HB.out); clear HO_7; clear BK101; clear HB; have HO_7 := n0_; have BK101 := n1_; have HB := n2_; clear n0_ n1_ n2_
                have p106 : 0 ≤ (x10_2 : Int) := of_decide_eq_true (by with_reducible assumption)
                have q106 : x10_2 < (l2.length : Int) := of_decide_eq_true (by with_reducible assumption)
                obtain ⟨ad106, e106, hx106_0⟩ := Kd.at_int HR2.out x10_2 p106 q106
                have hw106_0 := hx106_0
                cases e106
                replace hx106_0 := (HB.out.cell (World.block_lt_of_cell? w _ hx106_0)).trans hx106_0
                replace p106 := eq_true p106; replace q106 := eq_true q106
                have p107 : 0 ≤ (x9_1 : Int) := of_decide_eq_true (by with_reducible assumption)
                have q107 : x9_1 < (l2.length : Int) := of_decide_eq_true (by with_reducible assumption)
                obtain ⟨ad107, e107, hx107_0⟩ := Kd.at_int HR2.out x9_1 p107 q107
                have hw107_0 := hx107_0
                obtain rfl : ad106 = ad107 := (by injection e107)
                replace hx107_0 := (HB.out.cell (World.block_lt_of_cell? w _ hx107_0)).trans hx107_0
                replace p107 := eq_true p107; replace q107 := eq_true q107
                refine start_ (n := 9) (S := fun w' => w'.cell? (ad106.add (x10_2).toNat) = some (.int .i64 (rd l2 x10_2)) ∧ w'.cell? (ad106.add (x9_1).toNat) = some (.int .i64 (rd l2 x9_1))) (ds := []) #[false, false, false, false, false, false, false, false, false] (by kernel_rfl) rfl rfl ⟨((HB.out.cell (World.block_lt_of_cell? w _ hw106_0)).trans hw106_0), ((HB.out.cell (World.block_lt_of_cell? w _ hw107_0)).trans hw107_0)⟩ (fun hHeld => ?_); refine with_tabW spec_l12Trees.tab10 spec_l12Trees.bits10 (fun HT_ HW_ => ?_)
                generalize wr.drew = w27 at HO_7 BK101 HB hx106_0 hx107_0 hHeld ⊢
                refine pu_ (v := ?_) (a' := ?_) 0 (some 35) rfl rfl HT_ (by kernel_rfl) (.inl ⟨by rfl, ?_⟩) ?_ ?_; rotate_left 2; (intro w'; go_simp; with_reducible rfl); (simp only [P6_]; rfl)
                refine pu_ (v := ?_) (a' := ?_) 1 (some 36) rfl rfl HT_ (by kernel_rfl) (.inl ⟨by rfl, ?_⟩) ?_ ?_; rotate_left 2; (intro w'; go_simp; with_reducible rfl); (simp only [P6_]; rfl)
                refine pu_ (v := ?_) (a' := ?_) 2 (some 37) rfl rfl HT_ (by kernel_rfl) (.inl ⟨by rfl, ?_⟩) ?_ ?_; rotate_left 2; (intro w'; go_simp; with_reducible rfl); (simp only [P6_]; rfl)
                refine pu_ (v := ?_) (a' := ?_) 4 (some 39) rfl rfl HT_ (by kernel_rfl) (.inl ⟨by rfl, ?_⟩) ?_ ?_; rotate_left 2; (intro w'; go_simp; with_reducible rfl); (simp only [P6_]; rfl)
                refine pu_ (v := ?_) (a' := ?_) 5 (some 40) rfl rfl HT_ (by kernel_rfl) (.inl ⟨by rfl, ?_⟩) ?_ ?_; rotate_left 2; (intro w'; go_simp; with_reducible rfl); (simp only [P6_]; rfl)
                refine pu_ (v := ?_) (a' := ?_) 6 (some 41) rfl rfl HT_ (by kernel_rfl) (.inl ⟨by rfl, ?_⟩) ?_ ?_; rotate_left 2; (intro w'; go_simp; with_reducible rfl); (simp only [P6_]; rfl)
                refine ta_ (v := ?_) (a' := ?_) 3 (some 38) rfl rfl HT_ HW_ (by kernel_rfl) (.inl ⟨by rfl, ?_⟩) hHeld ?_ ?_; rotate_left 2; (rintro w' ⟨s0, s1⟩; go_simp; with_reducible rfl); (simp only [P6_]; rfl)
                refine ta_ (v := ?_) (a' := ?_) 7 (some 42) rfl rfl HT_ HW_ (by kernel_rfl) (.inl ⟨by rfl, ?_⟩) hHeld ?_ ?_; rotate_left 2; (rintro w' ⟨s0, s1⟩; go_simp; with_reducible rfl); (simp only [P6_]; rfl)
                refine pu_ (v := ?_) (a' := ?_) 8 (some 43) rfl rfl HT_ (by kernel_rfl) (.inl ⟨by rfl, ?_⟩) ?_ ?_; rotate_left 2; (intro w'; go_simp; with_reducible rfl); (simp only [P6_]; rfl)
                refine done_ (done_of HT_.out (by kernel_rfl)) ?_
                try go_wp2
                (try simp only [← hl7_2])
                go_roundg k2
                case measure => have := HK1.out; have := HK2.out; omega
                case rel => exact ⟨(x7_2), (wrap64 (x10_2 + 1)), (by rfl), H', ⟨by have := HK1.out; have := HK2.out; omega⟩, ⟨by (try simp only [hl7_2]); exact HO_7.out⟩, ⟨by (try simp only [hl7_2]); exact BK101.out⟩, ⟨by repeat ((with_reducible exact HB.out))⟩⟩
            · rw [if_neg c15] at H
              have c15b0 : decide (x10_2 < x9_1) = false := decide_eq_false c15
              clear c15
              replace H := iN_ H; obtain ⟨c28, H⟩ := H
              have c28b0 : decide (0 ≤ x9_1) = true := decide_eq_true c28
              clear c28
              replace H := iN_ H; obtain ⟨c29, H⟩ := H
              have c29b0 : decide (x9_1 < (x7_2.length : Int)) = true := decide_eq_true c29
              clear c29
              by_cases c30 : (rd x7_2 x9_1) < 0
              · rw [if_pos c30] at H
                have c30b0 : decide ((rd x7_2 x9_1) < 0) = true := decide_eq_true c30
                clear c30
                obtain ⟨y111, hy111⟩ : ∃ y_ : List Int, y_ = (x7_2.set (x9_1 : Int).toNat x8_1) := ⟨_, rfl⟩
                replace H : (spec_l12Trees.l0 k2 a1 l2 y111 (wrap64 (x8_1 + 1)) (wrap64 (x9_1 + 1)) a0_0 a0_1) = some r := by (rw [hy111]; with_reducible exact H)
                have Ny111 := Aside0.mk hy111
                clear hy111
                have H' := Aside0.mk H
                clear H
                have p110 : 0 ≤ (x9_1 : Int) := of_decide_eq_true (by with_reducible assumption)
                have q110 : x9_1 < (x7_2.length : Int) := of_decide_eq_true (by with_reducible assumption)
                obtain ⟨ad110, e110, hx110_0⟩ := Kd.at_int (Kd.R_reads' HO_7.out).2.2 x9_1 p110 q110
                obtain rfl : (⟨go12, 0, none⟩ : Addr) = ad110 := (by injection e110)
                (simp only [add_plain] at hx110_0)
                replace p110 := eq_true p110; replace q110 := eq_true q110
                have p31 : 0 ≤ (x9_1 : Int) := of_decide_eq_true (by with_reducible assumption)
                have q31 : (x9_1 : Int) < ((x7_2.length : Int) : Int) := of_decide_eq_true (by with_reducible assumption)
                obtain ⟨hx31_0, hf31_0⟩ := Kd.R_celln 0 HO_7.out (x9_1 : Int) p31 q31
                replace p31 := eq_true p31; replace q31 := eq_true q31
                have HP32 := Kd.R_putg HO_7.out (x9_1 : Int) x8_1
                go_wp2_with (((with_reducible refine gate_store (t := 3) (p := 59) rfl ?_); refine store_event (t := 3) (p := 59) (v := ?vo_w33) (w1 := (wr.setCell ⟨go12, (x9_1 : Int).toNat, none⟩ (.int .i64 x8_1))) ?hg ?ho ?hn ?hr ?_; (case ho => rfl); (case hg => rfl); (case hn => rfl); (case hr => (go_simp; done)); intro w33 hw; have hg : wr.grownBy w33 (some go12) := (by rw [hw]; exact HP32.2); have hp_ : Kd.R (Kd.int .i64) 3 w33 w.heap.size (fun _ => True) (.slice (some ⟨go12, 0, none⟩) x7_2.length co12) y111 := (by rw [hw, Ny111.out]; exact HP32.1); clear HP32; have n0_ := Aside0.mk (hp_); have n1_ := Aside0.mk (blk_grown (g := gb101) (o := .cells #[.int .i64 a0_0, .int .i64 a0_1] 40 (0, 0)) BK101.out hg (Kd.R_ne HO_7.out BK101.out (by decide))); have n2_ := Aside0.mk ((by rw [hw]; exact below_set (HB.out) GB12.out : Below w.heap.size w w33)); clear HO_7; clear BK101; clear HB; have HO_7 := n0_; have BK101 := n1_; have HB := n2_; clear n0_ n1_ n2_; clear hg hw hp_))
                (try simp only [← hl7_2])
                go_roundg k2
                case measure => have := HK1.out; have := HK2.out; omega
                case rel => exact ⟨(y111), (wrap64 (x8_1 + 1)), (wrap64 (x9_1 + 1)), (by rfl), (by rfl), H', ⟨by have := HK1.out; have := HK2.out; omega⟩, ⟨by (try simp only [hl7_2]); exact HO_7.out⟩, ⟨by (try simp only [hl7_2]); exact BK101.out⟩, ⟨by repeat ((with_reducible exact HB.out))⟩⟩
              · rw [if_neg c30] at H
                have c30b0 : decide ((rd x7_2 x9_1) < 0) = false := decide_eq_false c30
                clear c30
                have H' := Aside0.mk H
                clear H
                have p110 : 0 ≤ (x9_1 : Int) := of_decide_eq_true (by with_reducible assumption)
                have q110 : x9_1 < (x7_2.length : Int) := of_decide_eq_true (by with_reducible assumption)
                obtain ⟨ad110, e110, hx110_0⟩ := Kd.at_int (Kd.R_reads' HO_7.out).2.2 x9_1 p110 q110
                obtain rfl : (⟨go12, 0, none⟩ : Addr) = ad110 := (by injection e110)
                (simp only [add_plain] at hx110_0)
                replace p110 := eq_true p110; replace q110 := eq_true q110
                go_wp2
                (try simp only [← hl7_2])
                go_roundg k2
                case measure => have := HK1.out; have := HK2.out; omega
                case rel => exact ⟨(x7_2), (x8_1), (wrap64 (x9_1 + 1)), (by rfl), (by rfl), H', ⟨by have := HK1.out; have := HK2.out; omega⟩, ⟨by (try simp only [hl7_2]); exact HO_7.out⟩, ⟨by (try simp only [hl7_2]); exact BK101.out⟩, ⟨by repeat ((with_reducible exact HB.out))⟩⟩
      · rw [if_neg c9] at H
        have c9b0 : decide (x9_1 < (l2.length : Int)) = false := decide_eq_false c9
        clear c9
        obtain ⟨y112, hy112⟩ : ∃ y_ : List (List Int), y_ = (([] : List (List Int))) := ⟨_, rfl⟩
        replace H : (spec_l12Trees.l2 k1 a1 x7_1 x8_1 y112 0 a0_0 a0_1) = some r := by (rw [hy112]; with_reducible exact H)
        have Ny112 := Aside0.mk hy112
        clear hy112
        have H' := Aside0.mk H
        clear H
        go_wp2_with (((with_reducible refine gate_dst (N := 62) rfl ?_); refine Kd.S_lit (Kd.slice 3 (Kd.int .i64)) _ 29 ?hg (N := 62) ?hd (xs := ([] : List (List Int))) (inner := []) (ok := fun _ => True) (okp := fun _ => True) ?hr ?hp (fun _ hk => hk) trivial (Below.refl _ _) (Nat.le_refl _) (by simp) ?_; (case hd => rfl); (case hg => rfl); (case hr => (go_simp; done)); (case hp => exact (Reps.none _ _)); intro v113 w34 ho35 hb hg_ hnew_; clear hg_ hnew_; (rw [← Ny112.out] at ho35); have n0_ := Aside0.mk (Kd.R_below HO_7.out hb); have n1_ := Aside0.mk (Kd.S_lower (Kd.S_new' ho35 (Kd.R_lt HO_7.out)) (below_size HB.out)); have n2_ := Aside0.mk (blk_below (g := gb101) (o := .cells #[.int .i64 a0_0, .int .i64 a0_1] 40 (0, 0)) BK101.out hb); have n3_ := Aside0.mk (below_step HB.out hb); clear HO_7; clear BK101; clear HB; have HO_7 := n0_; have HO114 := n1_; have BK101 := n2_; have HB := n3_; clear n0_ n1_ n2_ n3_; clear hb ho35))
        go_loopg [11, 12] k1 (fun kq v11 v12 w' => ∃ (x11_2 : List (List Int)) (x12_2 : Int), v12 = .int .i64 x12_2 ∧ Aside0 (spec_l12Trees.l2 kq a1 x7_1 x8_1 x11_2 x12_2 a0_0 a0_1 = some r) ∧ Aside0 (kq ≤ k1) ∧ Aside0 (Kd.R (Kd.int .i64) 3 w' w.heap.size (fun _ => True) v103 x7_1) ∧ Aside0 (Kd.S (Kd.slice 3 (Kd.int .i64)) 29 w' w.heap.size (fun k_ => some k_ ≠ (v103 : Value).ownBlock) v11 x11_2) ∧ Aside0 (w'.heap[gb101]? = some (.cells #[.int .i64 a0_0, .int .i64 a0_1] 40 (0, 0))) ∧ Aside0 (Below w.heap.size w w'))
        case atStart => exact ⟨(y112), (0), (by rfl), H', ⟨Nat.le_refl _⟩, ⟨by exact HO_7.out⟩, ⟨by exact Kd.S_mono HO114.out (fun _ hk => hk.2)⟩, ⟨by exact BK101.out⟩, ⟨by repeat ((with_reducible exact HB.out))⟩⟩
        case round =>
          clear H'; try clear c1; try clear p1; try clear q1; try clear hx1; try clear c2; try clear p2; try clear q2; try clear hx2; try clear c3; try clear p3; try clear q3; try clear hx3; try clear hf3; try clear c4; try clear c4b0; try clear c4b1; try clear c5; try clear c5b0; try clear c5b1; try clear p6; try clear c8; try clear c9; try clear c9b0; try clear c10; try clear c10b0; try clear p10; try clear q10; try clear hx10; try clear c11; try clear c11b0; try clear p11; try clear q11; try clear hx11; try clear p12; try clear q12; try clear hx12; try clear hf12; try clear c15; try clear c15b0; try clear c16; try clear c16b0; try clear c17; try clear c17b0; try clear c18; try clear c18b0; try clear c19; try clear c19b0; try clear c20; try clear c20b0; try clear c20b1; try clear c21; try clear c21b0; try clear c22; try clear c22b0; try clear p23; try clear q23; try clear hx23; try clear hf23; try clear c28; try clear c28b0; try clear c29; try clear c29b0; try clear c30; try clear c30b0; try clear p31; try clear q31; try clear hx31; try clear hf31; try clear hx106_0; try clear hx107_0; try clear hx108_0; try clear hx110_0; try clear hx12_0; try clear hx23_0; try clear hx31_0; try clear p1; try clear p106; try clear p107; try clear p108; try clear p110; try clear p12; try clear p2; try clear p23; try clear p31; try clear q1; try clear q106; try clear q107; try clear q108; try clear q110; try clear q12; try clear q23; try clear q31
          obtain ⟨x11_2, x12_2, rfl, HA, HK2, HO_7, HO_11, BK101, HB⟩ := hrel
          cases gk with
          | zero => exact absurd HA.out (by simp [spec_l12Trees.l2])
          | succ k2 =>
            have H := HA.out
            clear HA
            simp only [spec_l12Trees.l2] at H
            by_cases c36 : x12_2 < x8_1
            · rw [if_pos c36] at H
              have c36b0 : decide (x12_2 < x8_1) = true := decide_eq_true c36
              clear c36
              replace H := iN_ H; obtain ⟨c37, H⟩ := H
              have c37b0 := eq_true c37
              have c37b1 : decide (0 ≤ x8_1) = true := decide_eq_true c37
              clear c37
              replace H := iN_ H; obtain ⟨c38, H⟩ := H
              have c38b0 := eq_true c38
              have c38b1 : decide ((x8_1 : Int).toNat ≤ 35184372088832) = true := decide_eq_true c38
              clear c38
              obtain ⟨y115, hy115⟩ : ∃ y_ : List Int, y_ = (List.replicate (x8_1 : Int).toNat 0) := ⟨_, rfl⟩
              replace H : (if x11_2.length < 5864062014805 then (spec_l12Trees.l2 k2 a1 x7_1 x8_1 (x11_2 ++ [y115]) (wrap64 (x12_2 + 1)) a0_0 a0_1) else (none)) = some r := by (rw [hy115]; with_reducible exact H)
              have Ny115 := Aside0.mk hy115
              clear hy115
              replace H := iN_ H; obtain ⟨c39, H⟩ := H
              have LMc39 := Aside0.mk c39
              clear c39
              obtain ⟨y118, hy118⟩ : ∃ y_ : List (List Int), y_ = (x11_2 ++ [y115]) := ⟨_, rfl⟩
              replace H : (spec_l12Trees.l2 k2 a1 x7_1 x8_1 y118 (wrap64 (x12_2 + 1)) a0_0 a0_1) = some r := by (rw [hy118]; with_reducible exact H)
              have Ny118 := Aside0.mk hy118
              clear hy118
              have H' := Aside0.mk H
              clear H
              go_wp2_with (first | ((with_reducible refine gate_dst (N := 70) rfl ?_); refine Kd.R_make (Kd.int .i64) _ 3 rfl (N := 70) rfl 29 _ _ rfl x8_1 rfl rfl Try.underlying29 (.int .i64 0) 8 info3 rfl (by decide) (by omega) 0 (ok := fun _ => True) (okp := fun _ => True) rfl (fun _ hk => hk) trivial (of_decide_eq_true (by with_reducible assumption)) (Nat.le_trans (Nat.mul_le_mul_right _ (of_decide_eq_true (by with_reducible assumption) : x8_1.toNat ≤ 35184372088832)) (by omega)) (Below.refl _ _) (Nat.le_refl _) ?_; intro v116 w40 ho41 hb hg_ hnew_; clear hg_ hnew_; (rw [← Ny115.out] at ho41); have n0_ := Aside0.mk (Kd.R_elder' HO_7.out (Kd.R_base ho41) hb); have n1_ := Aside0.mk (Kd.S_elder' HO_11.out (Kd.R_base ho41) hb); have n2_ := Aside0.mk (Kd.R_lower (Kd.R_new' ho41 (Kd.R_lt HO_7.out)) (below_size HB.out)); have n3_ := Aside0.mk (blk_below (g := gb101) (o := .cells #[.int .i64 a0_0, .int .i64 a0_1] 40 (0, 0)) BK101.out hb); have n4_ := Aside0.mk (below_step HB.out hb); clear HO_7; clear HO_11; clear BK101; clear HB; have HO_7 := n0_; have HO_11 := n1_; have HO117 := n2_; have BK101 := n3_; have HB := n4_; clear n0_ n1_ n2_ n3_ n4_; clear hb ho41; obtain ⟨Ao43, co43, eo43⟩ := Kd.R_slice HO117.out; subst eo43) | ((with_reducible refine gate_builtin (b := .append) (xs := #[.tmp 68, .tmp 71]) rfl ?_); at_builtin; refine Kd.S_append (Kd.slice 3 (Kd.int .i64)) (w0 := w) w.heap.size rfl (.tmp 68) (.tmp 71) 24 29 (.slice none 0 0) 24 rfl Try.underlying24 info29 rfl (by decide) (by omega) u11 x11_2 y115 [.slice Ao43 y115.length co43] (fun k_ => some k_ ≠ (v103 : Value).ownBlock) (fun k_ => some k_ = (.slice Ao43 y115.length co43 : Value).ownBlock) rfl rfl ?aP (fun k_ hk_ => ((Kd.R_mono (ok' := fun k_ => ((fun k_ => some k_ ≠ (v103 : Value).ownBlock)) k_ ∧ some k_ ≠ (u11 : Value).ownBlock) (Kd.R_apart' (HO117.out) (Kd.S_typed HO_11.out) (by decide)) (fun k_ hk => ⟨hk.1.2, hk.2⟩))).1 k_ hk_.symm) ?aF ?aO ?aB ?aS ?aL ?_; (case aP => exact Kd.M_row (Kd.R_mono (Kd.R_tight rfl (Kd.R_mono (ok' := fun k_ => ((fun k_ => some k_ ≠ (v103 : Value).ownBlock)) k_ ∧ some k_ ≠ (u11 : Value).ownBlock) (Kd.R_apart' (HO117.out) (Kd.S_typed HO_11.out) (by decide)) (fun k_ hk => ⟨hk.1.2, hk.2⟩))) (fun _ h_ => h_))); (case aB => exact HB.out); (case aF => exact (fun k_ hk => Kd.fresh' (Kd.R_lt HO_7.out) k_ hk)); (case aO => exact (by exact Kd.S_mono HO_11.out (fun k_ hk => ⟨hk.1, fun e_ => hk.2 e_⟩))); (case aS => exact (below_size HB.out)); (case aL => have := LMc39.out; omega); intro v119 w42 ho hb hg hat; rw [← Ny118.out] at ho; have n0_ := Aside0.mk (Kd.R_over' HO_7.out (Kd.S_typed HO_11.out) (by decide) hg); have n1_ := Aside0.mk (blk_grown (g := gb101) (o := .cells #[.int .i64 a0_0, .int .i64 a0_1] 40 (0, 0)) BK101.out hg (Kd.S_ne HO_11.out BK101.out (by decide))); have n2_ := Aside0.mk (hb); have n3_ := Aside0.mk (ho); clear HO_7; clear BK101; clear HB; clear HO_11; clear HO117; have HO_7 := n0_; have BK101 := n1_; have HB := n2_; have HO120 := n3_; clear n0_ n1_ n2_ n3_; clear ho hb hg hat))
              go_roundg k2
              case measure => have := HK1.out; have := HK2.out; omega
              case rel => exact ⟨(y118), (wrap64 (x12_2 + 1)), (by rfl), H', ⟨by have := HK1.out; have := HK2.out; omega⟩, ⟨by exact Kd.R_mono HO_7.out (fun _ hk => trivial)⟩, ⟨by exact HO120.out⟩, ⟨by exact BK101.out⟩, ⟨by repeat ((with_reducible exact HB.out))⟩⟩
            · rw [if_neg c36] at H
              have c36b0 : decide (x12_2 < x8_1) = false := decide_eq_false c36
              clear c36
              have H' := Aside0.mk H
              clear H
              go_wp2
              go_loopg [13] k2 (fun kq v13 w' => ∃ (x7_3 : List Int) (x11_3 : List (List Int)) (x13_3 : Int), v13 = .int .i64 x13_3 ∧ Aside0 (spec_l12Trees.l3 kq a1 x7_3 x8_1 x11_3 x13_3 a0_0 a0_1 = some r) ∧ Aside0 (kq ≤ k2) ∧ Aside0 (Kd.R (Kd.int .i64) 3 w' w.heap.size (fun _ => True) v103 x7_3) ∧ Aside0 (Kd.S (Kd.slice 3 (Kd.int .i64)) 29 w' w.heap.size (fun k_ => some k_ ≠ (v103 : Value).ownBlock) u11 x11_3) ∧ Aside0 (w'.heap[gb101]? = some (.cells #[.int .i64 a0_0, .int .i64 a0_1] 40 (0, 0))) ∧ Aside0 (Below w.heap.size w w'))
              case atStart => exact ⟨(x7_1), (x11_2), (0), (by rfl), H', ⟨Nat.le_refl _⟩, ⟨by exact HO_7.out⟩, ⟨by exact HO_11.out⟩, ⟨by exact BK101.out⟩, ⟨by repeat ((with_reducible exact HB.out))⟩⟩
              case round =>
                clear H'; try clear c1; try clear p1; try clear q1; try clear hx1; try clear c2; try clear p2; try clear q2; try clear hx2; try clear c3; try clear p3; try clear q3; try clear hx3; try clear hf3; try clear c4; try clear c4b0; try clear c4b1; try clear c5; try clear c5b0; try clear c5b1; try clear p6; try clear c8; try clear c9; try clear c9b0; try clear c10; try clear c10b0; try clear p10; try clear q10; try clear hx10; try clear c11; try clear c11b0; try clear p11; try clear q11; try clear hx11; try clear p12; try clear q12; try clear hx12; try clear hf12; try clear c15; try clear c15b0; try clear c16; try clear c16b0; try clear c17; try clear c17b0; try clear c18; try clear c18b0; try clear c19; try clear c19b0; try clear c20; try clear c20b0; try clear c20b1; try clear c21; try clear c21b0; try clear c22; try clear c22b0; try clear p23; try clear q23; try clear hx23; try clear hf23; try clear c28; try clear c28b0; try clear c29; try clear c29b0; try clear c30; try clear c30b0; try clear p31; try clear q31; try clear hx31; try clear hf31; try clear c36; try clear c36b0; try clear c37; try clear c37b0; try clear c37b1; try clear c38; try clear c38b0; try clear c38b1; try clear c39; try clear hx106_0; try clear hx107_0; try clear hx108_0; try clear hx110_0; try clear hx12_0; try clear hx23_0; try clear hx31_0; try clear p1; try clear p10; try clear p106; try clear p107; try clear p108; try clear p11; try clear p110; try clear p12; try clear p2; try clear p23; try clear p3; try clear p31; try clear p6; try clear q1; try clear q10; try clear q106; try clear q107; try clear q108; try clear q11; try clear q110; try clear q12; try clear q2; try clear q23; try clear q3; try clear q31
                obtain ⟨x7_3, x11_3, x13_3, rfl, HA, HK3, HO_7, HO_11, BK101, HB⟩ := hrel
                cases gk with
                | zero => exact absurd HA.out (by simp [spec_l12Trees.l3])
                | succ k3 =>
                  have H := HA.out
                  clear HA
                  simp only [spec_l12Trees.l3] at H
                  obtain ⟨t121, A440, H⟩ := Option.bind_eq_some_iff.mp H
                  (try dsimp only at H); have A44 := Aside0.mk A440; clear A440
                  by_cases c45 : x13_3 < t121
                  · rw [if_pos c45] at H
                    have c45b0 : decide (x13_3 < t121) = true := decide_eq_true c45
                    clear c45
                    obtain ⟨⟨t123, t124⟩, A460, H⟩ := Option.bind_eq_some_iff.mp H
                    (try dsimp only at H); have A46 := Aside0.mk A460; clear A460
                    obtain ⟨t125, A470, H⟩ := Option.bind_eq_some_iff.mp H
                    (try dsimp only at H); have A47 := Aside0.mk A470; clear A470
                    by_cases c48 : t125 = true
                    · subst c48
                      rw [if_pos rfl] at H
                      have H' := Aside0.mk H
                      clear H
                      obtain ⟨hcz49_0, hcz49_1⟩ := kk2_ BK101.1
                      have hfz49_0 := blk_frozen BK101.out 0
                      have hfz49_1 := blk_frozen BK101.out 1
                      try go_wp2_with (first | ((with_reducible refine gate_callee (f := 32) rfl ?_); refine goesL_ (some 75) rfl rfl Try.func32 (by kernel_rfl) rfl #[.agg #[.int .i64 a0_0, .int .i64 a0_1]] rfl (by (try simp only [List.map_toArray, List.map_cons, List.map_nil]); rfl) ?_; (with_reducible refine (spec_CountGaps.calls a0_0 a0_1 t121 _ A44.out).mono ?_); rintro e w50 ⟨rfl, hb⟩; refine ⟨_, rfl, ?_⟩; have n0_ := Aside0.mk (Kd.R_below HO_7.out hb); have n1_ := Aside0.mk (Kd.S_below HO_11.out hb); have n2_ := Aside0.mk (blk_below (g := gb101) (o := .cells #[.int .i64 a0_0, .int .i64 a0_1] 40 (0, 0)) BK101.out hb); have n3_ := Aside0.mk (below_step HB.out hb); clear HO_7; clear HO_11; clear BK101; clear HB; have HO_7 := n0_; have HO_11 := n1_; have BK101 := n2_; have HB := n3_; clear n0_ n1_ n2_ n3_; (try clear hb); (try clear hb2); (try clear hk); (try clear hi); obtain ⟨hcz51_0, hcz51_1⟩ := kk2_ BK101.1; have hfz51_0 := blk_frozen BK101.out 0; have hfz51_1 := blk_frozen BK101.out 1) | ((with_reducible refine gate_callee (f := 84) rfl ?_); refine goesL_ (some 82) rfl rfl Try.func84 (by kernel_rfl) rfl #[.agg #[.int .i64 a0_0, .int .i64 a0_1], .int .i64 x13_3] rfl (by (try simp only [List.map_toArray, List.map_cons, List.map_nil]); rfl) ?_; (with_reducible refine (spec_EndsOf.calls a0_0 a0_1 x13_3 t123 t124 _ A46.out).mono ?_); rintro e w52 ⟨rfl, hb⟩; refine ⟨_, rfl, ?_⟩; have n0_ := Aside0.mk (Kd.R_below HO_7.out hb); have n1_ := Aside0.mk (Kd.S_below HO_11.out hb); have n2_ := Aside0.mk (blk_below (g := gb101) (o := .cells #[.int .i64 a0_0, .int .i64 a0_1] 40 (0, 0)) BK101.out hb); have n3_ := Aside0.mk (below_step HB.out hb); clear HO_7; clear HO_11; clear BK101; clear HB; have HO_7 := n0_; have HO_11 := n1_; have BK101 := n2_; have HB := n3_; clear n0_ n1_ n2_ n3_; (try clear hb); (try clear hb2); (try clear hk); (try clear hi)))
                      have n0_ := Aside0.mk (Kd.R_drew HO_7.out)
                      have n1_ := Aside0.mk (Kd.S_drew HO_11.out)
                      have n2_ := Aside0.mk (blk_drew BK101.out); have n3_ := Aside0.mk (below_drew1 HB.out); clear HO_7; clear HO_11; clear BK101; clear HB; have HO_7 := n0_; have HO_11 := n1_; have BK101 := n2_; have HB := n3_; clear n0_ n1_ n2_ n3_
                      refine start_ (n := 14) (S := fun w' => True) (ds := []) #[false, false, false, false, false, false, false, false, false, false, false, false, false, false] (by kernel_rfl) rfl rfl trivial (fun hHeld => ?_); refine with_tabW spec_l12Trees.tab24 spec_l12Trees.bits24 (fun HT_ HW_ => ?_)
                      generalize w52.drew = w53 at HO_7 HO_11 BK101 HB hHeld ⊢
                      refine pu_ (v := ?_) (a' := ?_) 0 (some 85) rfl rfl HT_ (by kernel_rfl) (.inl ⟨by rfl, ?_⟩) ?_ ?_; rotate_left 2; (intro w'; go_simp; with_reducible rfl); (simp only [P6_]; rfl)
                      refine pu_ (v := ?_) (a' := ?_) 1 (some 86) rfl rfl HT_ (by kernel_rfl) (.inl ⟨by rfl, ?_⟩) ?_ ?_; rotate_left 2; (intro w'; go_simp; with_reducible rfl); (simp only [P6_]; rfl)
                      refine on_ 2 (some 87) rfl rfl HT_ (by kernel_rfl) (by decide) (fun K hK => ?_)
                      refine goes_ Try.func83 (by kernel_rfl) rfl #[.int .i64 a1, .int .i64 x13_3] (by rfl) rfl rfl (by (try simp only [List.map_toArray, List.map_cons, List.map_nil]); rfl) ?_
                      with_reducible refine (spec_l03Bit.calls a1 x13_3 true _ A47.out).mono ?_
                      rintro e w' ⟨rfl, ⟨nd, rfl⟩⟩
                      refine ⟨_, rfl, ?_⟩
                      refine hK.out _ _ trivial (fun hHeld => ?_)
                      clear hK K
                      refine norm_ (a' := ?_) ?_ ?_; rotate_left; (show Act.put _ (some 87) _ = _; simp only [P6_]; rfl)
                      refine pu_ (v := ?_) (a' := ?_) 3 (some 88) rfl rfl HT_ (by kernel_rfl) (.inl ⟨by rfl, ?_⟩) ?_ ?_; rotate_left 2; (intro w'; go_simp; with_reducible rfl); (simp only [P6_]; rfl)
                      refine pure_ (i := 4) (N := some 89) (v := undef) (a' := ?_) #[true, true, true, true, true, false, false, false, false, false, false, false, false, false] rfl rfl (any_of HT_.out (by kernel_rfl)) (fun _ _ _ h => h) (Or.inr ⟨by rfl, rfl⟩) ?_ ?_
                      rotate_left
                      · simp only [Act.put, List.setIfInBounds_toArray, List.set_cons_zero, List.set_cons_succ, i64_w, i32_w]
                        rfl
                      refine pure_ (i := 5) (N := some 90) (v := undef) (a' := ?_) #[true, true, true, true, true, true, false, false, false, false, false, false, false, false] rfl rfl (any_of HT_.out (by kernel_rfl)) (fun _ _ _ h => h) (Or.inr ⟨by rfl, rfl⟩) ?_ ?_
                      rotate_left
                      · simp only [Act.put, List.setIfInBounds_toArray, List.set_cons_zero, List.set_cons_succ, i64_w, i32_w]
                        rfl
                      refine pure_ (i := 6) (N := some 91) (v := undef) (a' := ?_) #[true, true, true, true, true, true, true, false, false, false, false, false, false, false] rfl rfl (any_of HT_.out (by kernel_rfl)) (fun _ _ _ h => h) (Or.inr ⟨by rfl, rfl⟩) ?_ ?_
                      rotate_left
                      · simp only [Act.put, List.setIfInBounds_toArray, List.set_cons_zero, List.set_cons_succ, i64_w, i32_w]
                        rfl
                      refine pure_ (i := 7) (N := some 92) (v := undef) (a' := ?_) #[true, true, true, true, true, true, true, true, false, false, false, false, false, false] rfl rfl (any_of HT_.out (by kernel_rfl)) (fun _ _ _ h => h) (Or.inr ⟨by rfl, rfl⟩) ?_ ?_
                      rotate_left
                      · simp only [Act.put, List.setIfInBounds_toArray, List.set_cons_zero, List.set_cons_succ, i64_w, i32_w]
                        rfl
                      refine pure_ (i := 8) (N := some 93) (v := undef) (a' := ?_) #[true, true, true, true, true, true, true, true, true, false, false, false, false, false] rfl rfl (any_of HT_.out (by kernel_rfl)) (fun _ _ _ h => h) (Or.inr ⟨by rfl, rfl⟩) ?_ ?_
                      rotate_left
                      · simp only [Act.put, List.setIfInBounds_toArray, List.set_cons_zero, List.set_cons_succ, i64_w, i32_w]
                        rfl
                      refine pure_ (i := 9) (N := some 94) (v := undef) (a' := ?_) #[true, true, true, true, true, true, true, true, true, true, false, false, false, false] rfl rfl (any_of HT_.out (by kernel_rfl)) (fun _ _ _ h => h) (Or.inr ⟨by rfl, rfl⟩) ?_ ?_
                      rotate_left
                      · simp only [Act.put, List.setIfInBounds_toArray, List.set_cons_zero, List.set_cons_succ, i64_w, i32_w]
                        rfl
                      refine pure_ (i := 10) (N := some 95) (v := undef) (a' := ?_) #[true, true, true, true, true, true, true, true, true, true, true, false, false, false] rfl rfl (any_of HT_.out (by kernel_rfl)) (fun _ _ _ h => h) (Or.inr ⟨by rfl, rfl⟩) ?_ ?_
                      rotate_left
                      · simp only [Act.put, List.setIfInBounds_toArray, List.set_cons_zero, List.set_cons_succ, i64_w, i32_w]
                        rfl
                      refine pure_ (i := 11) (N := some 96) (v := undef) (a' := ?_) #[true, true, true, true, true, true, true, true, true, true, true, true, false, false] rfl rfl (any_of HT_.out (by kernel_rfl)) (fun _ _ _ h => h) (Or.inr ⟨by rfl, rfl⟩) ?_ ?_
                      rotate_left
                      · simp only [Act.put, List.setIfInBounds_toArray, List.set_cons_zero, List.set_cons_succ, i64_w, i32_w]
                        rfl
                      refine pure_ (i := 12) (N := some 97) (v := undef) (a' := ?_) #[true, true, true, true, true, true, true, true, true, true, true, true, true, false] rfl rfl (any_of HT_.out (by kernel_rfl)) (fun _ _ _ h => h) (Or.inr ⟨by rfl, rfl⟩) ?_ ?_
                      rotate_left
                      · simp only [Act.put, List.setIfInBounds_toArray, List.set_cons_zero, List.set_cons_succ, i64_w, i32_w]
                        rfl
                      refine pu_ (v := ?_) (a' := ?_) 13 (some 98) rfl rfl HT_ (by kernel_rfl) (.inl ⟨by rfl, ?_⟩) ?_ ?_; rotate_left 2; (intro w'; go_simp; with_reducible rfl); (simp only [P6_]; rfl)
                      refine done_ (done_of HT_.out (by kernel_rfl)) ?_
                      try go_wp2
                      go_roundg k3
                      case measure => have := HK1.out; have := HK2.out; have := HK3.out; omega
                      case rel => exact ⟨(x7_3), (x11_3), (wrap64 (x13_3 + 1)), (by rfl), H', ⟨by have := HK1.out; have := HK2.out; have := HK3.out; omega⟩, ⟨by (with_reducible repeat (apply Kd.R_drewN)); exact HO_7.out⟩, ⟨by (with_reducible repeat (apply Kd.S_drewN)); exact HO_11.out⟩, ⟨by (with_reducible repeat (refine blk_drewN ?_ _)); exact BK101.out⟩, ⟨by repeat ((with_reducible first | exact HB.out | apply pw_below_drewN))⟩⟩
                    · replace c48 := Bool.eq_false_iff.mpr c48
                      subst c48
                      have H1 : (if 0 ≤ t123 then (if t123 < (x7_3.length : Int) then (if 0 ≤ t124 then (if t124 < (x7_3.length : Int) then (if (rd x7_3 t123) = (rd x7_3 t124) then (spec_l12Trees.l3 k3 a1 x7_3 x8_1 x11_3 (wrap64 (x13_3 + 1)) a0_0 a0_1) else (if 0 ≤ (rd x7_3 t123) then (if (rd x7_3 t123) < (x11_3.length : Int) then (if (rd x7_3 t123) < ((rd_L2 x11_3 (rd x7_3 t123)).length : Int) then ((some (x11_3.set ((rd x7_3 t123) : Int).toNat ((rd_L2 x11_3 (rd x7_3 t123)).set ((rd x7_3 t123) : Int).toNat (wrap64 ((rd (rd_L2 x11_3 (rd x7_3 t123)) (rd x7_3 t123)) + 1))) : List (List Int))).bind fun y137 => (if 0 ≤ (rd x7_3 t124) then (if (rd x7_3 t124) < (x11_3.length : Int) then (if (rd x7_3 t124) < ((rd_L2 y137 (rd x7_3 t124)).length : Int) then ((some (y137.set ((rd x7_3 t124) : Int).toNat ((rd_L2 y137 (rd x7_3 t124)).set ((rd x7_3 t124) : Int).toNat (wrap64 ((rd (rd_L2 y137 (rd x7_3 t124)) (rd x7_3 t124)) + 1))) : List (List Int))).bind fun y147 => (if (rd x7_3 t124) < ((rd_L2 y147 (rd x7_3 t123)).length : Int) then ((some (y147.set ((rd x7_3 t123) : Int).toNat ((rd_L2 y147 (rd x7_3 t123)).set ((rd x7_3 t124) : Int).toNat (wrap64 ((rd (rd_L2 y147 (rd x7_3 t123)) (rd x7_3 t124)) - 1))) : List (List Int))).bind fun y157 => (if (rd x7_3 t123) < ((rd_L2 y157 (rd x7_3 t124)).length : Int) then (spec_l12Trees.l3 k3 a1 x7_3 x8_1 (y157.set ((rd x7_3 t124) : Int).toNat ((rd_L2 y157 (rd x7_3 t124)).set ((rd x7_3 t123) : Int).toNat (wrap64 ((rd (rd_L2 y157 (rd x7_3 t124)) (rd x7_3 t123)) - 1)))) (wrap64 (x13_3 + 1)) a0_0 a0_1) else (none))) else (none))) else (none)) else (none)) else (none))) else (none)) else (none)) else (none))) else (none)) else (none)) else (none)) else (none)) = some r := by rw [if_neg (show ¬ (false = true) by decide)] at H; exact H
                      clear H
                      have H := H1
                      clear H1
                      replace H := iN_ H; obtain ⟨c54, H⟩ := H
                      have c54b0 : decide (0 ≤ t123) = true := decide_eq_true c54
                      clear c54
                      replace H := iN_ H; obtain ⟨c55, H⟩ := H
                      have c55b0 : decide (t123 < (x7_3.length : Int)) = true := decide_eq_true c55
                      clear c55
                      replace H := iN_ H; obtain ⟨c56, H⟩ := H
                      have c56b0 : decide (0 ≤ t124) = true := decide_eq_true c56
                      clear c56
                      replace H := iN_ H; obtain ⟨c57, H⟩ := H
                      have c57b0 : decide (t124 < (x7_3.length : Int)) = true := decide_eq_true c57
                      clear c57
                      by_cases c58 : (rd x7_3 t123) = (rd x7_3 t124)
                      · rw [if_pos c58] at H
                        have c58b0 : ((rd x7_3 t123) == (rd x7_3 t124)) = true := beq_iff_eq.mpr c58
                        have c58b1 : ((rd x7_3 t123) != (rd x7_3 t124)) = false := bne_eq_false_iff_eq.mpr c58
                        clear c58
                        have H' := Aside0.mk H
                        clear H
                        obtain ⟨hcz59_0, hcz59_1⟩ := kk2_ BK101.1
                        have hfz59_0 := blk_frozen BK101.out 0
                        have hfz59_1 := blk_frozen BK101.out 1
                        try go_wp2_with (first | ((with_reducible refine gate_callee (f := 32) rfl ?_); refine goesL_ (some 75) rfl rfl Try.func32 (by kernel_rfl) rfl #[.agg #[.int .i64 a0_0, .int .i64 a0_1]] rfl (by (try simp only [List.map_toArray, List.map_cons, List.map_nil]); rfl) ?_; (with_reducible refine (spec_CountGaps.calls a0_0 a0_1 t121 _ A44.out).mono ?_); rintro e w60 ⟨rfl, hb⟩; refine ⟨_, rfl, ?_⟩; have n0_ := Aside0.mk (Kd.R_below HO_7.out hb); have n1_ := Aside0.mk (Kd.S_below HO_11.out hb); have n2_ := Aside0.mk (blk_below (g := gb101) (o := .cells #[.int .i64 a0_0, .int .i64 a0_1] 40 (0, 0)) BK101.out hb); have n3_ := Aside0.mk (below_step HB.out hb); clear HO_7; clear HO_11; clear BK101; clear HB; have HO_7 := n0_; have HO_11 := n1_; have BK101 := n2_; have HB := n3_; clear n0_ n1_ n2_ n3_; (try clear hb); (try clear hb2); (try clear hk); (try clear hi); obtain ⟨hcz61_0, hcz61_1⟩ := kk2_ BK101.1; have hfz61_0 := blk_frozen BK101.out 0; have hfz61_1 := blk_frozen BK101.out 1) | ((with_reducible refine gate_callee (f := 84) rfl ?_); refine goesL_ (some 82) rfl rfl Try.func84 (by kernel_rfl) rfl #[.agg #[.int .i64 a0_0, .int .i64 a0_1], .int .i64 x13_3] rfl (by (try simp only [List.map_toArray, List.map_cons, List.map_nil]); rfl) ?_; (with_reducible refine (spec_EndsOf.calls a0_0 a0_1 x13_3 t123 t124 _ A46.out).mono ?_); rintro e w62 ⟨rfl, hb⟩; refine ⟨_, rfl, ?_⟩; have n0_ := Aside0.mk (Kd.R_below HO_7.out hb); have n1_ := Aside0.mk (Kd.S_below HO_11.out hb); have n2_ := Aside0.mk (blk_below (g := gb101) (o := .cells #[.int .i64 a0_0, .int .i64 a0_1] 40 (0, 0)) BK101.out hb); have n3_ := Aside0.mk (below_step HB.out hb); clear HO_7; clear HO_11; clear BK101; clear HB; have HO_7 := n0_; have HO_11 := n1_; have BK101 := n2_; have HB := n3_; clear n0_ n1_ n2_ n3_; (try clear hb); (try clear hb2); (try clear hk); (try clear hi)))
                        have n0_ := Aside0.mk (Kd.R_drew HO_7.out)
                        have n1_ := Aside0.mk (Kd.S_drew HO_11.out)
                        have n2_ := Aside0.mk (blk_drew BK101.out); have n3_ := Aside0.mk (below_drew1 HB.out); clear HO_7; clear HO_11; clear BK101; clear HB; have HO_7 := n0_; have HO_11 := n1_; have BK101 := n2_; have HB := n3_; clear n0_ n1_ n2_ n3_
                        (try (obtain ⟨As_, cs_, es_⟩ := Kd.R_slice HO_7.out; subst es_))
                        have p126 : 0 ≤ (t123 : Int) := of_decide_eq_true (by with_reducible assumption)
                        have q126 : t123 < (x7_3.length : Int) := of_decide_eq_true (by with_reducible assumption)
                        obtain ⟨ad126, e126, hx126_0⟩ := Kd.at_int (Kd.R_reads' HO_7.out).2.2 t123 p126 q126
                        cases e126
                        replace p126 := eq_true p126; replace q126 := eq_true q126
                        have p127 : 0 ≤ (t124 : Int) := of_decide_eq_true (by with_reducible assumption)
                        have q127 : t124 < (x7_3.length : Int) := of_decide_eq_true (by with_reducible assumption)
                        obtain ⟨ad127, e127, hx127_0⟩ := Kd.at_int (Kd.R_reads' HO_7.out).2.2 t124 p127 q127
                        obtain rfl : ad126 = ad127 := (by injection e127)
                        replace p127 := eq_true p127; replace q127 := eq_true q127
                        refine start_ (n := 14) (S := fun w' => w'.cell? (ad126.add (t123).toNat) = some (.int .i64 (rd x7_3 t123)) ∧ w'.cell? (ad126.add (t124).toNat) = some (.int .i64 (rd x7_3 t124))) (ds := []) #[false, false, false, false, false, false, false, false, false, false, false, false, false, false] (by kernel_rfl) rfl rfl ⟨hx126_0, hx127_0⟩ (fun hHeld => ?_); refine with_tabW spec_l12Trees.tab24 spec_l12Trees.bits24 (fun HT_ HW_ => ?_)
                        generalize w62.drew = w63 at HO_7 HO_11 BK101 HB hx126_0 hx127_0 hHeld ⊢
                        refine pu_ (v := ?_) (a' := ?_) 0 (some 85) rfl rfl HT_ (by kernel_rfl) (.inl ⟨by rfl, ?_⟩) ?_ ?_; rotate_left 2; (intro w'; go_simp; with_reducible rfl); (simp only [P6_]; rfl)
                        refine pu_ (v := ?_) (a' := ?_) 1 (some 86) rfl rfl HT_ (by kernel_rfl) (.inl ⟨by rfl, ?_⟩) ?_ ?_; rotate_left 2; (intro w'; go_simp; with_reducible rfl); (simp only [P6_]; rfl)
                        refine on_ 2 (some 87) rfl rfl HT_ (by kernel_rfl) (by decide) (fun K hK => ?_)
                        refine goes_ Try.func83 (by kernel_rfl) rfl #[.int .i64 a1, .int .i64 x13_3] (by rfl) rfl rfl (by (try simp only [List.map_toArray, List.map_cons, List.map_nil]); rfl) ?_
                        with_reducible refine (spec_l03Bit.calls a1 x13_3 false _ A47.out).mono ?_
                        rintro e w' ⟨rfl, ⟨nd, rfl⟩⟩
                        refine ⟨_, rfl, ?_⟩
                        obtain ⟨Ao64, co64, eo64⟩ := Kd.R_slice HO_7.out
                        ((injection eo64 with f1_ f2_ f3_; have f4_ := f1_.symm; have f5_ := f3_.symm; clear f1_ f2_ f3_; subst f4_; subst f5_))
                        refine hK.out _ _ ⟨hHeld.1, hHeld.2⟩ (fun hHeld => ?_)
                        clear hK K
                        refine norm_ (a' := ?_) ?_ ?_; rotate_left; (show Act.put _ (some 87) _ = _; simp only [P6_]; rfl)
                        refine pu_ (v := ?_) (a' := ?_) 3 (some 88) rfl rfl HT_ (by kernel_rfl) (.inl ⟨by rfl, ?_⟩) ?_ ?_; rotate_left 2; (intro w'; go_simp; with_reducible rfl); (simp only [P6_]; rfl)
                        refine pu_ (v := ?_) (a' := ?_) 4 (some 89) rfl rfl HT_ (by kernel_rfl) (.inl ⟨by rfl, ?_⟩) ?_ ?_; rotate_left 2; (intro w'; go_simp; with_reducible rfl); (simp only [P6_]; rfl)
                        refine pu_ (v := ?_) (a' := ?_) 5 (some 90) rfl rfl HT_ (by kernel_rfl) (.inl ⟨by rfl, ?_⟩) ?_ ?_; rotate_left 2; (intro w'; go_simp; with_reducible rfl); (simp only [P6_]; rfl)
                        refine pu_ (v := ?_) (a' := ?_) 6 (some 91) rfl rfl HT_ (by kernel_rfl) (.inl ⟨by rfl, ?_⟩) ?_ ?_; rotate_left 2; (intro w'; go_simp; with_reducible rfl); (simp only [P6_]; rfl)
                        refine pu_ (v := ?_) (a' := ?_) 8 (some 93) rfl rfl HT_ (by kernel_rfl) (.inl ⟨by rfl, ?_⟩) ?_ ?_; rotate_left 2; (intro w'; go_simp; with_reducible rfl); (simp only [P6_]; rfl)
                        refine pu_ (v := ?_) (a' := ?_) 9 (some 94) rfl rfl HT_ (by kernel_rfl) (.inl ⟨by rfl, ?_⟩) ?_ ?_; rotate_left 2; (intro w'; go_simp; with_reducible rfl); (simp only [P6_]; rfl)
                        refine pu_ (v := ?_) (a' := ?_) 10 (some 95) rfl rfl HT_ (by kernel_rfl) (.inl ⟨by rfl, ?_⟩) ?_ ?_; rotate_left 2; (intro w'; go_simp; with_reducible rfl); (simp only [P6_]; rfl)
                        refine ta_ (v := ?_) (a' := ?_) 7 (some 92) rfl rfl HT_ HW_ (by kernel_rfl) (.inl ⟨by rfl, ?_⟩) hHeld ?_ ?_; rotate_left 2; (rintro w' ⟨s0, s1⟩; go_simp; with_reducible rfl); (simp only [P6_]; rfl)
                        refine ta_ (v := ?_) (a' := ?_) 11 (some 96) rfl rfl HT_ HW_ (by kernel_rfl) (.inl ⟨by rfl, ?_⟩) hHeld ?_ ?_; rotate_left 2; (rintro w' ⟨s0, s1⟩; go_simp; with_reducible rfl); (simp only [P6_]; rfl)
                        refine pu_ (v := ?_) (a' := ?_) 12 (some 97) rfl rfl HT_ (by kernel_rfl) (.inl ⟨by rfl, ?_⟩) ?_ ?_; rotate_left 2; (intro w'; go_simp; with_reducible rfl); (simp only [P6_]; rfl)
                        refine pu_ (v := ?_) (a' := ?_) 13 (some 98) rfl rfl HT_ (by kernel_rfl) (.inl ⟨by rfl, ?_⟩) ?_ ?_; rotate_left 2; (intro w'; go_simp; with_reducible rfl); (simp only [P6_]; rfl)
                        refine done_ (done_of HT_.out (by kernel_rfl)) ?_
                        try go_wp2
                        go_roundg k3
                        case measure => have := HK1.out; have := HK2.out; have := HK3.out; omega
                        case rel => exact ⟨(x7_3), (x11_3), (wrap64 (x13_3 + 1)), (by rfl), H', ⟨by have := HK1.out; have := HK2.out; have := HK3.out; omega⟩, ⟨by (with_reducible repeat (apply Kd.R_drewN)); exact HO_7.out⟩, ⟨by (with_reducible repeat (apply Kd.S_drewN)); exact HO_11.out⟩, ⟨by (with_reducible repeat (refine blk_drewN ?_ _)); exact BK101.out⟩, ⟨by repeat ((with_reducible first | exact HB.out | apply pw_below_drewN))⟩⟩
                      · rw [if_neg c58] at H
                        have c58b0 : ((rd x7_3 t123) == (rd x7_3 t124)) = false := beq_eq_false_iff_ne.mpr c58
                        have c58b1 : ((rd x7_3 t123) != (rd x7_3 t124)) = true := bne_iff_ne.mpr c58
                        replace H := iN_ H; obtain ⟨c65, H⟩ := H
                        have c65b0 : decide (0 ≤ (rd x7_3 t123)) = true := decide_eq_true c65
                        clear c65
                        replace H := iN_ H; obtain ⟨c66, H⟩ := H
                        have c66b0 : decide ((rd x7_3 t123) < (x11_3.length : Int)) = true := decide_eq_true c66
                        clear c66
                        replace H := iN_ H; obtain ⟨c67, H⟩ := H
                        have c67b0 : decide ((rd x7_3 t123) < ((rd_L2 x11_3 (rd x7_3 t123)).length : Int)) = true := decide_eq_true c67
                        clear c67
                        obtain ⟨y135, hy135⟩ : ∃ y_ : List Int, y_ = ((rd_L2 x11_3 (rd x7_3 t123)).set ((rd x7_3 t123) : Int).toNat (wrap64 ((rd (rd_L2 x11_3 (rd x7_3 t123)) (rd x7_3 t123)) + 1))) := ⟨_, rfl⟩
                        replace H : ((some (x11_3.set ((rd x7_3 t123) : Int).toNat y135 : List (List Int))).bind fun y137 => (if 0 ≤ (rd x7_3 t124) then (if (rd x7_3 t124) < (x11_3.length : Int) then (if (rd x7_3 t124) < ((rd_L2 y137 (rd x7_3 t124)).length : Int) then ((some (y137.set ((rd x7_3 t124) : Int).toNat ((rd_L2 y137 (rd x7_3 t124)).set ((rd x7_3 t124) : Int).toNat (wrap64 ((rd (rd_L2 y137 (rd x7_3 t124)) (rd x7_3 t124)) + 1))) : List (List Int))).bind fun y147 => (if (rd x7_3 t124) < ((rd_L2 y147 (rd x7_3 t123)).length : Int) then ((some (y147.set ((rd x7_3 t123) : Int).toNat ((rd_L2 y147 (rd x7_3 t123)).set ((rd x7_3 t124) : Int).toNat (wrap64 ((rd (rd_L2 y147 (rd x7_3 t123)) (rd x7_3 t124)) - 1))) : List (List Int))).bind fun y157 => (if (rd x7_3 t123) < ((rd_L2 y157 (rd x7_3 t124)).length : Int) then (spec_l12Trees.l3 k3 a1 x7_3 x8_1 (y157.set ((rd x7_3 t124) : Int).toNat ((rd_L2 y157 (rd x7_3 t124)).set ((rd x7_3 t123) : Int).toNat (wrap64 ((rd (rd_L2 y157 (rd x7_3 t124)) (rd x7_3 t123)) - 1)))) (wrap64 (x13_3 + 1)) a0_0 a0_1) else (none))) else (none))) else (none)) else (none)) else (none))) = some r := by (rw [hy135]; with_reducible exact H)
                        have Ny135 := Aside0.mk hy135
                        clear hy135
                        obtain ⟨y137, hy137⟩ : ∃ y_ : List (List Int), y_ = (x11_3.set ((rd x7_3 t123) : Int).toNat y135) := ⟨_, rfl⟩
                        replace H : (if 0 ≤ (rd x7_3 t124) then (if (rd x7_3 t124) < (x11_3.length : Int) then (if (rd x7_3 t124) < ((rd_L2 y137 (rd x7_3 t124)).length : Int) then ((some (y137.set ((rd x7_3 t124) : Int).toNat ((rd_L2 y137 (rd x7_3 t124)).set ((rd x7_3 t124) : Int).toNat (wrap64 ((rd (rd_L2 y137 (rd x7_3 t124)) (rd x7_3 t124)) + 1))) : List (List Int))).bind fun y147 => (if (rd x7_3 t124) < ((rd_L2 y147 (rd x7_3 t123)).length : Int) then ((some (y147.set ((rd x7_3 t123) : Int).toNat ((rd_L2 y147 (rd x7_3 t123)).set ((rd x7_3 t124) : Int).toNat (wrap64 ((rd (rd_L2 y147 (rd x7_3 t123)) (rd x7_3 t124)) - 1))) : List (List Int))).bind fun y157 => (if (rd x7_3 t123) < ((rd_L2 y157 (rd x7_3 t124)).length : Int) then (spec_l12Trees.l3 k3 a1 x7_3 x8_1 (y157.set ((rd x7_3 t124) : Int).toNat ((rd_L2 y157 (rd x7_3 t124)).set ((rd x7_3 t123) : Int).toNat (wrap64 ((rd (rd_L2 y157 (rd x7_3 t124)) (rd x7_3 t123)) - 1)))) (wrap64 (x13_3 + 1)) a0_0 a0_1) else (none))) else (none))) else (none)) else (none)) else (none)) = some r := by (have H2_ := (Option.bind_some _ _).symm.trans H; rw [hy137]; with_reducible exact H2_)
                        have Ny137 := Aside0.mk hy137
                        clear hy137
                        replace H := iN_ H; obtain ⟨c69, H⟩ := H
                        have c69b0 : decide (0 ≤ (rd x7_3 t124)) = true := decide_eq_true c69
                        clear c69
                        replace H := iN_ H; obtain ⟨c70, H⟩ := H
                        have c70b0 : decide ((rd x7_3 t124) < (x11_3.length : Int)) = true := decide_eq_true c70
                        clear c70
                        replace H := iN_ H; obtain ⟨c71, H⟩ := H
                        have c71b0 : decide ((rd x7_3 t124) < ((rd_L2 y137 (rd x7_3 t124)).length : Int)) = true := decide_eq_true c71
                        clear c71
                        obtain ⟨y145, hy145⟩ : ∃ y_ : List Int, y_ = ((rd_L2 y137 (rd x7_3 t124)).set ((rd x7_3 t124) : Int).toNat (wrap64 ((rd (rd_L2 y137 (rd x7_3 t124)) (rd x7_3 t124)) + 1))) := ⟨_, rfl⟩
                        replace H : ((some (y137.set ((rd x7_3 t124) : Int).toNat y145 : List (List Int))).bind fun y147 => (if (rd x7_3 t124) < ((rd_L2 y147 (rd x7_3 t123)).length : Int) then ((some (y147.set ((rd x7_3 t123) : Int).toNat ((rd_L2 y147 (rd x7_3 t123)).set ((rd x7_3 t124) : Int).toNat (wrap64 ((rd (rd_L2 y147 (rd x7_3 t123)) (rd x7_3 t124)) - 1))) : List (List Int))).bind fun y157 => (if (rd x7_3 t123) < ((rd_L2 y157 (rd x7_3 t124)).length : Int) then (spec_l12Trees.l3 k3 a1 x7_3 x8_1 (y157.set ((rd x7_3 t124) : Int).toNat ((rd_L2 y157 (rd x7_3 t124)).set ((rd x7_3 t123) : Int).toNat (wrap64 ((rd (rd_L2 y157 (rd x7_3 t124)) (rd x7_3 t123)) - 1)))) (wrap64 (x13_3 + 1)) a0_0 a0_1) else (none))) else (none))) = some r := by (rw [hy145]; with_reducible exact H)
                        have Ny145 := Aside0.mk hy145
                        clear hy145
                        obtain ⟨y147, hy147⟩ : ∃ y_ : List (List Int), y_ = (y137.set ((rd x7_3 t124) : Int).toNat y145) := ⟨_, rfl⟩
                        replace H : (if (rd x7_3 t124) < ((rd_L2 y147 (rd x7_3 t123)).length : Int) then ((some (y147.set ((rd x7_3 t123) : Int).toNat ((rd_L2 y147 (rd x7_3 t123)).set ((rd x7_3 t124) : Int).toNat (wrap64 ((rd (rd_L2 y147 (rd x7_3 t123)) (rd x7_3 t124)) - 1))) : List (List Int))).bind fun y157 => (if (rd x7_3 t123) < ((rd_L2 y157 (rd x7_3 t124)).length : Int) then (spec_l12Trees.l3 k3 a1 x7_3 x8_1 (y157.set ((rd x7_3 t124) : Int).toNat ((rd_L2 y157 (rd x7_3 t124)).set ((rd x7_3 t123) : Int).toNat (wrap64 ((rd (rd_L2 y157 (rd x7_3 t124)) (rd x7_3 t123)) - 1)))) (wrap64 (x13_3 + 1)) a0_0 a0_1) else (none))) else (none)) = some r := by (have H2_ := (Option.bind_some _ _).symm.trans H; rw [hy147]; with_reducible exact H2_)
                        have Ny147 := Aside0.mk hy147
                        clear hy147
                        replace H := iN_ H; obtain ⟨c73, H⟩ := H
                        have c73b0 : decide ((rd x7_3 t124) < ((rd_L2 y147 (rd x7_3 t123)).length : Int)) = true := decide_eq_true c73
                        clear c73
                        obtain ⟨y155, hy155⟩ : ∃ y_ : List Int, y_ = ((rd_L2 y147 (rd x7_3 t123)).set ((rd x7_3 t124) : Int).toNat (wrap64 ((rd (rd_L2 y147 (rd x7_3 t123)) (rd x7_3 t124)) - 1))) := ⟨_, rfl⟩
                        replace H : ((some (y147.set ((rd x7_3 t123) : Int).toNat y155 : List (List Int))).bind fun y157 => (if (rd x7_3 t123) < ((rd_L2 y157 (rd x7_3 t124)).length : Int) then (spec_l12Trees.l3 k3 a1 x7_3 x8_1 (y157.set ((rd x7_3 t124) : Int).toNat ((rd_L2 y157 (rd x7_3 t124)).set ((rd x7_3 t123) : Int).toNat (wrap64 ((rd (rd_L2 y157 (rd x7_3 t124)) (rd x7_3 t123)) - 1)))) (wrap64 (x13_3 + 1)) a0_0 a0_1) else (none))) = some r := by (rw [hy155]; with_reducible exact H)
                        have Ny155 := Aside0.mk hy155
                        clear hy155
                        obtain ⟨y157, hy157⟩ : ∃ y_ : List (List Int), y_ = (y147.set ((rd x7_3 t123) : Int).toNat y155) := ⟨_, rfl⟩
                        replace H : (if (rd x7_3 t123) < ((rd_L2 y157 (rd x7_3 t124)).length : Int) then (spec_l12Trees.l3 k3 a1 x7_3 x8_1 (y157.set ((rd x7_3 t124) : Int).toNat ((rd_L2 y157 (rd x7_3 t124)).set ((rd x7_3 t123) : Int).toNat (wrap64 ((rd (rd_L2 y157 (rd x7_3 t124)) (rd x7_3 t123)) - 1)))) (wrap64 (x13_3 + 1)) a0_0 a0_1) else (none)) = some r := by (have H2_ := (Option.bind_some _ _).symm.trans H; rw [hy157]; with_reducible exact H2_)
                        have Ny157 := Aside0.mk hy157
                        clear hy157
                        replace H := iN_ H; obtain ⟨c75, H⟩ := H
                        have c75b0 : decide ((rd x7_3 t123) < ((rd_L2 y157 (rd x7_3 t124)).length : Int)) = true := decide_eq_true c75
                        clear c75
                        obtain ⟨y165, hy165⟩ : ∃ y_ : List Int, y_ = ((rd_L2 y157 (rd x7_3 t124)).set ((rd x7_3 t123) : Int).toNat (wrap64 ((rd (rd_L2 y157 (rd x7_3 t124)) (rd x7_3 t123)) - 1))) := ⟨_, rfl⟩
                        replace H : (spec_l12Trees.l3 k3 a1 x7_3 x8_1 (y157.set ((rd x7_3 t124) : Int).toNat y165) (wrap64 (x13_3 + 1)) a0_0 a0_1) = some r := by (rw [hy165]; with_reducible exact H)
                        have Ny165 := Aside0.mk hy165
                        clear hy165
                        obtain ⟨y167, hy167⟩ : ∃ y_ : List (List Int), y_ = (y157.set ((rd x7_3 t124) : Int).toNat y165) := ⟨_, rfl⟩
                        replace H : (spec_l12Trees.l3 k3 a1 x7_3 x8_1 y167 (wrap64 (x13_3 + 1)) a0_0 a0_1) = some r := by (rw [hy167]; with_reducible exact H)
                        have Ny167 := Aside0.mk hy167
                        clear hy167
                        have H' := Aside0.mk H
                        clear H
                        obtain ⟨hcz77_0, hcz77_1⟩ := kk2_ BK101.1
                        have hfz77_0 := blk_frozen BK101.out 0
                        have hfz77_1 := blk_frozen BK101.out 1
                        try go_wp2_with (first | ((with_reducible refine gate_callee (f := 32) rfl ?_); refine goesL_ (some 75) rfl rfl Try.func32 (by kernel_rfl) rfl #[.agg #[.int .i64 a0_0, .int .i64 a0_1]] rfl (by (try simp only [List.map_toArray, List.map_cons, List.map_nil]); rfl) ?_; (with_reducible refine (spec_CountGaps.calls a0_0 a0_1 t121 _ A44.out).mono ?_); rintro e w78 ⟨rfl, hb⟩; refine ⟨_, rfl, ?_⟩; have n0_ := Aside0.mk (Kd.R_below HO_7.out hb); have n1_ := Aside0.mk (Kd.S_below HO_11.out hb); have n2_ := Aside0.mk (blk_below (g := gb101) (o := .cells #[.int .i64 a0_0, .int .i64 a0_1] 40 (0, 0)) BK101.out hb); have n3_ := Aside0.mk (below_step HB.out hb); clear HO_7; clear HO_11; clear BK101; clear HB; have HO_7 := n0_; have HO_11 := n1_; have BK101 := n2_; have HB := n3_; clear n0_ n1_ n2_ n3_; (try clear hb); (try clear hb2); (try clear hk); (try clear hi); obtain ⟨hcz79_0, hcz79_1⟩ := kk2_ BK101.1; have hfz79_0 := blk_frozen BK101.out 0; have hfz79_1 := blk_frozen BK101.out 1) | ((with_reducible refine gate_callee (f := 84) rfl ?_); refine goesL_ (some 82) rfl rfl Try.func84 (by kernel_rfl) rfl #[.agg #[.int .i64 a0_0, .int .i64 a0_1], .int .i64 x13_3] rfl (by (try simp only [List.map_toArray, List.map_cons, List.map_nil]); rfl) ?_; (with_reducible refine (spec_EndsOf.calls a0_0 a0_1 x13_3 t123 t124 _ A46.out).mono ?_); rintro e w80 ⟨rfl, hb⟩; refine ⟨_, rfl, ?_⟩; have n0_ := Aside0.mk (Kd.R_below HO_7.out hb); have n1_ := Aside0.mk (Kd.S_below HO_11.out hb); have n2_ := Aside0.mk (blk_below (g := gb101) (o := .cells #[.int .i64 a0_0, .int .i64 a0_1] 40 (0, 0)) BK101.out hb); have n3_ := Aside0.mk (below_step HB.out hb); clear HO_7; clear HO_11; clear BK101; clear HB; have HO_7 := n0_; have HO_11 := n1_; have BK101 := n2_; have HB := n3_; clear n0_ n1_ n2_ n3_; (try clear hb); (try clear hb2); (try clear hk); (try clear hi)))
                        have n0_ := Aside0.mk (Kd.R_drew HO_7.out)
                        have n1_ := Aside0.mk (Kd.S_drew HO_11.out)
                        have n2_ := Aside0.mk (blk_drew BK101.out); have n3_ := Aside0.mk (below_drew1 HB.out); clear HO_7; clear HO_11; clear BK101; clear HB; have HO_7 := n0_; have HO_11 := n1_; have BK101 := n2_; have HB := n3_; clear n0_ n1_ n2_ n3_
                        (try (obtain ⟨As_, cs_, es_⟩ := Kd.R_slice HO_7.out; subst es_))
                        have p126 : 0 ≤ (t123 : Int) := of_decide_eq_true (by with_reducible assumption)
                        have q126 : t123 < (x7_3.length : Int) := of_decide_eq_true (by with_reducible assumption)
                        obtain ⟨ad126, e126, hx126_0⟩ := Kd.at_int (Kd.R_reads' HO_7.out).2.2 t123 p126 q126
                        cases e126
                        replace p126 := eq_true p126; replace q126 := eq_true q126
                        have p127 : 0 ≤ (t124 : Int) := of_decide_eq_true (by with_reducible assumption)
                        have q127 : t124 < (x7_3.length : Int) := of_decide_eq_true (by with_reducible assumption)
                        obtain ⟨ad127, e127, hx127_0⟩ := Kd.at_int (Kd.R_reads' HO_7.out).2.2 t124 p127 q127
                        obtain rfl : ad126 = ad127 := (by injection e127)
                        replace p127 := eq_true p127; replace q127 := eq_true q127
                        refine start_ (n := 14) (S := fun w' => w'.cell? (ad126.add (t123).toNat) = some (.int .i64 (rd x7_3 t123)) ∧ w'.cell? (ad126.add (t124).toNat) = some (.int .i64 (rd x7_3 t124))) (ds := []) #[false, false, false, false, false, false, false, false, false, false, false, false, false, false] (by kernel_rfl) rfl rfl ⟨hx126_0, hx127_0⟩ (fun hHeld => ?_); refine with_tabW spec_l12Trees.tab24 spec_l12Trees.bits24 (fun HT_ HW_ => ?_)
                        generalize w80.drew = w81 at HO_7 HO_11 BK101 HB hx126_0 hx127_0 hHeld ⊢
                        refine pu_ (v := ?_) (a' := ?_) 0 (some 85) rfl rfl HT_ (by kernel_rfl) (.inl ⟨by rfl, ?_⟩) ?_ ?_; rotate_left 2; (intro w'; go_simp; with_reducible rfl); (simp only [P6_]; rfl)
                        refine pu_ (v := ?_) (a' := ?_) 1 (some 86) rfl rfl HT_ (by kernel_rfl) (.inl ⟨by rfl, ?_⟩) ?_ ?_; rotate_left 2; (intro w'; go_simp; with_reducible rfl); (simp only [P6_]; rfl)
                        refine on_ 2 (some 87) rfl rfl HT_ (by kernel_rfl) (by decide) (fun K hK => ?_)
                        refine goes_ Try.func83 (by kernel_rfl) rfl #[.int .i64 a1, .int .i64 x13_3] (by rfl) rfl rfl (by (try simp only [List.map_toArray, List.map_cons, List.map_nil]); rfl) ?_
                        with_reducible refine (spec_l03Bit.calls a1 x13_3 false _ A47.out).mono ?_
                        rintro e w' ⟨rfl, ⟨nd, rfl⟩⟩
                        refine ⟨_, rfl, ?_⟩
                        obtain ⟨Ao82, co82, eo82⟩ := Kd.R_slice HO_7.out
                        ((injection eo82 with f1_ f2_ f3_; have f4_ := f1_.symm; have f5_ := f3_.symm; clear f1_ f2_ f3_; subst f4_; subst f5_))
                        refine hK.out _ _ ⟨hHeld.1, hHeld.2⟩ (fun hHeld => ?_)
                        clear hK K
                        refine norm_ (a' := ?_) ?_ ?_; rotate_left; (show Act.put _ (some 87) _ = _; simp only [P6_]; rfl)
                        refine pu_ (v := ?_) (a' := ?_) 3 (some 88) rfl rfl HT_ (by kernel_rfl) (.inl ⟨by rfl, ?_⟩) ?_ ?_; rotate_left 2; (intro w'; go_simp; with_reducible rfl); (simp only [P6_]; rfl)
                        refine pu_ (v := ?_) (a' := ?_) 4 (some 89) rfl rfl HT_ (by kernel_rfl) (.inl ⟨by rfl, ?_⟩) ?_ ?_; rotate_left 2; (intro w'; go_simp; with_reducible rfl); (simp only [P6_]; rfl)
                        refine pu_ (v := ?_) (a' := ?_) 5 (some 90) rfl rfl HT_ (by kernel_rfl) (.inl ⟨by rfl, ?_⟩) ?_ ?_; rotate_left 2; (intro w'; go_simp; with_reducible rfl); (simp only [P6_]; rfl)
                        refine pu_ (v := ?_) (a' := ?_) 6 (some 91) rfl rfl HT_ (by kernel_rfl) (.inl ⟨by rfl, ?_⟩) ?_ ?_; rotate_left 2; (intro w'; go_simp; with_reducible rfl); (simp only [P6_]; rfl)
                        refine pu_ (v := ?_) (a' := ?_) 8 (some 93) rfl rfl HT_ (by kernel_rfl) (.inl ⟨by rfl, ?_⟩) ?_ ?_; rotate_left 2; (intro w'; go_simp; with_reducible rfl); (simp only [P6_]; rfl)
                        refine pu_ (v := ?_) (a' := ?_) 9 (some 94) rfl rfl HT_ (by kernel_rfl) (.inl ⟨by rfl, ?_⟩) ?_ ?_; rotate_left 2; (intro w'; go_simp; with_reducible rfl); (simp only [P6_]; rfl)
                        refine pu_ (v := ?_) (a' := ?_) 10 (some 95) rfl rfl HT_ (by kernel_rfl) (.inl ⟨by rfl, ?_⟩) ?_ ?_; rotate_left 2; (intro w'; go_simp; with_reducible rfl); (simp only [P6_]; rfl)
                        refine ta_ (v := ?_) (a' := ?_) 7 (some 92) rfl rfl HT_ HW_ (by kernel_rfl) (.inl ⟨by rfl, ?_⟩) hHeld ?_ ?_; rotate_left 2; (rintro w' ⟨s0, s1⟩; go_simp; with_reducible rfl); (simp only [P6_]; rfl)
                        refine ta_ (v := ?_) (a' := ?_) 11 (some 96) rfl rfl HT_ HW_ (by kernel_rfl) (.inl ⟨by rfl, ?_⟩) hHeld ?_ ?_; rotate_left 2; (rintro w' ⟨s0, s1⟩; go_simp; with_reducible rfl); (simp only [P6_]; rfl)
                        refine pu_ (v := ?_) (a' := ?_) 12 (some 97) rfl rfl HT_ (by kernel_rfl) (.inl ⟨by rfl, ?_⟩) ?_ ?_; rotate_left 2; (intro w'; go_simp; with_reducible rfl); (simp only [P6_]; rfl)
                        refine pu_ (v := ?_) (a' := ?_) 13 (some 98) rfl rfl HT_ (by kernel_rfl) (.inl ⟨by rfl, ?_⟩) ?_ ?_; rotate_left 2; (intro w'; go_simp; with_reducible rfl); (simp only [P6_]; rfl)
                        refine done_ (done_of HT_.out (by kernel_rfl)) ?_
                        try go_wp2
                        (try (rw [drewN_self w81]; generalize hq_ : World.drewN w81 _ = w81; have n0_ : Aside0 (Kd.S (Kd.slice 3 (Kd.int .i64)) 29 w81 w.heap.size (fun k_ => some k_ ≠ (.slice (some ad126) x7_3.length co82 : Value).ownBlock) u11 x11_3) := ⟨by rw [← hq_]; exact (by (with_reducible repeat (apply Kd.S_drewN)); exact HO_11.out)⟩; have n1_ : Aside0 (Kd.R (Kd.int .i64) 3 w81 w.heap.size (fun _ => True) (.slice (some ad126) x7_3.length co82) x7_3) := ⟨by rw [← hq_]; exact (by (with_reducible repeat (apply Kd.R_drewN)); exact HO_7.out)⟩; have n2_ : Aside0 (w81.heap[gb101]? = some (.cells #[.int .i64 a0_0, .int .i64 a0_1] 40 (0, 0))) := ⟨by rw [← hq_]; exact (by (with_reducible repeat (refine blk_drewN ?_ _)); exact BK101.out)⟩; have n3_ : Aside0 (Below w.heap.size w w81) := ⟨by rw [← hq_]; exact (by repeat ((with_reducible first | exact HB.out | apply pw_below_drewN)))⟩; clear HO_11 HO_7 BK101 HB hq_; have HO_11 := n0_; have HO_7 := n1_; have BK101 := n2_; have HB := n3_; clear n0_ n1_ n2_ n3_))
                        have n0_ := Aside0.mk (Kd.R_drew HO_7.out)
                        have n1_ := Aside0.mk (Kd.S_drew HO_11.out)
                        have n2_ := Aside0.mk (blk_drew BK101.out); have n3_ := Aside0.mk (below_drew1 HB.out); clear HO_7; clear HO_11; clear BK101; clear HB; have HO_7 := n0_; have HO_11 := n1_; have BK101 := n2_; have HB := n3_; clear n0_ n1_ n2_ n3_
                        (try (obtain ⟨As_, cs_, es_⟩ := Kd.R_slice HO_7.out; subst es_))
                        have p128 : 0 ≤ (t123 : Int) := of_decide_eq_true (by with_reducible assumption)
                        have q128 : t123 < (x7_3.length : Int) := of_decide_eq_true (by with_reducible assumption)
                        obtain ⟨ad128, e128, hx128_0⟩ := Kd.at_int (Kd.R_reads' HO_7.out).2.2 t123 p128 q128
                        obtain rfl : ad126 = ad128 := (by injection e128)
                        replace p128 := eq_true p128; replace q128 := eq_true q128
                        obtain ⟨Ao84, co84, eo84⟩ := Kd.S_slice HO_11.out
                        (subst eo84)
                        have p129 : 0 ≤ ((rd x7_3 t123) : Int) := of_decide_eq_true (by with_reducible assumption)
                        have q129 : (rd x7_3 t123) < (x11_3.length : Int) := of_decide_eq_true (by with_reducible assumption)
                        obtain ⟨ad129, A129_0, c129_0, e129, hx129_0, hl129_0, hi129_0⟩ := at_L2 (Kd.S_reads' HO_11.out).2.2 (rd x7_3 t123) p129 q129
                        cases e129
                        obtain ⟨ce129, hce129, hMe129, hcc129⟩ := Kd.S_get HO_11.out [] (rd x7_3 t123) p129 (by exact q129)
                        obtain ⟨ve129_0, rfl, ge129_0⟩ := hMe129
                        have hv129_0 := hcc129 0 _ rfl
                        rw [Nat.add_zero, show ((Kd.slice 3 (Kd.int .i64))).sz = 1 from rfl, Nat.mul_one] at hv129_0
                        replace hv129_0 := Option.some.inj (hv129_0.symm.trans hx129_0)
                        rw [hv129_0] at ge129_0
                        have HL129_0 := Aside0.mk (show Kd.R (Kd.int .i64) 3 _ _ _ _ (rd_L2 x11_3 (rd x7_3 t123)) from ge129_0)
                        clear hv129_0 ge129_0
                        have HX129_0 := Aside0.mk hx129_0
                        clear hcc129 hce129
                        have HR129_0 := Aside0.mk hi129_0
                        have HC129_0 := Aside0.mk hl129_0
                        clear hi129_0 hl129_0; replace p129 := eq_true p129; replace q129 := eq_true q129
                        (try (obtain ⟨As_, cs_, es_⟩ := Kd.R_slice HO_7.out; subst es_))
                        have p130 : 0 ≤ (t123 : Int) := of_decide_eq_true (by with_reducible assumption)
                        have q130 : t123 < (x7_3.length : Int) := of_decide_eq_true (by with_reducible assumption)
                        obtain ⟨ad130, e130, hx130_0⟩ := Kd.at_int (Kd.R_reads' HO_7.out).2.2 t123 p130 q130
                        obtain rfl : ad126 = ad130 := (by injection e130)
                        replace p130 := eq_true p130; replace q130 := eq_true q130
                        (try (obtain ⟨As_, cs_, es_⟩ := Kd.R_slice HO_7.out; subst es_))
                        have p131 : 0 ≤ (t123 : Int) := of_decide_eq_true (by with_reducible assumption)
                        have q131 : t123 < (x7_3.length : Int) := of_decide_eq_true (by with_reducible assumption)
                        obtain ⟨ad131, e131, hx131_0⟩ := Kd.at_int (Kd.R_reads' HO_7.out).2.2 t123 p131 q131
                        obtain rfl : ad126 = ad131 := (by injection e131)
                        replace p131 := eq_true p131; replace q131 := eq_true q131
                        have p132 : 0 ≤ ((rd x7_3 t123) : Int) := of_decide_eq_true (by with_reducible assumption)
                        have q132 : (rd x7_3 t123) < (x11_3.length : Int) := of_decide_eq_true (by with_reducible assumption)
                        obtain ⟨ad132, A132_0, c132_0, e132, hx132_0, hl132_0, hi132_0⟩ := at_L2 (Kd.S_reads' HO_11.out).2.2 (rd x7_3 t123) p132 q132
                        obtain rfl : ad129 = ad132 := (by injection e132)
                        obtain ⟨ce132, hce132, hMe132, hcc132⟩ := Kd.S_get HO_11.out [] (rd x7_3 t123) p132 (by exact q132)
                        obtain ⟨ve132_0, rfl, ge132_0⟩ := hMe132
                        have hv132_0 := hcc132 0 _ rfl
                        rw [Nat.add_zero, show ((Kd.slice 3 (Kd.int .i64))).sz = 1 from rfl, Nat.mul_one] at hv132_0
                        replace hv132_0 := Option.some.inj (hv132_0.symm.trans hx132_0)
                        rw [hv132_0] at ge132_0
                        have HL132_0 := Aside0.mk (show Kd.R (Kd.int .i64) 3 _ _ _ _ (rd_L2 x11_3 (rd x7_3 t123)) from ge132_0)
                        clear hv132_0 ge132_0
                        have HX132_0 := Aside0.mk hx132_0
                        clear hcc132 hce132
                        have HR132_0 := Aside0.mk hi132_0
                        have HC132_0 := Aside0.mk hl132_0
                        clear hi132_0 hl132_0; replace p132 := eq_true p132; replace q132 := eq_true q132
                        have ea_ := Option.some.inj (hx129_0.symm.trans hx132_0)
                        injection ea_ with ea_ en_ ec_
                        subst ea_; subst ec_; clear en_
                        (try (obtain ⟨As_, cs_, es_⟩ := Kd.R_slice HO_7.out; subst es_))
                        have p133 : 0 ≤ (t123 : Int) := of_decide_eq_true (by with_reducible assumption)
                        have q133 : t123 < (x7_3.length : Int) := of_decide_eq_true (by with_reducible assumption)
                        obtain ⟨ad133, e133, hx133_0⟩ := Kd.at_int (Kd.R_reads' HO_7.out).2.2 t123 p133 q133
                        obtain rfl : ad126 = ad133 := (by injection e133)
                        replace p133 := eq_true p133; replace q133 := eq_true q133
                        have p134 : 0 ≤ ((rd x7_3 t123) : Int) := of_decide_eq_true (by with_reducible assumption)
                        have q134 : (rd x7_3 t123) < ((rd_L2 x11_3 (rd x7_3 t123)).length : Int) := of_decide_eq_true (by with_reducible assumption)
                        obtain ⟨ad134, e134, hx134_0⟩ := Kd.at_int HR132_0.out (rd x7_3 t123) p134 q134
                        cases e134
                        replace p134 := eq_true p134; replace q134 := eq_true q134
                        have p68 : 0 ≤ ((rd x7_3 t123) : Int) := of_decide_eq_true (by with_reducible assumption)
                        have q68 : ((rd x7_3 t123) : Int) < (((rd_L2 x11_3 (rd x7_3 t123)).length : Int) : Int) := of_decide_eq_true (by with_reducible assumption)
                        obtain ⟨go68, co68, eo68, gb68, gl68, cl68, HG68⟩ := Kd.R_form HL129_0.out (by omega)
                        (cases eo68)
                        have GB68 := Aside0.mk gb68
                        have GG68 := Aside0.mk HG68
                        clear gb68 gl68 HG68
                        (simp only [add_plain] at hx134_0)
                        obtain ⟨hx68_0, hf68_0⟩ := Kd.R_celln 0 HL129_0.out ((rd x7_3 t123) : Int) p68 q68
                        replace p68 := eq_true p68; replace q68 := eq_true q68
                        have hq85 : ((rd x7_3 t123) : Int) < (x11_3.length : Int) := (by have h_ : ((rd x7_3 t123) : Int) < ((x11_3.length : Int) : Int) := of_decide_eq_true (by with_reducible assumption); exact h_)
                        obtain ⟨oki85, ce85, hcl85, hM85, hcc85, hok85, hbk85⟩ := Kd.S_borrow HO_11.out [] ((rd x7_3 t123) : Int) (of_decide_eq_true (by with_reducible assumption)) hq85
                        obtain ⟨ve85_0, rfl, ge85_0⟩ := hM85
                        have hv85 := hcc85 0 _ rfl
                        rw [Nat.add_zero, show ((Kd.slice 3 (Kd.int .i64))).sz = 1 from rfl, Nat.mul_one] at hv85
                        replace hv85 := Option.some.inj (hv85.symm.trans HX129_0.out)
                        subst hv85; clear hcc85 hcl85
                        replace ge85_0 := (show Kd.R (Kd.int .i64) 3 _ _ _ _ (rd_L2 x11_3 (rd x7_3 t123)) from ge85_0)
                        have HP85 := Kd.R_putg ge85_0 ((rd x7_3 t123) : Int) (wrap64 ((rd (rd_L2 x11_3 (rd x7_3 t123)) (rd x7_3 t123)) + 1))
                        rw [← Ny135.out] at HP85
                        have HS85 := hbk85 HP85.2 (fun k_ e_ => by injection e_ with e_; subst e_; exact ge85_0.1 _ rfl) (x' := y135) (Kd.M_row HP85.1)
                        rw [← Ny137.out] at HS85
                        have HQ85 := Aside0.mk HS85
                        clear HP85 HS85 hbk85 hok85
                        refine start_ (n := 27) (S := fun w' => w'.cell? (ad126.add (t123).toNat) = some (.int .i64 (rd x7_3 t123)) ∧ w'.cell? (ad129.add ((rd x7_3 t123)).toNat) = some (.slice (some ⟨go68, 0, none⟩) (rd_L2 x11_3 (rd x7_3 t123)).length c129_0) ∧ w'.cell? (ad126.add (t123).toNat) = some (.int .i64 (rd x7_3 t123)) ∧ w'.cell? (ad126.add (t123).toNat) = some (.int .i64 (rd x7_3 t123)) ∧ w'.cell? (ad129.add ((rd x7_3 t123)).toNat) = some (.slice (some ⟨go68, 0, none⟩) (rd_L2 x11_3 (rd x7_3 t123)).length c129_0) ∧ w'.cell? (ad126.add (t123).toNat) = some (.int .i64 (rd x7_3 t123)) ∧ w'.cell? ⟨go68, ((rd x7_3 t123)).toNat, none⟩ = some (.int .i64 (rd (rd_L2 x11_3 (rd x7_3 t123)) (rd x7_3 t123)))) (ds := [26]) #[false, false, false, false, false, false, false, false, false, false, false, false, false, false, false, false, false, false, false, false, false, false, false, false, false, false, false] (by kernel_rfl) rfl rfl ⟨hx128_0, hx129_0, hx130_0, hx131_0, hx132_0, hx133_0, hx134_0⟩ (fun hHeld => ?_); refine with_tabW spec_l12Trees.tab25 spec_l12Trees.bits25 (fun HT_ HW_ => ?_)
                        generalize w81.drew = w83 at HO_7 HO_11 BK101 HB GG68 HL129_0 HL132_0 HQ85 HR129_0 HR132_0 HX129_0 HX132_0 hf68_0 hx128_0 hx129_0 hx130_0 hx131_0 hx132_0 hx133_0 hx134_0 hx68_0 hHeld ⊢
                        refine pu_ (v := ?_) (a' := ?_) 0 (some 99) rfl rfl HT_ (by kernel_rfl) (.inl ⟨by rfl, ?_⟩) ?_ ?_; rotate_left 2; (intro w'; go_simp; with_reducible rfl); (simp only [P6_]; rfl)
                        refine pu_ (v := ?_) (a' := ?_) 1 (some 100) rfl rfl HT_ (by kernel_rfl) (.inl ⟨by rfl, ?_⟩) ?_ ?_; rotate_left 2; (intro w'; go_simp; with_reducible rfl); (simp only [P6_]; rfl)
                        refine pu_ (v := ?_) (a' := ?_) 2 (some 101) rfl rfl HT_ (by kernel_rfl) (.inl ⟨by rfl, ?_⟩) ?_ ?_; rotate_left 2; (intro w'; go_simp; with_reducible rfl); (simp only [P6_]; rfl)
                        refine pu_ (v := ?_) (a' := ?_) 3 (some 102) rfl rfl HT_ (by kernel_rfl) (.inl ⟨by rfl, ?_⟩) ?_ ?_; rotate_left 2; (intro w'; go_simp; with_reducible rfl); (simp only [P6_]; rfl)
                        refine pu_ (v := ?_) (a' := ?_) 7 (some 106) rfl rfl HT_ (by kernel_rfl) (.inl ⟨by rfl, ?_⟩) ?_ ?_; rotate_left 2; (intro w'; go_simp; with_reducible rfl); (simp only [P6_]; rfl)
                        refine pu_ (v := ?_) (a' := ?_) 8 (some 107) rfl rfl HT_ (by kernel_rfl) (.inl ⟨by rfl, ?_⟩) ?_ ?_; rotate_left 2; (intro w'; go_simp; with_reducible rfl); (simp only [P6_]; rfl)
                        refine pu_ (v := ?_) (a' := ?_) 9 (some 108) rfl rfl HT_ (by kernel_rfl) (.inl ⟨by rfl, ?_⟩) ?_ ?_; rotate_left 2; (intro w'; go_simp; with_reducible rfl); (simp only [P6_]; rfl)
                        refine pu_ (v := ?_) (a' := ?_) 11 (some 110) rfl rfl HT_ (by kernel_rfl) (.inl ⟨by rfl, ?_⟩) ?_ ?_; rotate_left 2; (intro w'; go_simp; with_reducible rfl); (simp only [P6_]; rfl)
                        refine pu_ (v := ?_) (a' := ?_) 12 (some 111) rfl rfl HT_ (by kernel_rfl) (.inl ⟨by rfl, ?_⟩) ?_ ?_; rotate_left 2; (intro w'; go_simp; with_reducible rfl); (simp only [P6_]; rfl)
                        refine pu_ (v := ?_) (a' := ?_) 13 (some 112) rfl rfl HT_ (by kernel_rfl) (.inl ⟨by rfl, ?_⟩) ?_ ?_; rotate_left 2; (intro w'; go_simp; with_reducible rfl); (simp only [P6_]; rfl)
                        refine pu_ (v := ?_) (a' := ?_) 14 (some 113) rfl rfl HT_ (by kernel_rfl) (.inl ⟨by rfl, ?_⟩) ?_ ?_; rotate_left 2; (intro w'; go_simp; with_reducible rfl); (simp only [P6_]; rfl)
                        refine pu_ (v := ?_) (a' := ?_) 18 (some 117) rfl rfl HT_ (by kernel_rfl) (.inl ⟨by rfl, ?_⟩) ?_ ?_; rotate_left 2; (intro w'; go_simp; with_reducible rfl); (simp only [P6_]; rfl)
                        refine pu_ (v := ?_) (a' := ?_) 19 (some 118) rfl rfl HT_ (by kernel_rfl) (.inl ⟨by rfl, ?_⟩) ?_ ?_; rotate_left 2; (intro w'; go_simp; with_reducible rfl); (simp only [P6_]; rfl)
                        refine pu_ (v := ?_) (a' := ?_) 20 (some 119) rfl rfl HT_ (by kernel_rfl) (.inl ⟨by rfl, ?_⟩) ?_ ?_; rotate_left 2; (intro w'; go_simp; with_reducible rfl); (simp only [P6_]; rfl)
                        refine ta_ (v := ?_) (a' := ?_) 4 (some 103) rfl rfl HT_ HW_ (by kernel_rfl) (.inl ⟨by rfl, ?_⟩) hHeld ?_ ?_; rotate_left 2; (rintro w' ⟨s0, s1, s2, s3, s4, s5, s6⟩; go_simp; with_reducible rfl); (simp only [P6_]; rfl)
                        refine pu_ (v := ?_) (a' := ?_) 5 (some 104) rfl rfl HT_ (by kernel_rfl) (.inl ⟨by rfl, ?_⟩) ?_ ?_; rotate_left 2; (intro w'; go_simp; with_reducible rfl); (simp only [P6_]; rfl)
                        refine ta_ (v := ?_) (a' := ?_) 6 (some 105) rfl rfl HT_ HW_ (by kernel_rfl) (.inl ⟨by rfl, ?_⟩) hHeld ?_ ?_; rotate_left 2; (rintro w' ⟨s0, s1, s2, s3, s4, s5, s6⟩; go_simp; with_reducible rfl); (simp only [P6_]; rfl)
                        refine ta_ (v := ?_) (a' := ?_) 10 (some 109) rfl rfl HT_ HW_ (by kernel_rfl) (.inl ⟨by rfl, ?_⟩) hHeld ?_ ?_; rotate_left 2; (rintro w' ⟨s0, s1, s2, s3, s4, s5, s6⟩; go_simp; with_reducible rfl); (simp only [P6_]; rfl)
                        refine ta_ (v := ?_) (a' := ?_) 15 (some 114) rfl rfl HT_ HW_ (by kernel_rfl) (.inl ⟨by rfl, ?_⟩) hHeld ?_ ?_; rotate_left 2; (rintro w' ⟨s0, s1, s2, s3, s4, s5, s6⟩; go_simp; with_reducible rfl); (simp only [P6_]; rfl)
                        refine pu_ (v := ?_) (a' := ?_) 16 (some 115) rfl rfl HT_ (by kernel_rfl) (.inl ⟨by rfl, ?_⟩) ?_ ?_; rotate_left 2; (intro w'; go_simp; with_reducible rfl); (simp only [P6_]; rfl)
                        refine ta_ (v := ?_) (a' := ?_) 17 (some 116) rfl rfl HT_ HW_ (by kernel_rfl) (.inl ⟨by rfl, ?_⟩) hHeld ?_ ?_; rotate_left 2; (rintro w' ⟨s0, s1, s2, s3, s4, s5, s6⟩; go_simp; with_reducible rfl); (simp only [P6_]; rfl)
                        refine ta_ (v := ?_) (a' := ?_) 21 (some 120) rfl rfl HT_ HW_ (by kernel_rfl) (.inl ⟨by rfl, ?_⟩) hHeld ?_ ?_; rotate_left 2; (rintro w' ⟨s0, s1, s2, s3, s4, s5, s6⟩; go_simp; with_reducible rfl); (simp only [P6_]; rfl)
                        refine pu_ (v := ?_) (a' := ?_) 22 (some 121) rfl rfl HT_ (by kernel_rfl) (.inl ⟨by rfl, ?_⟩) ?_ ?_; rotate_left 2; (intro w'; go_simp; with_reducible rfl); (simp only [P6_]; rfl)
                        refine ta_ (v := ?_) (a' := ?_) 23 (some 122) rfl rfl HT_ HW_ (by kernel_rfl) (.inl ⟨by rfl, ?_⟩) hHeld ?_ ?_; rotate_left 2; (rintro w' ⟨s0, s1, s2, s3, s4, s5, s6⟩; go_simp; with_reducible rfl); (simp only [P6_]; rfl)
                        refine pu_ (v := ?_) (a' := ?_) 24 (some 123) rfl rfl HT_ (by kernel_rfl) (.inl ⟨by rfl, ?_⟩) ?_ ?_; rotate_left 2; (intro w'; go_simp; with_reducible rfl); (simp only [P6_]; rfl)
                        refine pu_ (v := ?_) (a' := ?_) 25 (some 124) rfl rfl HT_ (by kernel_rfl) (.inl ⟨by rfl, ?_⟩) ?_ ?_; rotate_left 2; (intro w'; go_simp; with_reducible rfl); (simp only [P6_]; rfl)
                        refine last_ (i := 26) (N := none) #[true, true, true, true, true, true, true, true, true, true, true, true, true, true, true, true, true, true, true, true, true, true, true, true, true, true, true] rfl rfl (one_of HT_.out (by kernel_rfl)) (by decide) (fun K hK => ?_)
                        refine skip_ (w1 := ?_) (by rfl) rfl ?_ ?_
                        rotate_left
                        · go_simp
                          rfl
                        refine hK.out _ _ ?_
                        clear hK K
                        refine done_ (done_of HT_.out (by kernel_rfl)) ?_
                        try go_wp2
                        have n0_ : Aside0 (Kd.R (Kd.int .i64) 3 (w83.setCell ⟨go68, ((rd x7_3 t123) : Int).toNat, none⟩ (.int .i64 (wrap64 ((rd (rd_L2 x11_3 (rd x7_3 t123)) (rd x7_3 t123)) + 1)))) w.heap.size (fun _ => True) (.slice (some ad126) x7_3.length co82) x7_3) := ⟨by exact Kd.R_mono (Kd.R_far (p := ⟨go68, ((rd x7_3 t123) : Int).toNat, none⟩) (Kd.R_far1 HO_7.out rfl ((HL129_0.out.1 _ rfl).1)) (fun _ hk => hk.2) (.int .i64 (wrap64 ((rd (rd_L2 x11_3 (rd x7_3 t123)) (rd x7_3 t123)) + 1)))) (fun _ hk => trivial)⟩
                        have n1_ : Aside0 (Kd.S (Kd.slice 3 (Kd.int .i64)) 29 (w83.setCell ⟨go68, ((rd x7_3 t123) : Int).toNat, none⟩ (.int .i64 (wrap64 ((rd (rd_L2 x11_3 (rd x7_3 t123)) (rd x7_3 t123)) + 1)))) w.heap.size (fun k_ => some k_ ≠ (.slice (some ad126) x7_3.length co82 : Value).ownBlock) (.slice (some ad129) x11_3.length co84) y137) := ⟨by exact HQ85.out⟩
                        have n2_ : Aside0 ((w83.setCell ⟨go68, ((rd x7_3 t123) : Int).toNat, none⟩ (.int .i64 (wrap64 ((rd (rd_L2 x11_3 (rd x7_3 t123)) (rd x7_3 t123)) + 1)))).heap[gb101]? = some (.cells #[.int .i64 a0_0, .int .i64 a0_1] 40 (0, 0))) := ⟨by refine blk_far ?_ (by have h_ := Kd.R_ne HL129_0.out BK101.out (by decide); intro e_; exact h_ (by rw [e_]; rfl)) _; exact BK101.out⟩
                        have n3_ : Aside0 (Below w.heap.size w (w83.setCell ⟨go68, ((rd x7_3 t123) : Int).toNat, none⟩ (.int .i64 (wrap64 ((rd (rd_L2 x11_3 (rd x7_3 t123)) (rd x7_3 t123)) + 1))))) := ⟨by repeat ((with_reducible first | exact HB.out | refine below_set ?_ GB68.out))⟩
                        (try clear HO_7); (try clear HO_11); (try clear BK101); (try clear HB)
                        generalize (w83.setCell ⟨go68, ((rd x7_3 t123) : Int).toNat, none⟩ (.int .i64 (wrap64 ((rd (rd_L2 x11_3 (rd x7_3 t123)) (rd x7_3 t123)) + 1)))) = w87 at n0_ n1_ n2_ n3_ ⊢
                        have HO_7 := n0_; have HO_11 := n1_; have BK101 := n2_; have HB := n3_; clear n0_ n1_ n2_ n3_
                        have n0_ := Aside0.mk (Kd.R_drew HO_7.out)
                        have n1_ := Aside0.mk (Kd.S_drew HO_11.out)
                        have n2_ := Aside0.mk (blk_drew BK101.out); have n3_ := Aside0.mk (below_drew1 HB.out); clear HO_7; clear HO_11; clear BK101; clear HB; have HO_7 := n0_; have HO_11 := n1_; have BK101 := n2_; have HB := n3_; clear n0_ n1_ n2_ n3_
                        have p138 : 0 ≤ (t124 : Int) := of_decide_eq_true (by with_reducible assumption)
                        have q138 : t124 < (x7_3.length : Int) := of_decide_eq_true (by with_reducible assumption)
                        obtain ⟨ad138, e138, hx138_0⟩ := Kd.at_int (Kd.R_reads' HO_7.out).2.2 t124 p138 q138
                        obtain rfl : ad126 = ad138 := (by injection e138)
                        replace p138 := eq_true p138; replace q138 := eq_true q138
                        have p139 : 0 ≤ ((rd x7_3 t124) : Int) := of_decide_eq_true (by with_reducible assumption)
                        have q139 : (rd x7_3 t124) < (y137.length : Int) := (by have h_ : ((rd x7_3 t124) : Int) < ((x11_3.length : Int) : Int) := of_decide_eq_true (by with_reducible assumption); (have e_ := (Kd.S_reads' HO_11.out).1; omega))
                        have ql139 : (((rd x7_3 t124) : Int) < ((x11_3.length : Int) : Int)) = True := eq_true (of_decide_eq_true (by with_reducible assumption))
                        obtain ⟨ad139, A139_0, c139_0, e139, hx139_0, hl139_0, hi139_0⟩ := at_L2 (Kd.S_reads' HO_11.out).2.2 (rd x7_3 t124) p139 q139
                        obtain rfl : ad129 = ad139 := (by injection e139)
                        obtain ⟨ce139, hce139, hMe139, hcc139⟩ := Kd.S_get HO_11.out [] (rd x7_3 t124) p139 (by exact of_decide_eq_true (by with_reducible assumption))
                        obtain ⟨ve139_0, rfl, ge139_0⟩ := hMe139
                        have hv139_0 := hcc139 0 _ rfl
                        rw [Nat.add_zero, show ((Kd.slice 3 (Kd.int .i64))).sz = 1 from rfl, Nat.mul_one] at hv139_0
                        replace hv139_0 := Option.some.inj (hv139_0.symm.trans hx139_0)
                        rw [hv139_0] at ge139_0
                        have HL139_0 := Aside0.mk (show Kd.R (Kd.int .i64) 3 _ _ _ _ (rd_L2 y137 (rd x7_3 t124)) from ge139_0)
                        clear hv139_0 ge139_0
                        have HX139_0 := Aside0.mk hx139_0
                        clear hcc139 hce139
                        have HR139_0 := Aside0.mk hi139_0
                        have HC139_0 := Aside0.mk hl139_0
                        clear hi139_0 hl139_0; replace p139 := eq_true p139; replace q139 := eq_true q139
                        have p140 : 0 ≤ (t124 : Int) := of_decide_eq_true (by with_reducible assumption)
                        have q140 : t124 < (x7_3.length : Int) := of_decide_eq_true (by with_reducible assumption)
                        obtain ⟨ad140, e140, hx140_0⟩ := Kd.at_int (Kd.R_reads' HO_7.out).2.2 t124 p140 q140
                        obtain rfl : ad126 = ad140 := (by injection e140)
                        replace p140 := eq_true p140; replace q140 := eq_true q140
                        have p141 : 0 ≤ (t124 : Int) := of_decide_eq_true (by with_reducible assumption)
                        have q141 : t124 < (x7_3.length : Int) := of_decide_eq_true (by with_reducible assumption)
                        obtain ⟨ad141, e141, hx141_0⟩ := Kd.at_int (Kd.R_reads' HO_7.out).2.2 t124 p141 q141
                        obtain rfl : ad126 = ad141 := (by injection e141)
                        replace p141 := eq_true p141; replace q141 := eq_true q141
                        have p142 : 0 ≤ ((rd x7_3 t124) : Int) := of_decide_eq_true (by with_reducible assumption)
                        have q142 : (rd x7_3 t124) < (y137.length : Int) := (by have h_ : ((rd x7_3 t124) : Int) < ((x11_3.length : Int) : Int) := of_decide_eq_true (by with_reducible assumption); (have e_ := (Kd.S_reads' HO_11.out).1; omega))
                        have ql142 : (((rd x7_3 t124) : Int) < ((x11_3.length : Int) : Int)) = True := eq_true (of_decide_eq_true (by with_reducible assumption))
                        obtain ⟨ad142, A142_0, c142_0, e142, hx142_0, hl142_0, hi142_0⟩ := at_L2 (Kd.S_reads' HO_11.out).2.2 (rd x7_3 t124) p142 q142
                        obtain rfl : ad129 = ad142 := (by injection e142)
                        obtain ⟨ce142, hce142, hMe142, hcc142⟩ := Kd.S_get HO_11.out [] (rd x7_3 t124) p142 (by exact of_decide_eq_true (by with_reducible assumption))
                        obtain ⟨ve142_0, rfl, ge142_0⟩ := hMe142
                        have hv142_0 := hcc142 0 _ rfl
                        rw [Nat.add_zero, show ((Kd.slice 3 (Kd.int .i64))).sz = 1 from rfl, Nat.mul_one] at hv142_0
                        replace hv142_0 := Option.some.inj (hv142_0.symm.trans hx142_0)
                        rw [hv142_0] at ge142_0
                        have HL142_0 := Aside0.mk (show Kd.R (Kd.int .i64) 3 _ _ _ _ (rd_L2 y137 (rd x7_3 t124)) from ge142_0)
                        clear hv142_0 ge142_0
                        have HX142_0 := Aside0.mk hx142_0
                        clear hcc142 hce142
                        have HR142_0 := Aside0.mk hi142_0
                        have HC142_0 := Aside0.mk hl142_0
                        clear hi142_0 hl142_0; replace p142 := eq_true p142; replace q142 := eq_true q142
                        have ea_ := Option.some.inj (hx139_0.symm.trans hx142_0)
                        injection ea_ with ea_ en_ ec_
                        subst ea_; subst ec_; clear en_
                        have p143 : 0 ≤ (t124 : Int) := of_decide_eq_true (by with_reducible assumption)
                        have q143 : t124 < (x7_3.length : Int) := of_decide_eq_true (by with_reducible assumption)
                        obtain ⟨ad143, e143, hx143_0⟩ := Kd.at_int (Kd.R_reads' HO_7.out).2.2 t124 p143 q143
                        obtain rfl : ad126 = ad143 := (by injection e143)
                        replace p143 := eq_true p143; replace q143 := eq_true q143
                        have p144 : 0 ≤ ((rd x7_3 t124) : Int) := of_decide_eq_true (by with_reducible assumption)
                        have q144 : (rd x7_3 t124) < ((rd_L2 y137 (rd x7_3 t124)).length : Int) := of_decide_eq_true (by with_reducible assumption)
                        obtain ⟨ad144, e144, hx144_0⟩ := Kd.at_int HR142_0.out (rd x7_3 t124) p144 q144
                        cases e144
                        replace p144 := eq_true p144; replace q144 := eq_true q144
                        have p72 : 0 ≤ ((rd x7_3 t124) : Int) := of_decide_eq_true (by with_reducible assumption)
                        have q72 : ((rd x7_3 t124) : Int) < (((rd_L2 y137 (rd x7_3 t124)).length : Int) : Int) := of_decide_eq_true (by with_reducible assumption)
                        obtain ⟨go72, co72, eo72, gb72, gl72, cl72, HG72⟩ := Kd.R_form HL139_0.out (by omega)
                        (cases eo72)
                        have GB72 := Aside0.mk gb72
                        have GG72 := Aside0.mk HG72
                        clear gb72 gl72 HG72
                        (simp only [add_plain] at hx144_0)
                        obtain ⟨hx72_0, hf72_0⟩ := Kd.R_celln 0 HL139_0.out ((rd x7_3 t124) : Int) p72 q72
                        replace p72 := eq_true p72; replace q72 := eq_true q72
                        have hq89 : ((rd x7_3 t124) : Int) < (x11_3.length : Int) := (by have h_ : ((rd x7_3 t124) : Int) < ((x11_3.length : Int) : Int) := of_decide_eq_true (by with_reducible assumption); exact h_)
                        obtain ⟨oki89, ce89, hcl89, hM89, hcc89, hok89, hbk89⟩ := Kd.S_borrow HO_11.out [] ((rd x7_3 t124) : Int) (of_decide_eq_true (by with_reducible assumption)) hq89
                        obtain ⟨ve89_0, rfl, ge89_0⟩ := hM89
                        have hv89 := hcc89 0 _ rfl
                        rw [Nat.add_zero, show ((Kd.slice 3 (Kd.int .i64))).sz = 1 from rfl, Nat.mul_one] at hv89
                        replace hv89 := Option.some.inj (hv89.symm.trans HX139_0.out)
                        subst hv89; clear hcc89 hcl89
                        replace ge89_0 := (show Kd.R (Kd.int .i64) 3 _ _ _ _ (rd_L2 y137 (rd x7_3 t124)) from ge89_0)
                        have HP89 := Kd.R_putg ge89_0 ((rd x7_3 t124) : Int) (wrap64 ((rd (rd_L2 y137 (rd x7_3 t124)) (rd x7_3 t124)) + 1))
                        rw [← Ny145.out] at HP89
                        have HS89 := hbk89 HP89.2 (fun k_ e_ => by injection e_ with e_; subst e_; exact ge89_0.1 _ rfl) (x' := y145) (Kd.M_row HP89.1)
                        rw [← Ny147.out] at HS89
                        have HQ89 := Aside0.mk HS89
                        clear HP89 HS89 hbk89 hok89
                        refine start_ (n := 27) (S := fun w' => w'.cell? (ad126.add (t124).toNat) = some (.int .i64 (rd x7_3 t124)) ∧ w'.cell? (ad129.add ((rd x7_3 t124)).toNat) = some (.slice (some ⟨go72, 0, none⟩) (rd_L2 y137 (rd x7_3 t124)).length c139_0) ∧ w'.cell? (ad126.add (t124).toNat) = some (.int .i64 (rd x7_3 t124)) ∧ w'.cell? (ad126.add (t124).toNat) = some (.int .i64 (rd x7_3 t124)) ∧ w'.cell? (ad129.add ((rd x7_3 t124)).toNat) = some (.slice (some ⟨go72, 0, none⟩) (rd_L2 y137 (rd x7_3 t124)).length c139_0) ∧ w'.cell? (ad126.add (t124).toNat) = some (.int .i64 (rd x7_3 t124)) ∧ w'.cell? ⟨go72, ((rd x7_3 t124)).toNat, none⟩ = some (.int .i64 (rd (rd_L2 y137 (rd x7_3 t124)) (rd x7_3 t124)))) (ds := [26]) #[false, false, false, false, false, false, false, false, false, false, false, false, false, false, false, false, false, false, false, false, false, false, false, false, false, false, false] (by kernel_rfl) rfl rfl ⟨hx138_0, hx139_0, hx140_0, hx141_0, hx142_0, hx143_0, hx144_0⟩ (fun hHeld => ?_); refine with_tabW spec_l12Trees.tab26 spec_l12Trees.bits26 (fun HT_ HW_ => ?_)
                        generalize w87.drew = w88 at HO_7 HO_11 BK101 HB GG72 HL139_0 HL142_0 HQ85 HQ89 HR139_0 HR142_0 HX139_0 HX142_0 hf72_0 hx138_0 hx139_0 hx140_0 hx141_0 hx142_0 hx143_0 hx144_0 hx72_0 hHeld ⊢
                        refine pu_ (v := ?_) (a' := ?_) 0 (some 125) rfl rfl HT_ (by kernel_rfl) (.inl ⟨by rfl, ?_⟩) ?_ ?_; rotate_left 2; (intro w'; go_simp; with_reducible rfl); (simp only [P6_]; rfl)
                        refine pu_ (v := ?_) (a' := ?_) 1 (some 126) rfl rfl HT_ (by kernel_rfl) (.inl ⟨by rfl, ?_⟩) ?_ ?_; rotate_left 2; (intro w'; go_simp; with_reducible rfl); (simp only [P6_]; rfl)
                        refine pu_ (v := ?_) (a' := ?_) 2 (some 127) rfl rfl HT_ (by kernel_rfl) (.inl ⟨by rfl, ?_⟩) ?_ ?_; rotate_left 2; (intro w'; go_simp; with_reducible rfl); (simp only [P6_]; rfl)
                        refine pu_ (v := ?_) (a' := ?_) 3 (some 128) rfl rfl HT_ (by kernel_rfl) (.inl ⟨by rfl, ?_⟩) ?_ ?_; rotate_left 2; (intro w'; go_simp; with_reducible rfl); (simp only [P6_]; rfl)
                        refine pu_ (v := ?_) (a' := ?_) 7 (some 132) rfl rfl HT_ (by kernel_rfl) (.inl ⟨by rfl, ?_⟩) ?_ ?_; rotate_left 2; (intro w'; go_simp; with_reducible rfl); (simp only [P6_]; rfl)
                        refine pu_ (v := ?_) (a' := ?_) 8 (some 133) rfl rfl HT_ (by kernel_rfl) (.inl ⟨by rfl, ?_⟩) ?_ ?_; rotate_left 2; (intro w'; go_simp; with_reducible rfl); (simp only [P6_]; rfl)
                        refine pu_ (v := ?_) (a' := ?_) 9 (some 134) rfl rfl HT_ (by kernel_rfl) (.inl ⟨by rfl, ?_⟩) ?_ ?_; rotate_left 2; (intro w'; go_simp; with_reducible rfl); (simp only [P6_]; rfl)
                        refine pu_ (v := ?_) (a' := ?_) 11 (some 136) rfl rfl HT_ (by kernel_rfl) (.inl ⟨by rfl, ?_⟩) ?_ ?_; rotate_left 2; (intro w'; go_simp; with_reducible rfl); (simp only [P6_]; rfl)
                        refine pu_ (v := ?_) (a' := ?_) 12 (some 137) rfl rfl HT_ (by kernel_rfl) (.inl ⟨by rfl, ?_⟩) ?_ ?_; rotate_left 2; (intro w'; go_simp; with_reducible rfl); (simp only [P6_]; rfl)
                        refine pu_ (v := ?_) (a' := ?_) 13 (some 138) rfl rfl HT_ (by kernel_rfl) (.inl ⟨by rfl, ?_⟩) ?_ ?_; rotate_left 2; (intro w'; go_simp; with_reducible rfl); (simp only [P6_]; rfl)
                        refine pu_ (v := ?_) (a' := ?_) 14 (some 139) rfl rfl HT_ (by kernel_rfl) (.inl ⟨by rfl, ?_⟩) ?_ ?_; rotate_left 2; (intro w'; go_simp; with_reducible rfl); (simp only [P6_]; rfl)
                        refine pu_ (v := ?_) (a' := ?_) 18 (some 143) rfl rfl HT_ (by kernel_rfl) (.inl ⟨by rfl, ?_⟩) ?_ ?_; rotate_left 2; (intro w'; go_simp; with_reducible rfl); (simp only [P6_]; rfl)
                        refine pu_ (v := ?_) (a' := ?_) 19 (some 144) rfl rfl HT_ (by kernel_rfl) (.inl ⟨by rfl, ?_⟩) ?_ ?_; rotate_left 2; (intro w'; go_simp; with_reducible rfl); (simp only [P6_]; rfl)
                        refine pu_ (v := ?_) (a' := ?_) 20 (some 145) rfl rfl HT_ (by kernel_rfl) (.inl ⟨by rfl, ?_⟩) ?_ ?_; rotate_left 2; (intro w'; go_simp; with_reducible rfl); (simp only [P6_]; rfl)
                        refine ta_ (v := ?_) (a' := ?_) 4 (some 129) rfl rfl HT_ HW_ (by kernel_rfl) (.inl ⟨by rfl, ?_⟩) hHeld ?_ ?_; rotate_left 2; (rintro w' ⟨s0, s1, s2, s3, s4, s5, s6⟩; go_simp; with_reducible rfl); (simp only [P6_]; rfl)
                        refine pu_ (v := ?_) (a' := ?_) 5 (some 130) rfl rfl HT_ (by kernel_rfl) (.inl ⟨by rfl, ?_⟩) ?_ ?_; rotate_left 2; (intro w'; go_simp; with_reducible rfl); (simp only [P6_]; rfl)
                        refine ta_ (v := ?_) (a' := ?_) 6 (some 131) rfl rfl HT_ HW_ (by kernel_rfl) (.inl ⟨by rfl, ?_⟩) hHeld ?_ ?_; rotate_left 2; (rintro w' ⟨s0, s1, s2, s3, s4, s5, s6⟩; go_simp; with_reducible rfl); (simp only [P6_]; rfl)
                        refine ta_ (v := ?_) (a' := ?_) 10 (some 135) rfl rfl HT_ HW_ (by kernel_rfl) (.inl ⟨by rfl, ?_⟩) hHeld ?_ ?_; rotate_left 2; (rintro w' ⟨s0, s1, s2, s3, s4, s5, s6⟩; go_simp; with_reducible rfl); (simp only [P6_]; rfl)
                        refine ta_ (v := ?_) (a' := ?_) 15 (some 140) rfl rfl HT_ HW_ (by kernel_rfl) (.inl ⟨by rfl, ?_⟩) hHeld ?_ ?_; rotate_left 2; (rintro w' ⟨s0, s1, s2, s3, s4, s5, s6⟩; go_simp; with_reducible rfl); (simp only [P6_]; rfl)
                        refine pu_ (v := ?_) (a' := ?_) 16 (some 141) rfl rfl HT_ (by kernel_rfl) (.inl ⟨by rfl, ?_⟩) ?_ ?_; rotate_left 2; (intro w'; go_simp; with_reducible rfl); (simp only [P6_]; rfl)
                        refine ta_ (v := ?_) (a' := ?_) 17 (some 142) rfl rfl HT_ HW_ (by kernel_rfl) (.inl ⟨by rfl, ?_⟩) hHeld ?_ ?_; rotate_left 2; (rintro w' ⟨s0, s1, s2, s3, s4, s5, s6⟩; go_simp; with_reducible rfl); (simp only [P6_]; rfl)
                        refine ta_ (v := ?_) (a' := ?_) 21 (some 146) rfl rfl HT_ HW_ (by kernel_rfl) (.inl ⟨by rfl, ?_⟩) hHeld ?_ ?_; rotate_left 2; (rintro w' ⟨s0, s1, s2, s3, s4, s5, s6⟩; go_simp; with_reducible rfl); (simp only [P6_]; rfl)
                        refine pu_ (v := ?_) (a' := ?_) 22 (some 147) rfl rfl HT_ (by kernel_rfl) (.inl ⟨by rfl, ?_⟩) ?_ ?_; rotate_left 2; (intro w'; go_simp; with_reducible rfl); (simp only [P6_]; rfl)
                        refine ta_ (v := ?_) (a' := ?_) 23 (some 148) rfl rfl HT_ HW_ (by kernel_rfl) (.inl ⟨by rfl, ?_⟩) hHeld ?_ ?_; rotate_left 2; (rintro w' ⟨s0, s1, s2, s3, s4, s5, s6⟩; go_simp; with_reducible rfl); (simp only [P6_]; rfl)
                        refine pu_ (v := ?_) (a' := ?_) 24 (some 149) rfl rfl HT_ (by kernel_rfl) (.inl ⟨by rfl, ?_⟩) ?_ ?_; rotate_left 2; (intro w'; go_simp; with_reducible rfl); (simp only [P6_]; rfl)
                        refine pu_ (v := ?_) (a' := ?_) 25 (some 150) rfl rfl HT_ (by kernel_rfl) (.inl ⟨by rfl, ?_⟩) ?_ ?_; rotate_left 2; (intro w'; go_simp; with_reducible rfl); (simp only [P6_]; rfl)
                        refine last_ (i := 26) (N := none) #[true, true, true, true, true, true, true, true, true, true, true, true, true, true, true, true, true, true, true, true, true, true, true, true, true, true, true] rfl rfl (one_of HT_.out (by kernel_rfl)) (by decide) (fun K hK => ?_)
                        refine skip_ (w1 := ?_) (by rfl) rfl ?_ ?_
                        rotate_left
                        · go_simp
                          rfl
                        refine hK.out _ _ ?_
                        clear hK K
                        refine done_ (done_of HT_.out (by kernel_rfl)) ?_
                        try go_wp2
                        have n0_ : Aside0 (Kd.R (Kd.int .i64) 3 (w88.setCell ⟨go72, ((rd x7_3 t124) : Int).toNat, none⟩ (.int .i64 (wrap64 ((rd (rd_L2 y137 (rd x7_3 t124)) (rd x7_3 t124)) + 1)))) w.heap.size (fun _ => True) (.slice (some ad126) x7_3.length co82) x7_3) := ⟨by exact Kd.R_mono (Kd.R_far (p := ⟨go72, ((rd x7_3 t124) : Int).toNat, none⟩) (Kd.R_far1 HO_7.out rfl ((HL139_0.out.1 _ rfl).1)) (fun _ hk => hk.2) (.int .i64 (wrap64 ((rd (rd_L2 y137 (rd x7_3 t124)) (rd x7_3 t124)) + 1)))) (fun _ hk => trivial)⟩
                        have n1_ : Aside0 (Kd.S (Kd.slice 3 (Kd.int .i64)) 29 (w88.setCell ⟨go72, ((rd x7_3 t124) : Int).toNat, none⟩ (.int .i64 (wrap64 ((rd (rd_L2 y137 (rd x7_3 t124)) (rd x7_3 t124)) + 1)))) w.heap.size (fun k_ => some k_ ≠ (.slice (some ad126) x7_3.length co82 : Value).ownBlock) (.slice (some ad129) x11_3.length co84) y147) := ⟨by exact HQ89.out⟩
                        have n2_ : Aside0 ((w88.setCell ⟨go72, ((rd x7_3 t124) : Int).toNat, none⟩ (.int .i64 (wrap64 ((rd (rd_L2 y137 (rd x7_3 t124)) (rd x7_3 t124)) + 1)))).heap[gb101]? = some (.cells #[.int .i64 a0_0, .int .i64 a0_1] 40 (0, 0))) := ⟨by refine blk_far ?_ (by have h_ := Kd.R_ne HL139_0.out BK101.out (by decide); intro e_; exact h_ (by rw [e_]; rfl)) _; exact BK101.out⟩
                        have n3_ : Aside0 (Below w.heap.size w (w88.setCell ⟨go72, ((rd x7_3 t124) : Int).toNat, none⟩ (.int .i64 (wrap64 ((rd (rd_L2 y137 (rd x7_3 t124)) (rd x7_3 t124)) + 1))))) := ⟨by repeat ((with_reducible first | exact HB.out | refine below_set ?_ GB72.out))⟩
                        (try clear HO_7); (try clear HO_11); (try clear BK101); (try clear HB)
                        generalize (w88.setCell ⟨go72, ((rd x7_3 t124) : Int).toNat, none⟩ (.int .i64 (wrap64 ((rd (rd_L2 y137 (rd x7_3 t124)) (rd x7_3 t124)) + 1)))) = w91 at n0_ n1_ n2_ n3_ ⊢
                        have HO_7 := n0_; have HO_11 := n1_; have BK101 := n2_; have HB := n3_; clear n0_ n1_ n2_ n3_
                        have n0_ := Aside0.mk (Kd.R_drew HO_7.out)
                        have n1_ := Aside0.mk (Kd.S_drew HO_11.out)
                        have n2_ := Aside0.mk (blk_drew BK101.out); have n3_ := Aside0.mk (below_drew1 HB.out); clear HO_7; clear HO_11; clear BK101; clear HB; have HO_7 := n0_; have HO_11 := n1_; have BK101 := n2_; have HB := n3_; clear n0_ n1_ n2_ n3_
                        (try (obtain ⟨As_, cs_, es_⟩ := Kd.R_slice HO_7.out; subst es_))
                        have p148 : 0 ≤ (t123 : Int) := of_decide_eq_true (by with_reducible assumption)
                        have q148 : t123 < (x7_3.length : Int) := of_decide_eq_true (by with_reducible assumption)
                        obtain ⟨ad148, e148, hx148_0⟩ := Kd.at_int (Kd.R_reads' HO_7.out).2.2 t123 p148 q148
                        obtain rfl : ad126 = ad148 := (by injection e148)
                        replace p148 := eq_true p148; replace q148 := eq_true q148
                        have p149 : 0 ≤ ((rd x7_3 t123) : Int) := of_decide_eq_true (by with_reducible assumption)
                        have q149 : (rd x7_3 t123) < (y147.length : Int) := (by have h_ : ((rd x7_3 t123) : Int) < ((x11_3.length : Int) : Int) := of_decide_eq_true (by with_reducible assumption); (have e_ := (Kd.S_reads' HO_11.out).1; omega))
                        have ql149 : (((rd x7_3 t123) : Int) < ((x11_3.length : Int) : Int)) = True := eq_true (of_decide_eq_true (by with_reducible assumption))
                        obtain ⟨ad149, A149_0, c149_0, e149, hx149_0, hl149_0, hi149_0⟩ := at_L2 (Kd.S_reads' HO_11.out).2.2 (rd x7_3 t123) p149 q149
                        obtain rfl : ad129 = ad149 := (by injection e149)
                        obtain ⟨ce149, hce149, hMe149, hcc149⟩ := Kd.S_get HO_11.out [] (rd x7_3 t123) p149 (by exact of_decide_eq_true (by with_reducible assumption))
                        obtain ⟨ve149_0, rfl, ge149_0⟩ := hMe149
                        have hv149_0 := hcc149 0 _ rfl
                        rw [Nat.add_zero, show ((Kd.slice 3 (Kd.int .i64))).sz = 1 from rfl, Nat.mul_one] at hv149_0
                        replace hv149_0 := Option.some.inj (hv149_0.symm.trans hx149_0)
                        rw [hv149_0] at ge149_0
                        have HL149_0 := Aside0.mk (show Kd.R (Kd.int .i64) 3 _ _ _ _ (rd_L2 y147 (rd x7_3 t123)) from ge149_0)
                        clear hv149_0 ge149_0
                        have HX149_0 := Aside0.mk hx149_0
                        clear hcc149 hce149
                        have HR149_0 := Aside0.mk hi149_0
                        have HC149_0 := Aside0.mk hl149_0
                        clear hi149_0 hl149_0; replace p149 := eq_true p149; replace q149 := eq_true q149
                        have p150 : 0 ≤ (t124 : Int) := of_decide_eq_true (by with_reducible assumption)
                        have q150 : t124 < (x7_3.length : Int) := of_decide_eq_true (by with_reducible assumption)
                        obtain ⟨ad150, e150, hx150_0⟩ := Kd.at_int (Kd.R_reads' HO_7.out).2.2 t124 p150 q150
                        obtain rfl : ad126 = ad150 := (by injection e150)
                        replace p150 := eq_true p150; replace q150 := eq_true q150
                        (try (obtain ⟨As_, cs_, es_⟩ := Kd.R_slice HO_7.out; subst es_))
                        have p151 : 0 ≤ (t123 : Int) := of_decide_eq_true (by with_reducible assumption)
                        have q151 : t123 < (x7_3.length : Int) := of_decide_eq_true (by with_reducible assumption)
                        obtain ⟨ad151, e151, hx151_0⟩ := Kd.at_int (Kd.R_reads' HO_7.out).2.2 t123 p151 q151
                        obtain rfl : ad126 = ad151 := (by injection e151)
                        replace p151 := eq_true p151; replace q151 := eq_true q151
                        have p152 : 0 ≤ ((rd x7_3 t123) : Int) := of_decide_eq_true (by with_reducible assumption)
                        have q152 : (rd x7_3 t123) < (y147.length : Int) := (by have h_ : ((rd x7_3 t123) : Int) < ((x11_3.length : Int) : Int) := of_decide_eq_true (by with_reducible assumption); (have e_ := (Kd.S_reads' HO_11.out).1; omega))
                        have ql152 : (((rd x7_3 t123) : Int) < ((x11_3.length : Int) : Int)) = True := eq_true (of_decide_eq_true (by with_reducible assumption))
                        obtain ⟨ad152, A152_0, c152_0, e152, hx152_0, hl152_0, hi152_0⟩ := at_L2 (Kd.S_reads' HO_11.out).2.2 (rd x7_3 t123) p152 q152
                        obtain rfl : ad129 = ad152 := (by injection e152)
                        obtain ⟨ce152, hce152, hMe152, hcc152⟩ := Kd.S_get HO_11.out [] (rd x7_3 t123) p152 (by exact of_decide_eq_true (by with_reducible assumption))
                        obtain ⟨ve152_0, rfl, ge152_0⟩ := hMe152
                        have hv152_0 := hcc152 0 _ rfl
                        rw [Nat.add_zero, show ((Kd.slice 3 (Kd.int .i64))).sz = 1 from rfl, Nat.mul_one] at hv152_0
                        replace hv152_0 := Option.some.inj (hv152_0.symm.trans hx152_0)
                        rw [hv152_0] at ge152_0
                        have HL152_0 := Aside0.mk (show Kd.R (Kd.int .i64) 3 _ _ _ _ (rd_L2 y147 (rd x7_3 t123)) from ge152_0)
                        clear hv152_0 ge152_0
                        have HX152_0 := Aside0.mk hx152_0
                        clear hcc152 hce152
                        have HR152_0 := Aside0.mk hi152_0
                        have HC152_0 := Aside0.mk hl152_0
                        clear hi152_0 hl152_0; replace p152 := eq_true p152; replace q152 := eq_true q152
                        have ea_ := Option.some.inj (hx149_0.symm.trans hx152_0)
                        injection ea_ with ea_ en_ ec_
                        subst ea_; subst ec_; clear en_
                        have p153 : 0 ≤ (t124 : Int) := of_decide_eq_true (by with_reducible assumption)
                        have q153 : t124 < (x7_3.length : Int) := of_decide_eq_true (by with_reducible assumption)
                        obtain ⟨ad153, e153, hx153_0⟩ := Kd.at_int (Kd.R_reads' HO_7.out).2.2 t124 p153 q153
                        obtain rfl : ad126 = ad153 := (by injection e153)
                        replace p153 := eq_true p153; replace q153 := eq_true q153
                        have p154 : 0 ≤ ((rd x7_3 t124) : Int) := of_decide_eq_true (by with_reducible assumption)
                        have q154 : (rd x7_3 t124) < ((rd_L2 y147 (rd x7_3 t123)).length : Int) := of_decide_eq_true (by with_reducible assumption)
                        obtain ⟨ad154, e154, hx154_0⟩ := Kd.at_int HR152_0.out (rd x7_3 t124) p154 q154
                        cases e154
                        replace p154 := eq_true p154; replace q154 := eq_true q154
                        have p74 : 0 ≤ ((rd x7_3 t124) : Int) := of_decide_eq_true (by with_reducible assumption)
                        have q74 : ((rd x7_3 t124) : Int) < (((rd_L2 y147 (rd x7_3 t123)).length : Int) : Int) := of_decide_eq_true (by with_reducible assumption)
                        obtain ⟨go74, co74, eo74, gb74, gl74, cl74, HG74⟩ := Kd.R_form HL149_0.out (by omega)
                        (cases eo74)
                        have GB74 := Aside0.mk gb74
                        have GG74 := Aside0.mk HG74
                        clear gb74 gl74 HG74
                        (simp only [add_plain] at hx154_0)
                        obtain ⟨hx74_0, hf74_0⟩ := Kd.R_celln 0 HL149_0.out ((rd x7_3 t124) : Int) p74 q74
                        replace p74 := eq_true p74; replace q74 := eq_true q74
                        have hq93 : ((rd x7_3 t123) : Int) < (x11_3.length : Int) := (by have h_ : ((rd x7_3 t123) : Int) < ((x11_3.length : Int) : Int) := of_decide_eq_true (by with_reducible assumption); exact h_)
                        obtain ⟨oki93, ce93, hcl93, hM93, hcc93, hok93, hbk93⟩ := Kd.S_borrow HO_11.out [] ((rd x7_3 t123) : Int) (of_decide_eq_true (by with_reducible assumption)) hq93
                        obtain ⟨ve93_0, rfl, ge93_0⟩ := hM93
                        have hv93 := hcc93 0 _ rfl
                        rw [Nat.add_zero, show ((Kd.slice 3 (Kd.int .i64))).sz = 1 from rfl, Nat.mul_one] at hv93
                        replace hv93 := Option.some.inj (hv93.symm.trans HX149_0.out)
                        subst hv93; clear hcc93 hcl93
                        replace ge93_0 := (show Kd.R (Kd.int .i64) 3 _ _ _ _ (rd_L2 y147 (rd x7_3 t123)) from ge93_0)
                        have HP93 := Kd.R_putg ge93_0 ((rd x7_3 t124) : Int) (wrap64 ((rd (rd_L2 y147 (rd x7_3 t123)) (rd x7_3 t124)) - 1))
                        rw [← Ny155.out] at HP93
                        have HS93 := hbk93 HP93.2 (fun k_ e_ => by injection e_ with e_; subst e_; exact ge93_0.1 _ rfl) (x' := y155) (Kd.M_row HP93.1)
                        rw [← Ny157.out] at HS93
                        have HQ93 := Aside0.mk HS93
                        clear HP93 HS93 hbk93 hok93
                        refine start_ (n := 27) (S := fun w' => w'.cell? (ad126.add (t123).toNat) = some (.int .i64 (rd x7_3 t123)) ∧ w'.cell? (ad129.add ((rd x7_3 t123)).toNat) = some (.slice (some ⟨go74, 0, none⟩) (rd_L2 y147 (rd x7_3 t123)).length c149_0) ∧ w'.cell? (ad126.add (t124).toNat) = some (.int .i64 (rd x7_3 t124)) ∧ w'.cell? (ad126.add (t123).toNat) = some (.int .i64 (rd x7_3 t123)) ∧ w'.cell? (ad129.add ((rd x7_3 t123)).toNat) = some (.slice (some ⟨go74, 0, none⟩) (rd_L2 y147 (rd x7_3 t123)).length c149_0) ∧ w'.cell? (ad126.add (t124).toNat) = some (.int .i64 (rd x7_3 t124)) ∧ w'.cell? ⟨go74, ((rd x7_3 t124)).toNat, none⟩ = some (.int .i64 (rd (rd_L2 y147 (rd x7_3 t123)) (rd x7_3 t124)))) (ds := [26]) #[false, false, false, false, false, false, false, false, false, false, false, false, false, false, false, false, false, false, false, false, false, false, false, false, false, false, false] (by kernel_rfl) rfl rfl ⟨hx148_0, hx149_0, hx150_0, hx151_0, hx152_0, hx153_0, hx154_0⟩ (fun hHeld => ?_); refine with_tabW spec_l12Trees.tab27 spec_l12Trees.bits27 (fun HT_ HW_ => ?_)
                        generalize w91.drew = w92 at HO_7 HO_11 BK101 HB GG74 HL149_0 HL152_0 HQ89 HQ93 HR149_0 HR152_0 HX149_0 HX152_0 hf74_0 hx148_0 hx149_0 hx150_0 hx151_0 hx152_0 hx153_0 hx154_0 hx74_0 hHeld ⊢
                        refine pu_ (v := ?_) (a' := ?_) 0 (some 151) rfl rfl HT_ (by kernel_rfl) (.inl ⟨by rfl, ?_⟩) ?_ ?_; rotate_left 2; (intro w'; go_simp; with_reducible rfl); (simp only [P6_]; rfl)
                        refine pu_ (v := ?_) (a' := ?_) 1 (some 152) rfl rfl HT_ (by kernel_rfl) (.inl ⟨by rfl, ?_⟩) ?_ ?_; rotate_left 2; (intro w'; go_simp; with_reducible rfl); (simp only [P6_]; rfl)
                        refine pu_ (v := ?_) (a' := ?_) 2 (some 153) rfl rfl HT_ (by kernel_rfl) (.inl ⟨by rfl, ?_⟩) ?_ ?_; rotate_left 2; (intro w'; go_simp; with_reducible rfl); (simp only [P6_]; rfl)
                        refine pu_ (v := ?_) (a' := ?_) 3 (some 154) rfl rfl HT_ (by kernel_rfl) (.inl ⟨by rfl, ?_⟩) ?_ ?_; rotate_left 2; (intro w'; go_simp; with_reducible rfl); (simp only [P6_]; rfl)
                        refine pu_ (v := ?_) (a' := ?_) 7 (some 158) rfl rfl HT_ (by kernel_rfl) (.inl ⟨by rfl, ?_⟩) ?_ ?_; rotate_left 2; (intro w'; go_simp; with_reducible rfl); (simp only [P6_]; rfl)
                        refine pu_ (v := ?_) (a' := ?_) 8 (some 159) rfl rfl HT_ (by kernel_rfl) (.inl ⟨by rfl, ?_⟩) ?_ ?_; rotate_left 2; (intro w'; go_simp; with_reducible rfl); (simp only [P6_]; rfl)
                        refine pu_ (v := ?_) (a' := ?_) 9 (some 160) rfl rfl HT_ (by kernel_rfl) (.inl ⟨by rfl, ?_⟩) ?_ ?_; rotate_left 2; (intro w'; go_simp; with_reducible rfl); (simp only [P6_]; rfl)
                        refine pu_ (v := ?_) (a' := ?_) 11 (some 162) rfl rfl HT_ (by kernel_rfl) (.inl ⟨by rfl, ?_⟩) ?_ ?_; rotate_left 2; (intro w'; go_simp; with_reducible rfl); (simp only [P6_]; rfl)
                        refine pu_ (v := ?_) (a' := ?_) 12 (some 163) rfl rfl HT_ (by kernel_rfl) (.inl ⟨by rfl, ?_⟩) ?_ ?_; rotate_left 2; (intro w'; go_simp; with_reducible rfl); (simp only [P6_]; rfl)
                        refine pu_ (v := ?_) (a' := ?_) 13 (some 164) rfl rfl HT_ (by kernel_rfl) (.inl ⟨by rfl, ?_⟩) ?_ ?_; rotate_left 2; (intro w'; go_simp; with_reducible rfl); (simp only [P6_]; rfl)
                        refine pu_ (v := ?_) (a' := ?_) 14 (some 165) rfl rfl HT_ (by kernel_rfl) (.inl ⟨by rfl, ?_⟩) ?_ ?_; rotate_left 2; (intro w'; go_simp; with_reducible rfl); (simp only [P6_]; rfl)
                        refine pu_ (v := ?_) (a' := ?_) 18 (some 169) rfl rfl HT_ (by kernel_rfl) (.inl ⟨by rfl, ?_⟩) ?_ ?_; rotate_left 2; (intro w'; go_simp; with_reducible rfl); (simp only [P6_]; rfl)
                        refine pu_ (v := ?_) (a' := ?_) 19 (some 170) rfl rfl HT_ (by kernel_rfl) (.inl ⟨by rfl, ?_⟩) ?_ ?_; rotate_left 2; (intro w'; go_simp; with_reducible rfl); (simp only [P6_]; rfl)
                        refine pu_ (v := ?_) (a' := ?_) 20 (some 171) rfl rfl HT_ (by kernel_rfl) (.inl ⟨by rfl, ?_⟩) ?_ ?_; rotate_left 2; (intro w'; go_simp; with_reducible rfl); (simp only [P6_]; rfl)
                        refine ta_ (v := ?_) (a' := ?_) 4 (some 155) rfl rfl HT_ HW_ (by kernel_rfl) (.inl ⟨by rfl, ?_⟩) hHeld ?_ ?_; rotate_left 2; (rintro w' ⟨s0, s1, s2, s3, s4, s5, s6⟩; go_simp; with_reducible rfl); (simp only [P6_]; rfl)
                        refine pu_ (v := ?_) (a' := ?_) 5 (some 156) rfl rfl HT_ (by kernel_rfl) (.inl ⟨by rfl, ?_⟩) ?_ ?_; rotate_left 2; (intro w'; go_simp; with_reducible rfl); (simp only [P6_]; rfl)
                        refine ta_ (v := ?_) (a' := ?_) 6 (some 157) rfl rfl HT_ HW_ (by kernel_rfl) (.inl ⟨by rfl, ?_⟩) hHeld ?_ ?_; rotate_left 2; (rintro w' ⟨s0, s1, s2, s3, s4, s5, s6⟩; go_simp; with_reducible rfl); (simp only [P6_]; rfl)
                        refine ta_ (v := ?_) (a' := ?_) 10 (some 161) rfl rfl HT_ HW_ (by kernel_rfl) (.inl ⟨by rfl, ?_⟩) hHeld ?_ ?_; rotate_left 2; (rintro w' ⟨s0, s1, s2, s3, s4, s5, s6⟩; go_simp; with_reducible rfl); (simp only [P6_]; rfl)
                        refine ta_ (v := ?_) (a' := ?_) 15 (some 166) rfl rfl HT_ HW_ (by kernel_rfl) (.inl ⟨by rfl, ?_⟩) hHeld ?_ ?_; rotate_left 2; (rintro w' ⟨s0, s1, s2, s3, s4, s5, s6⟩; go_simp; with_reducible rfl); (simp only [P6_]; rfl)
                        refine pu_ (v := ?_) (a' := ?_) 16 (some 167) rfl rfl HT_ (by kernel_rfl) (.inl ⟨by rfl, ?_⟩) ?_ ?_; rotate_left 2; (intro w'; go_simp; with_reducible rfl); (simp only [P6_]; rfl)
                        refine ta_ (v := ?_) (a' := ?_) 17 (some 168) rfl rfl HT_ HW_ (by kernel_rfl) (.inl ⟨by rfl, ?_⟩) hHeld ?_ ?_; rotate_left 2; (rintro w' ⟨s0, s1, s2, s3, s4, s5, s6⟩; go_simp; with_reducible rfl); (simp only [P6_]; rfl)
                        refine ta_ (v := ?_) (a' := ?_) 21 (some 172) rfl rfl HT_ HW_ (by kernel_rfl) (.inl ⟨by rfl, ?_⟩) hHeld ?_ ?_; rotate_left 2; (rintro w' ⟨s0, s1, s2, s3, s4, s5, s6⟩; go_simp; with_reducible rfl); (simp only [P6_]; rfl)
                        refine pu_ (v := ?_) (a' := ?_) 22 (some 173) rfl rfl HT_ (by kernel_rfl) (.inl ⟨by rfl, ?_⟩) ?_ ?_; rotate_left 2; (intro w'; go_simp; with_reducible rfl); (simp only [P6_]; rfl)
                        refine ta_ (v := ?_) (a' := ?_) 23 (some 174) rfl rfl HT_ HW_ (by kernel_rfl) (.inl ⟨by rfl, ?_⟩) hHeld ?_ ?_; rotate_left 2; (rintro w' ⟨s0, s1, s2, s3, s4, s5, s6⟩; go_simp; with_reducible rfl); (simp only [P6_]; rfl)
                        refine pu_ (v := ?_) (a' := ?_) 24 (some 175) rfl rfl HT_ (by kernel_rfl) (.inl ⟨by rfl, ?_⟩) ?_ ?_; rotate_left 2; (intro w'; go_simp; with_reducible rfl); (simp only [P6_]; rfl)
                        refine pu_ (v := ?_) (a' := ?_) 25 (some 176) rfl rfl HT_ (by kernel_rfl) (.inl ⟨by rfl, ?_⟩) ?_ ?_; rotate_left 2; (intro w'; go_simp; with_reducible rfl); (simp only [P6_]; rfl)
                        refine last_ (i := 26) (N := none) #[true, true, true, true, true, true, true, true, true, true, true, true, true, true, true, true, true, true, true, true, true, true, true, true, true, true, true] rfl rfl (one_of HT_.out (by kernel_rfl)) (by decide) (fun K hK => ?_)
                        refine skip_ (w1 := ?_) (by rfl) rfl ?_ ?_
                        rotate_left
                        · go_simp
                          rfl
                        refine hK.out _ _ ?_
                        clear hK K
                        refine done_ (done_of HT_.out (by kernel_rfl)) ?_
                        try go_wp2
                        have n0_ : Aside0 (Kd.R (Kd.int .i64) 3 (w92.setCell ⟨go74, ((rd x7_3 t124) : Int).toNat, none⟩ (.int .i64 (wrap64 ((rd (rd_L2 y147 (rd x7_3 t123)) (rd x7_3 t124)) - 1)))) w.heap.size (fun _ => True) (.slice (some ad126) x7_3.length co82) x7_3) := ⟨by exact Kd.R_mono (Kd.R_far (p := ⟨go74, ((rd x7_3 t124) : Int).toNat, none⟩) (Kd.R_far1 HO_7.out rfl ((HL149_0.out.1 _ rfl).1)) (fun _ hk => hk.2) (.int .i64 (wrap64 ((rd (rd_L2 y147 (rd x7_3 t123)) (rd x7_3 t124)) - 1)))) (fun _ hk => trivial)⟩
                        have n1_ : Aside0 (Kd.S (Kd.slice 3 (Kd.int .i64)) 29 (w92.setCell ⟨go74, ((rd x7_3 t124) : Int).toNat, none⟩ (.int .i64 (wrap64 ((rd (rd_L2 y147 (rd x7_3 t123)) (rd x7_3 t124)) - 1)))) w.heap.size (fun k_ => some k_ ≠ (.slice (some ad126) x7_3.length co82 : Value).ownBlock) (.slice (some ad129) x11_3.length co84) y157) := ⟨by exact HQ93.out⟩
                        have n2_ : Aside0 ((w92.setCell ⟨go74, ((rd x7_3 t124) : Int).toNat, none⟩ (.int .i64 (wrap64 ((rd (rd_L2 y147 (rd x7_3 t123)) (rd x7_3 t124)) - 1)))).heap[gb101]? = some (.cells #[.int .i64 a0_0, .int .i64 a0_1] 40 (0, 0))) := ⟨by refine blk_far ?_ (by have h_ := Kd.R_ne HL149_0.out BK101.out (by decide); intro e_; exact h_ (by rw [e_]; rfl)) _; exact BK101.out⟩
                        have n3_ : Aside0 (Below w.heap.size w (w92.setCell ⟨go74, ((rd x7_3 t124) : Int).toNat, none⟩ (.int .i64 (wrap64 ((rd (rd_L2 y147 (rd x7_3 t123)) (rd x7_3 t124)) - 1))))) := ⟨by repeat ((with_reducible first | exact HB.out | refine below_set ?_ GB74.out))⟩
                        (try clear HO_7); (try clear HO_11); (try clear BK101); (try clear HB)
                        generalize (w92.setCell ⟨go74, ((rd x7_3 t124) : Int).toNat, none⟩ (.int .i64 (wrap64 ((rd (rd_L2 y147 (rd x7_3 t123)) (rd x7_3 t124)) - 1)))) = w95 at n0_ n1_ n2_ n3_ ⊢
                        have HO_7 := n0_; have HO_11 := n1_; have BK101 := n2_; have HB := n3_; clear n0_ n1_ n2_ n3_
                        have n0_ := Aside0.mk (Kd.R_drew HO_7.out)
                        have n1_ := Aside0.mk (Kd.S_drew HO_11.out)
                        have n2_ := Aside0.mk (blk_drew BK101.out); have n3_ := Aside0.mk (below_drew1 HB.out); clear HO_7; clear HO_11; clear BK101; clear HB; have HO_7 := n0_; have HO_11 := n1_; have BK101 := n2_; have HB := n3_; clear n0_ n1_ n2_ n3_
                        have p158 : 0 ≤ (t124 : Int) := of_decide_eq_true (by with_reducible assumption)
                        have q158 : t124 < (x7_3.length : Int) := of_decide_eq_true (by with_reducible assumption)
                        obtain ⟨ad158, e158, hx158_0⟩ := Kd.at_int (Kd.R_reads' HO_7.out).2.2 t124 p158 q158
                        obtain rfl : ad126 = ad158 := (by injection e158)
                        replace p158 := eq_true p158; replace q158 := eq_true q158
                        have p159 : 0 ≤ ((rd x7_3 t124) : Int) := of_decide_eq_true (by with_reducible assumption)
                        have q159 : (rd x7_3 t124) < (y157.length : Int) := (by have h_ : ((rd x7_3 t124) : Int) < ((x11_3.length : Int) : Int) := of_decide_eq_true (by with_reducible assumption); (have e_ := (Kd.S_reads' HO_11.out).1; omega))
                        have ql159 : (((rd x7_3 t124) : Int) < ((x11_3.length : Int) : Int)) = True := eq_true (of_decide_eq_true (by with_reducible assumption))
                        obtain ⟨ad159, A159_0, c159_0, e159, hx159_0, hl159_0, hi159_0⟩ := at_L2 (Kd.S_reads' HO_11.out).2.2 (rd x7_3 t124) p159 q159
                        obtain rfl : ad129 = ad159 := (by injection e159)
                        obtain ⟨ce159, hce159, hMe159, hcc159⟩ := Kd.S_get HO_11.out [] (rd x7_3 t124) p159 (by exact of_decide_eq_true (by with_reducible assumption))
                        obtain ⟨ve159_0, rfl, ge159_0⟩ := hMe159
                        have hv159_0 := hcc159 0 _ rfl
                        rw [Nat.add_zero, show ((Kd.slice 3 (Kd.int .i64))).sz = 1 from rfl, Nat.mul_one] at hv159_0
                        replace hv159_0 := Option.some.inj (hv159_0.symm.trans hx159_0)
                        rw [hv159_0] at ge159_0
                        have HL159_0 := Aside0.mk (show Kd.R (Kd.int .i64) 3 _ _ _ _ (rd_L2 y157 (rd x7_3 t124)) from ge159_0)
                        clear hv159_0 ge159_0
                        have HX159_0 := Aside0.mk hx159_0
                        clear hcc159 hce159
                        have HR159_0 := Aside0.mk hi159_0
                        have HC159_0 := Aside0.mk hl159_0
                        clear hi159_0 hl159_0; replace p159 := eq_true p159; replace q159 := eq_true q159
                        (try (obtain ⟨As_, cs_, es_⟩ := Kd.R_slice HO_7.out; subst es_))
                        have p160 : 0 ≤ (t123 : Int) := of_decide_eq_true (by with_reducible assumption)
                        have q160 : t123 < (x7_3.length : Int) := of_decide_eq_true (by with_reducible assumption)
                        obtain ⟨ad160, e160, hx160_0⟩ := Kd.at_int (Kd.R_reads' HO_7.out).2.2 t123 p160 q160
                        obtain rfl : ad126 = ad160 := (by injection e160)
                        replace p160 := eq_true p160; replace q160 := eq_true q160
                        have p161 : 0 ≤ (t124 : Int) := of_decide_eq_true (by with_reducible assumption)
                        have q161 : t124 < (x7_3.length : Int) := of_decide_eq_true (by with_reducible assumption)
                        obtain ⟨ad161, e161, hx161_0⟩ := Kd.at_int (Kd.R_reads' HO_7.out).2.2 t124 p161 q161
                        obtain rfl : ad126 = ad161 := (by injection e161)
                        replace p161 := eq_true p161; replace q161 := eq_true q161
                        have p162 : 0 ≤ ((rd x7_3 t124) : Int) := of_decide_eq_true (by with_reducible assumption)
                        have q162 : (rd x7_3 t124) < (y157.length : Int) := (by have h_ : ((rd x7_3 t124) : Int) < ((x11_3.length : Int) : Int) := of_decide_eq_true (by with_reducible assumption); (have e_ := (Kd.S_reads' HO_11.out).1; omega))
                        have ql162 : (((rd x7_3 t124) : Int) < ((x11_3.length : Int) : Int)) = True := eq_true (of_decide_eq_true (by with_reducible assumption))
                        obtain ⟨ad162, A162_0, c162_0, e162, hx162_0, hl162_0, hi162_0⟩ := at_L2 (Kd.S_reads' HO_11.out).2.2 (rd x7_3 t124) p162 q162
                        obtain rfl : ad129 = ad162 := (by injection e162)
                        obtain ⟨ce162, hce162, hMe162, hcc162⟩ := Kd.S_get HO_11.out [] (rd x7_3 t124) p162 (by exact of_decide_eq_true (by with_reducible assumption))
                        obtain ⟨ve162_0, rfl, ge162_0⟩ := hMe162
                        have hv162_0 := hcc162 0 _ rfl
                        rw [Nat.add_zero, show ((Kd.slice 3 (Kd.int .i64))).sz = 1 from rfl, Nat.mul_one] at hv162_0
                        replace hv162_0 := Option.some.inj (hv162_0.symm.trans hx162_0)
                        rw [hv162_0] at ge162_0
                        have HL162_0 := Aside0.mk (show Kd.R (Kd.int .i64) 3 _ _ _ _ (rd_L2 y157 (rd x7_3 t124)) from ge162_0)
                        clear hv162_0 ge162_0
                        have HX162_0 := Aside0.mk hx162_0
                        clear hcc162 hce162
                        have HR162_0 := Aside0.mk hi162_0
                        have HC162_0 := Aside0.mk hl162_0
                        clear hi162_0 hl162_0; replace p162 := eq_true p162; replace q162 := eq_true q162
                        have ea_ := Option.some.inj (hx159_0.symm.trans hx162_0)
                        injection ea_ with ea_ en_ ec_
                        subst ea_; subst ec_; clear en_
                        (try (obtain ⟨As_, cs_, es_⟩ := Kd.R_slice HO_7.out; subst es_))
                        have p163 : 0 ≤ (t123 : Int) := of_decide_eq_true (by with_reducible assumption)
                        have q163 : t123 < (x7_3.length : Int) := of_decide_eq_true (by with_reducible assumption)
                        obtain ⟨ad163, e163, hx163_0⟩ := Kd.at_int (Kd.R_reads' HO_7.out).2.2 t123 p163 q163
                        obtain rfl : ad126 = ad163 := (by injection e163)
                        replace p163 := eq_true p163; replace q163 := eq_true q163
                        have p164 : 0 ≤ ((rd x7_3 t123) : Int) := of_decide_eq_true (by with_reducible assumption)
                        have q164 : (rd x7_3 t123) < ((rd_L2 y157 (rd x7_3 t124)).length : Int) := of_decide_eq_true (by with_reducible assumption)
                        obtain ⟨ad164, e164, hx164_0⟩ := Kd.at_int HR162_0.out (rd x7_3 t123) p164 q164
                        cases e164
                        replace p164 := eq_true p164; replace q164 := eq_true q164
                        have p76 : 0 ≤ ((rd x7_3 t123) : Int) := of_decide_eq_true (by with_reducible assumption)
                        have q76 : ((rd x7_3 t123) : Int) < (((rd_L2 y157 (rd x7_3 t124)).length : Int) : Int) := of_decide_eq_true (by with_reducible assumption)
                        obtain ⟨go76, co76, eo76, gb76, gl76, cl76, HG76⟩ := Kd.R_form HL159_0.out (by omega)
                        (cases eo76)
                        have GB76 := Aside0.mk gb76
                        have GG76 := Aside0.mk HG76
                        clear gb76 gl76 HG76
                        (simp only [add_plain] at hx164_0)
                        obtain ⟨hx76_0, hf76_0⟩ := Kd.R_celln 0 HL159_0.out ((rd x7_3 t123) : Int) p76 q76
                        replace p76 := eq_true p76; replace q76 := eq_true q76
                        have hq97 : ((rd x7_3 t124) : Int) < (x11_3.length : Int) := (by have h_ : ((rd x7_3 t124) : Int) < ((x11_3.length : Int) : Int) := of_decide_eq_true (by with_reducible assumption); exact h_)
                        obtain ⟨oki97, ce97, hcl97, hM97, hcc97, hok97, hbk97⟩ := Kd.S_borrow HO_11.out [] ((rd x7_3 t124) : Int) (of_decide_eq_true (by with_reducible assumption)) hq97
                        obtain ⟨ve97_0, rfl, ge97_0⟩ := hM97
                        have hv97 := hcc97 0 _ rfl
                        rw [Nat.add_zero, show ((Kd.slice 3 (Kd.int .i64))).sz = 1 from rfl, Nat.mul_one] at hv97
                        replace hv97 := Option.some.inj (hv97.symm.trans HX159_0.out)
                        subst hv97; clear hcc97 hcl97
                        replace ge97_0 := (show Kd.R (Kd.int .i64) 3 _ _ _ _ (rd_L2 y157 (rd x7_3 t124)) from ge97_0)
                        have HP97 := Kd.R_putg ge97_0 ((rd x7_3 t123) : Int) (wrap64 ((rd (rd_L2 y157 (rd x7_3 t124)) (rd x7_3 t123)) - 1))
                        rw [← Ny165.out] at HP97
                        have HS97 := hbk97 HP97.2 (fun k_ e_ => by injection e_ with e_; subst e_; exact ge97_0.1 _ rfl) (x' := y165) (Kd.M_row HP97.1)
                        rw [← Ny167.out] at HS97
                        have HQ97 := Aside0.mk HS97
                        clear HP97 HS97 hbk97 hok97
                        refine start_ (n := 27) (S := fun w' => w'.cell? (ad126.add (t124).toNat) = some (.int .i64 (rd x7_3 t124)) ∧ w'.cell? (ad129.add ((rd x7_3 t124)).toNat) = some (.slice (some ⟨go76, 0, none⟩) (rd_L2 y157 (rd x7_3 t124)).length c159_0) ∧ w'.cell? (ad126.add (t123).toNat) = some (.int .i64 (rd x7_3 t123)) ∧ w'.cell? (ad126.add (t124).toNat) = some (.int .i64 (rd x7_3 t124)) ∧ w'.cell? (ad129.add ((rd x7_3 t124)).toNat) = some (.slice (some ⟨go76, 0, none⟩) (rd_L2 y157 (rd x7_3 t124)).length c159_0) ∧ w'.cell? (ad126.add (t123).toNat) = some (.int .i64 (rd x7_3 t123)) ∧ w'.cell? ⟨go76, ((rd x7_3 t123)).toNat, none⟩ = some (.int .i64 (rd (rd_L2 y157 (rd x7_3 t124)) (rd x7_3 t123)))) (ds := [26]) #[false, false, false, false, false, false, false, false, false, false, false, false, false, false, false, false, false, false, false, false, false, false, false, false, false, false, false] (by kernel_rfl) rfl rfl ⟨hx158_0, hx159_0, hx160_0, hx161_0, hx162_0, hx163_0, hx164_0⟩ (fun hHeld => ?_); refine with_tabW spec_l12Trees.tab28 spec_l12Trees.bits28 (fun HT_ HW_ => ?_)
                        generalize w95.drew = w96 at HO_7 HO_11 BK101 HB GG76 HL159_0 HL162_0 HQ93 HQ97 HR159_0 HR162_0 HX159_0 HX162_0 hf76_0 hx158_0 hx159_0 hx160_0 hx161_0 hx162_0 hx163_0 hx164_0 hx76_0 hHeld ⊢
                        refine pu_ (v := ?_) (a' := ?_) 0 (some 177) rfl rfl HT_ (by kernel_rfl) (.inl ⟨by rfl, ?_⟩) ?_ ?_; rotate_left 2; (intro w'; go_simp; with_reducible rfl); (simp only [P6_]; rfl)
                        refine pu_ (v := ?_) (a' := ?_) 1 (some 178) rfl rfl HT_ (by kernel_rfl) (.inl ⟨by rfl, ?_⟩) ?_ ?_; rotate_left 2; (intro w'; go_simp; with_reducible rfl); (simp only [P6_]; rfl)
                        refine pu_ (v := ?_) (a' := ?_) 2 (some 179) rfl rfl HT_ (by kernel_rfl) (.inl ⟨by rfl, ?_⟩) ?_ ?_; rotate_left 2; (intro w'; go_simp; with_reducible rfl); (simp only [P6_]; rfl)
                        refine pu_ (v := ?_) (a' := ?_) 3 (some 180) rfl rfl HT_ (by kernel_rfl) (.inl ⟨by rfl, ?_⟩) ?_ ?_; rotate_left 2; (intro w'; go_simp; with_reducible rfl); (simp only [P6_]; rfl)
                        refine pu_ (v := ?_) (a' := ?_) 7 (some 184) rfl rfl HT_ (by kernel_rfl) (.inl ⟨by rfl, ?_⟩) ?_ ?_; rotate_left 2; (intro w'; go_simp; with_reducible rfl); (simp only [P6_]; rfl)
                        refine pu_ (v := ?_) (a' := ?_) 8 (some 185) rfl rfl HT_ (by kernel_rfl) (.inl ⟨by rfl, ?_⟩) ?_ ?_; rotate_left 2; (intro w'; go_simp; with_reducible rfl); (simp only [P6_]; rfl)
                        refine pu_ (v := ?_) (a' := ?_) 9 (some 186) rfl rfl HT_ (by kernel_rfl) (.inl ⟨by rfl, ?_⟩) ?_ ?_; rotate_left 2; (intro w'; go_simp; with_reducible rfl); (simp only [P6_]; rfl)
                        refine pu_ (v := ?_) (a' := ?_) 11 (some 188) rfl rfl HT_ (by kernel_rfl) (.inl ⟨by rfl, ?_⟩) ?_ ?_; rotate_left 2; (intro w'; go_simp; with_reducible rfl); (simp only [P6_]; rfl)
                        refine pu_ (v := ?_) (a' := ?_) 12 (some 189) rfl rfl HT_ (by kernel_rfl) (.inl ⟨by rfl, ?_⟩) ?_ ?_; rotate_left 2; (intro w'; go_simp; with_reducible rfl); (simp only [P6_]; rfl)
                        refine pu_ (v := ?_) (a' := ?_) 13 (some 190) rfl rfl HT_ (by kernel_rfl) (.inl ⟨by rfl, ?_⟩) ?_ ?_; rotate_left 2; (intro w'; go_simp; with_reducible rfl); (simp only [P6_]; rfl)
                        refine pu_ (v := ?_) (a' := ?_) 14 (some 191) rfl rfl HT_ (by kernel_rfl) (.inl ⟨by rfl, ?_⟩) ?_ ?_; rotate_left 2; (intro w'; go_simp; with_reducible rfl); (simp only [P6_]; rfl)
                        refine pu_ (v := ?_) (a' := ?_) 18 (some 195) rfl rfl HT_ (by kernel_rfl) (.inl ⟨by rfl, ?_⟩) ?_ ?_; rotate_left 2; (intro w'; go_simp; with_reducible rfl); (simp only [P6_]; rfl)
                        refine pu_ (v := ?_) (a' := ?_) 19 (some 196) rfl rfl HT_ (by kernel_rfl) (.inl ⟨by rfl, ?_⟩) ?_ ?_; rotate_left 2; (intro w'; go_simp; with_reducible rfl); (simp only [P6_]; rfl)
                        refine pu_ (v := ?_) (a' := ?_) 20 (some 197) rfl rfl HT_ (by kernel_rfl) (.inl ⟨by rfl, ?_⟩) ?_ ?_; rotate_left 2; (intro w'; go_simp; with_reducible rfl); (simp only [P6_]; rfl)
                        refine ta_ (v := ?_) (a' := ?_) 4 (some 181) rfl rfl HT_ HW_ (by kernel_rfl) (.inl ⟨by rfl, ?_⟩) hHeld ?_ ?_; rotate_left 2; (rintro w' ⟨s0, s1, s2, s3, s4, s5, s6⟩; go_simp; with_reducible rfl); (simp only [P6_]; rfl)
                        refine pu_ (v := ?_) (a' := ?_) 5 (some 182) rfl rfl HT_ (by kernel_rfl) (.inl ⟨by rfl, ?_⟩) ?_ ?_; rotate_left 2; (intro w'; go_simp; with_reducible rfl); (simp only [P6_]; rfl)
                        refine ta_ (v := ?_) (a' := ?_) 6 (some 183) rfl rfl HT_ HW_ (by kernel_rfl) (.inl ⟨by rfl, ?_⟩) hHeld ?_ ?_; rotate_left 2; (rintro w' ⟨s0, s1, s2, s3, s4, s5, s6⟩; go_simp; with_reducible rfl); (simp only [P6_]; rfl)
                        refine ta_ (v := ?_) (a' := ?_) 10 (some 187) rfl rfl HT_ HW_ (by kernel_rfl) (.inl ⟨by rfl, ?_⟩) hHeld ?_ ?_; rotate_left 2; (rintro w' ⟨s0, s1, s2, s3, s4, s5, s6⟩; go_simp; with_reducible rfl); (simp only [P6_]; rfl)
                        refine ta_ (v := ?_) (a' := ?_) 15 (some 192) rfl rfl HT_ HW_ (by kernel_rfl) (.inl ⟨by rfl, ?_⟩) hHeld ?_ ?_; rotate_left 2; (rintro w' ⟨s0, s1, s2, s3, s4, s5, s6⟩; go_simp; with_reducible rfl); (simp only [P6_]; rfl)
                        refine pu_ (v := ?_) (a' := ?_) 16 (some 193) rfl rfl HT_ (by kernel_rfl) (.inl ⟨by rfl, ?_⟩) ?_ ?_; rotate_left 2; (intro w'; go_simp; with_reducible rfl); (simp only [P6_]; rfl)
                        refine ta_ (v := ?_) (a' := ?_) 17 (some 194) rfl rfl HT_ HW_ (by kernel_rfl) (.inl ⟨by rfl, ?_⟩) hHeld ?_ ?_; rotate_left 2; (rintro w' ⟨s0, s1, s2, s3, s4, s5, s6⟩; go_simp; with_reducible rfl); (simp only [P6_]; rfl)
                        refine ta_ (v := ?_) (a' := ?_) 21 (some 198) rfl rfl HT_ HW_ (by kernel_rfl) (.inl ⟨by rfl, ?_⟩) hHeld ?_ ?_; rotate_left 2; (rintro w' ⟨s0, s1, s2, s3, s4, s5, s6⟩; go_simp; with_reducible rfl); (simp only [P6_]; rfl)
                        refine pu_ (v := ?_) (a' := ?_) 22 (some 199) rfl rfl HT_ (by kernel_rfl) (.inl ⟨by rfl, ?_⟩) ?_ ?_; rotate_left 2; (intro w'; go_simp; with_reducible rfl); (simp only [P6_]; rfl)
                        refine ta_ (v := ?_) (a' := ?_) 23 (some 200) rfl rfl HT_ HW_ (by kernel_rfl) (.inl ⟨by rfl, ?_⟩) hHeld ?_ ?_; rotate_left 2; (rintro w' ⟨s0, s1, s2, s3, s4, s5, s6⟩; go_simp; with_reducible rfl); (simp only [P6_]; rfl)
                        refine pu_ (v := ?_) (a' := ?_) 24 (some 201) rfl rfl HT_ (by kernel_rfl) (.inl ⟨by rfl, ?_⟩) ?_ ?_; rotate_left 2; (intro w'; go_simp; with_reducible rfl); (simp only [P6_]; rfl)
                        refine pu_ (v := ?_) (a' := ?_) 25 (some 202) rfl rfl HT_ (by kernel_rfl) (.inl ⟨by rfl, ?_⟩) ?_ ?_; rotate_left 2; (intro w'; go_simp; with_reducible rfl); (simp only [P6_]; rfl)
                        refine last_ (i := 26) (N := none) #[true, true, true, true, true, true, true, true, true, true, true, true, true, true, true, true, true, true, true, true, true, true, true, true, true, true, true] rfl rfl (one_of HT_.out (by kernel_rfl)) (by decide) (fun K hK => ?_)
                        refine skip_ (w1 := ?_) (by rfl) rfl ?_ ?_
                        rotate_left
                        · go_simp
                          rfl
                        refine hK.out _ _ ?_
                        clear hK K
                        refine done_ (done_of HT_.out (by kernel_rfl)) ?_
                        try go_wp2
                        go_roundg k3
                        case measure => have := HK1.out; have := HK2.out; have := HK3.out; omega
                        case rel => exact ⟨(x7_3), (y167), (wrap64 (x13_3 + 1)), (by rfl), H', ⟨by have := HK1.out; have := HK2.out; have := HK3.out; omega⟩, ⟨by exact Kd.R_mono (Kd.R_far (p := ⟨go76, ((rd x7_3 t123) : Int).toNat, none⟩) (Kd.R_far1 HO_7.out rfl ((HL159_0.out.1 _ rfl).1)) (fun _ hk => hk.2) (.int .i64 (wrap64 ((rd (rd_L2 y157 (rd x7_3 t124)) (rd x7_3 t123)) - 1)))) (fun _ hk => trivial)⟩, ⟨by exact HQ97.out⟩, ⟨by refine blk_far ?_ (by have h_ := Kd.R_ne HL159_0.out BK101.out (by decide); intro e_; exact h_ (by rw [e_]; rfl)) _; exact BK101.out⟩, ⟨by repeat ((with_reducible first | exact HB.out | refine below_set ?_ GB76.out))⟩⟩
                  · rw [if_neg c45] at H
                    have c45b0 : decide (x13_3 < t121) = false := decide_eq_false c45
                    clear c45
                    obtain ⟨t122, A990, H⟩ := Option.bind_eq_some_iff.mp H
                    (try dsimp only at H); have A99 := Aside0.mk A990; clear A990
                    obtain rfl := Option.some.inj H
                    obtain ⟨hcz100_0, hcz100_1⟩ := kk2_ BK101.1
                    have hfz100_0 := blk_frozen BK101.out 0
                    have hfz100_1 := blk_frozen BK101.out 1
                    have H : (spec_l12Tail.l0 k3 x8_1 x11_3 (([] : List (List Int))) 1) = some t122 := A99.out
                    obtain ⟨y101, hy101⟩ : ∃ y_ : List (List Int), y_ = (([] : List (List Int))) := ⟨_, rfl⟩
                    replace H : (spec_l12Tail.l0 k3 x8_1 x11_3 y101 1) = some t122 := by rw [hy101]; exact H
                    have Ny101 := Aside0.mk hy101
                    clear hy101
                    have H' := Aside0.mk H
                    clear H
                    go_wp2_with (first | ((with_reducible refine gate_callee (f := 32) rfl ?_); refine goesL_ (some 75) rfl rfl Try.func32 (by kernel_rfl) rfl #[.agg #[.int .i64 a0_0, .int .i64 a0_1]] rfl (by (try simp only [List.map_toArray, List.map_cons, List.map_nil]); rfl) ?_; (with_reducible refine (spec_CountGaps.calls a0_0 a0_1 t121 _ A44.out).mono ?_); rintro e w101 ⟨rfl, hb⟩; refine ⟨_, rfl, ?_⟩; have n0_ := Aside0.mk (Kd.R_below HO_7.out hb); have n1_ := Aside0.mk (Kd.S_below HO_11.out hb); have n2_ := Aside0.mk (blk_below (g := gb101) (o := .cells #[.int .i64 a0_0, .int .i64 a0_1] 40 (0, 0)) BK101.out hb); have n3_ := Aside0.mk (below_step HB.out hb); clear HO_7; clear HO_11; clear BK101; clear HB; have HO_7 := n0_; have HO_11 := n1_; have BK101 := n2_; have HB := n3_; clear n0_ n1_ n2_ n3_; (try clear hb); (try clear hb2); (try clear hk); (try clear hi); obtain ⟨Ao102, co102, eo102⟩ := Kd.S_slice HO_11.out; subst eo102) | ((with_reducible refine gate_dst (N := 203) rfl ?_); have HO0 := Aside0.mk (show Kd.V (Kd.slice 3 (Kd.int .i64)) 29 _ w.heap.size (fun k_ => (True ∨ w.heap.size ≤ k_)) (.slice Ao102 x11_3.length co102) x11_3 from Kd.V_mono (Kd.S_V HO_11.out) (fun k_ hk => .inl trivial)); refine Kd.N_lit (Kd.slice 3 (Kd.int .i64)) _ 29 ?hg (N' := 203) ?hd (xs := ([] : List (List Int))) (inner := []) (ok := (fun k_ => (True ∨ w.heap.size ≤ k_))) (okp := (fun k_ => (True ∨ w.heap.size ≤ k_))) ?hr ?hp (fun _ hk => hk) (.inr (below_size HB.out)) (Below.refl _ _) (Nat.le_refl _) (by simp) ?_; (case hd => rfl); (case hg => rfl); (case hr => (go_simp; done)); (case hp => exact (Reps.none _ _)); intro v102 w3 ho4 hb hg_ hnew_; clear hg_ hnew_; (rw [← Ny101.out] at ho4); have n0_ := Aside0.mk (Kd.V_elder' HO0.out (Kd.N_base ho4) hb); have n1_ := Aside0.mk (Kd.N_lower ho4 (below_size HB.out)); have n2_ := Aside0.mk (below_step HB.out hb); clear HO0; clear HB; have HO0 := n0_; have HO103 := n1_; have HB := n2_; clear n0_ n1_ n2_; clear hb ho4))
                    go_loopg [16, 17] k3 (fun kq v16 v17 w' => ∃ (x16_1 : List (List Int)) (x17_1 : Int), v17 = .int .i64 x17_1 ∧ Aside0 (spec_l12Tail.l0 kq x8_1 x11_3 x16_1 x17_1 = some t122) ∧ Aside0 (kq ≤ k3) ∧ Aside0 (Kd.V (Kd.slice 3 (Kd.int .i64)) 29 w' w.heap.size (fun k_ => (True ∨ w.heap.size ≤ k_) ∧ some k_ ≠ (v16 : Value).ownBlock) (.slice Ao102 x11_3.length co102) x11_3) ∧ Aside0 (Kd.N (Kd.slice 3 (Kd.int .i64)) 29 w' w.heap.size (fun k_ => (True ∨ w.heap.size ≤ k_)) v16 x16_1) ∧ Aside0 (Below w.heap.size w w'))
                    case atStart => exact ⟨(y101), (1), (by rfl), H', ⟨Nat.le_refl _⟩, ⟨by exact HO0.out⟩, ⟨by exact HO103.out⟩, ⟨by repeat ((with_reducible exact HB.out))⟩⟩
                    case round =>
                      clear H'; try clear c2; try clear p2
                      obtain ⟨x16_1, x17_1, rfl, HA, HK1, HO_11, HO_16, HB⟩ := hrel
                      cases gk with
                      | zero => exact absurd HA.out (by simp [spec_l12Tail.l0])
                      | succ k1 =>
                        have H := HA.out
                        clear HA
                        simp only [spec_l12Tail.l0] at H
                        by_cases c5 : x17_1 < x8_1
                        · rw [if_pos c5] at H
                          have c5b0 : decide (x17_1 < x8_1) = true := decide_eq_true c5
                          clear c5
                          replace H := iN_ H; obtain ⟨c6, H⟩ := H
                          have c6b0 : decide (0 ≤ x17_1) = true := decide_eq_true c6
                          clear c6
                          replace H := iN_ H; obtain ⟨c7, H⟩ := H
                          have c7b0 : decide (x17_1 < (x11_3.length : Int)) = true := decide_eq_true c7
                          clear c7
                          replace H := iN_ H; obtain ⟨c8, H⟩ := H
                          have c8b0 := eq_true c8
                          have c8b1 : decide (1 ≤ ((rd_L2 x11_3 x17_1).length : Int)) = true := decide_eq_true c8
                          clear c8
                          obtain ⟨y105, hy105⟩ : ∃ y_ : List Int, y_ = ((rd_L2 x11_3 x17_1).drop 1) := ⟨_, rfl⟩
                          replace H : (if x16_1.length < 5864062014805 then (spec_l12Tail.l0 k1 x8_1 x11_3 (x16_1 ++ [y105]) (wrap64 (x17_1 + 1))) else (none)) = some t122 := by (rw [hy105]; with_reducible exact H)
                          have Ny105 := Aside0.mk hy105
                          clear hy105
                          replace H := iN_ H; obtain ⟨c9, H⟩ := H
                          have LMc9 := Aside0.mk c9
                          clear c9
                          obtain ⟨y110, hy110⟩ : ∃ y_ : List (List Int), y_ = (x16_1 ++ [y105]) := ⟨_, rfl⟩
                          replace H : (spec_l12Tail.l0 k1 x8_1 x11_3 y110 (wrap64 (x17_1 + 1))) = some t122 := by (rw [hy110]; with_reducible exact H)
                          have Ny110 := Aside0.mk hy110
                          clear hy110
                          have H' := Aside0.mk H
                          clear H
                          have p104 : 0 ≤ (x17_1 : Int) := of_decide_eq_true (by with_reducible assumption)
                          have q104 : x17_1 < (x11_3.length : Int) := of_decide_eq_true (by with_reducible assumption)
                          obtain ⟨ad104, A104_0, c104_0, e104, hx104_0, hl104_0, hi104_0⟩ := at_L2 (Kd.V_reads' HO_11.out).2.2 x17_1 p104 q104
                          cases e104
                          obtain ⟨ce104, hce104, hMe104, hcc104⟩ := Kd.V_get HO_11.out [] x17_1 p104 (by exact q104)
                          obtain ⟨ua104_0, uc104_0, rfl, ul104_0, ge104_0⟩ := Kd.FK_slice_open hMe104
                          have hv104_0 := hcc104 0 _ rfl
                          rw [Nat.add_zero, show ((Kd.slice 3 (Kd.int .i64))).sz = 1 from rfl, Nat.mul_one] at hv104_0
                          replace hv104_0 := Option.some.inj (hv104_0.symm.trans hx104_0)
                          injection hv104_0 with hva_ hvn_ hvc_
                          rw [hva_] at ge104_0
                          rw [hvc_] at ul104_0
                          have HL104_0 := Aside0.mk (show Kd.V (Kd.int .i64) 3 _ w.heap.size _ _ (rd_L2 x11_3 x17_1) from Kd.V_mk ul104_0 ge104_0)
                          clear hva_ hvn_ hvc_ ge104_0 ul104_0; clear hcc104 hce104
                          have HR104_0 := Aside0.mk hi104_0
                          have HC104_0 := Aside0.mk hl104_0
                          clear hi104_0 hl104_0; replace p104 := eq_true p104; replace q104 := eq_true q104
                          have q10 : (1 : Int) ≤ (((rd_L2 x11_3 x17_1).length : Int) : Int) := of_decide_eq_true (by with_reducible assumption)
                          obtain ⟨i010, hi010, _, hsz10, _⟩ := info_parts info3
                          have hroom10 : (rd_L2 x11_3 x17_1).length ≤ c104_0 := HC104_0.out
                          have hC10 : Kd.F (Kd.int .i64) _ _ A104_0 (rd_L2 x11_3 x17_1).length (rd_L2 x11_3 x17_1) := (Kd.V_at (base := w.heap.size) HL104_0.out).2.2
                          have hcut10 := cut_from (P := Try.prog) 29 3 .i64 Try.underlying29 hi010 1 hsz10 A104_0 (rd_L2 x11_3 x17_1).length c104_0 1 (by omega) q10
                          have hr10 := Kd.F_cut (m := (1 : Int).toNat) (c := c104_0) hC10 (by omega) hroom10
                          obtain ⟨A10, hA10⟩ : ∃ A1, A1 = (if c104_0 = (1 : Int).toNat then A104_0 else (A104_0 : Option Addr).map (·.add ((1 : Int).toNat * 1))) := ⟨_, rfl⟩
                          obtain ⟨c10, hc10⟩ : ∃ c1, c1 = c104_0 - (1 : Int).toNat := ⟨_, rfl⟩
                          have hy10 : y105.length = (rd_L2 x11_3 x17_1).length - (1 : Int).toNat := (by rw [Ny105.out, List.length_drop] <;> omega)
                          rw [show (rd_L2 x11_3 x17_1).drop (1 : Int).toNat = y105 from Ny105.out.symm] at hr10
                          replace hr10 : Kd.F (Kd.int .i64) _ _ A10 y105.length y105 := (by rw [hA10]; exact hr10)
                          rw [← hy10, ← hA10, ← hc10] at hcut10
                          have HO109 := Aside0.mk (show Kd.V (Kd.int .i64) 3 _ w.heap.size _ (.slice A10 y105.length c10) y105 from Kd.V_mk (by rw [hy10, hc10]; exact Nat.sub_le_sub_right hroom10 _) hr10)
                          have HC109 := Aside0.mk (show y105.length ≤ c10 from by rw [hy10, hc10]; exact Nat.sub_le_sub_right hroom10 _)
                          clear hr10 hC10 hroom10 hi010 hsz10 hc10
                          have KY10 := Aside0.mk hy10
                          have KA10 := Aside0.mk hA10
                          clear hy10 hA10; replace q10 := eq_true q10
                          go_wp2_with (((with_reducible refine gate_builtin (b := .append) (xs := #[.tmp 209, .tmp 215]) rfl ?_); at_builtin; refine Kd.N_append (Kd.slice 3 (Kd.int .i64)) (w0 := w) w.heap.size rfl (.tmp 209) (.tmp 215) 24 29 (.slice none 0 0) 24 rfl Try.underlying24 info29 rfl (by decide) (by omega) u16 x16_1 y105 [.slice A10 y105.length c10] (fun k_ => (True ∨ w.heap.size ≤ k_)) (fun k_ => ((fun k_ => (True ∨ w.heap.size ≤ k_))) k_ ∧ some k_ ≠ (u16 : Value).ownBlock) rfl rfl ?aP (fun _ hk => hk) ?aF ?aO ?aB ?aS ?aL ?_; (case aP => exact (Kd.FK_slice_mk (Kd.V_reads' (Kd.V_mono (ok' := (fun k_ => ((fun k_ => (True ∨ w.heap.size ≤ k_))) k_ ∧ some k_ ≠ (u16 : Value).ownBlock)) (HO109.out) (fun k_ hk => ⟨hk.1, hk.2⟩))).2.1 (Kd.V_F (Kd.V_mono (ok' := (fun k_ => ((fun k_ => (True ∨ w.heap.size ≤ k_))) k_ ∧ some k_ ≠ (u16 : Value).ownBlock)) (HO109.out) (fun k_ hk => ⟨hk.1, hk.2⟩))))); (case aB => exact HB.out); (case aF => exact (fun k_ hk => (.inr (Nat.le_trans (below_size HB.out) hk)))); (case aO => exact HO_16.out); (case aS => exact (below_size HB.out)); (case aL => have := LMc9.out; omega); intro v111 w11 ho hb hg hat; rw [← Ny110.out] at ho; have n0_ := Aside0.mk (Kd.V_afterv (ok := (fun k_ => (True ∨ w.heap.size ≤ k_))) HO_11.out hg hat); have n1_ := Aside0.mk (Kd.V_afterv (ok := (fun k_ => (True ∨ w.heap.size ≤ k_))) HL104_0.out hg hat); have n2_ := Aside0.mk (Kd.V_afterv (ok := (fun k_ => (True ∨ w.heap.size ≤ k_))) HO109.out hg hat); have n3_ := Aside0.mk (hb); have n4_ := Aside0.mk (ho); clear HO_11; clear HL104_0; clear HO109; clear HB; clear HO_16; have HO_11 := n0_; have HL104_0 := n1_; have HO109 := n2_; have HB := n3_; have HO112 := n4_; clear n0_ n1_ n2_ n3_ n4_; clear ho hb hg hat))
                          go_roundg k1
                          case measure => have := HK1.out; omega
                          case rel => exact ⟨(y110), (wrap64 (x17_1 + 1)), (by rfl), H', ⟨by have := HK1.out; omega⟩, ⟨by exact HO_11.out⟩, ⟨by exact HO112.out⟩, ⟨by repeat ((with_reducible exact HB.out))⟩⟩
                        · rw [if_neg c5] at H
                          have c5b0 : decide (x17_1 < x8_1) = false := decide_eq_false c5
                          clear c5
                          obtain ⟨t113, A120, H⟩ := Option.bind_eq_some_iff.mp H
                          (try dsimp only at H); have A12 := Aside0.mk A120; clear A120
                          obtain rfl := Option.some.inj H
                          obtain ⟨Ao13, co13, eo13⟩ := Kd.N_slice HO_16.out
                          subst eo13
                          go_wp2_with (((with_reducible refine gate_callee (f := 86) rfl ?_); refine goesL_ (some 218) rfl rfl Try.func86 (by kernel_rfl) rfl #[.slice Ao13 x16_1.length co13] rfl (by (try simp only [List.map_toArray, List.map_cons, List.map_nil]); rfl) ?_; (with_reducible refine (spec_l11Trees.calls k1 _ _ x16_1 t113 _ ?side1 ?side2 A12.out).mono ?_); (case side1 => repeat (exact (Kd.N_reads' HO_16.out).2.2)); (case side2 => exact (Kd.N_reads' HO_16.out).2.1); rintro e w14 ⟨rfl, hb⟩; refine ⟨_, rfl, ?_⟩; have n0_ := Aside0.mk (Kd.V_below HO_11.out hb); have n1_ := Aside0.mk (Kd.N_below HO_16.out hb); have n2_ := Aside0.mk (below_step HB.out hb); clear HO_11; clear HO_16; clear HB; have HO_11 := n0_; have HO_16 := n1_; have HB := n2_; clear n0_ n1_ n2_; (try clear hb); (try clear hb2); (try clear hk); (try clear hi)))
                          go_ret
                          exact ⟨by rfl, by repeat ((with_reducible exact HB.out))⟩

end Go.Proofs.Ytoohcdfokejkdaa.P
