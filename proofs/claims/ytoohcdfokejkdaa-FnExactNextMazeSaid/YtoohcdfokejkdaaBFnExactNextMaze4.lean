/- The statement FnExactNextMaze of the seat, out of its plain form (FnExactNextMaze_pure) and the walk of its Go function. Part 4 of 6: each Go function's walk, then the plain lemmas, then the row. No condition: it holds for every input. -/
import Derived.Test.YtoohcdfokejkdaaBFnExactNextMaze3
namespace Go.Proofs.Ytoohcdfokejkdaa.P
open Go.RowKit Go.Proofs.YtoohcdfokejkdaaW.PrintWords Go.Proofs.YtoohcdfokejkdaaW.PrintLast Go.Proofs.YtoohcdfokejkdaaW.PrintMore
attribute [local go_sem] max2_int min2_int max_two min_two max_three min_three max_four min_four   -- for this text's walks alone
set_option linter.unusedVariables false
set_option linter.unusedSimpArgs false

mutual
def spec_l11Trees.l0 : Nat → List (List Int) → Int → List (List Int) → Int → Option (Int)
 | 0, _, _, _, _ => none
 | k + 1, x0, x3, x4, x5 => if x5 < x3 then ((some (([] : List Int) : List Int)).bind fun y104 => (if 0 ≤ x5 then (if x5 < (x0.length : Int) then (if y104.length + (rd_L2 x0 x5).length < 17592186044416 then (if x4.length < 5864062014805 then (spec_l11Trees.l0 k x0 x3 (x4 ++ [(y104 ++ (rd_L2 x0 x5))]) (wrap64 (x5 + 1))) else (none)) else (none)) else (none)) else (none))) else (spec_l11Trees.l1 k x3 x4 1 0)
def spec_l11Trees.l1 : Nat → Int → List (List Int) → Int → Int → Option (Int)
 | 0, _, _, _, _ => none
 | k + 1, x3, x4, x6, x7 => if x7 < (wrap64 (x3 - 1)) then (if 0 ≤ x7 then (if x7 < (x4.length : Int) then (if x7 < ((rd_L2 x4 x7).length : Int) then (if (rd (rd_L2 x4 x7) x7) = 0 then (some 0) else (spec_l11Trees.l2 k x3 x4 x6 x7 (wrap64 (x7 + 1)))) else (none)) else (none)) else (none)) else (if x3 = 0 then (some 1) else (if 0 ≤ (wrap64 (x3 - 1)) then (if (wrap64 (x3 - 1)) < (x4.length : Int) then (if (wrap64 (x3 - 1)) < ((rd_L2 x4 (wrap64 (x3 - 1))).length : Int) then (some (rd (rd_L2 x4 (wrap64 (x3 - 1))) (wrap64 (x3 - 1)))) else (none)) else (none)) else (none)))
def spec_l11Trees.l2 : Nat → Int → List (List Int) → Int → Int → Int → Option (Int)
 | 0, _, _, _, _, _ => none
 | k + 1, x3, x4, x6, x7, x8 => if x8 < x3 then (spec_l11Trees.l3 k x3 x4 x6 x7 x8 (wrap64 (x7 + 1))) else (if 0 ≤ x7 then (if x7 < (x4.length : Int) then (if x7 < ((rd_L2 x4 x7).length : Int) then (spec_l11Trees.l1 k x3 x4 (rd (rd_L2 x4 x7) x7) (wrap64 (x7 + 1))) else (none)) else (none)) else (none))
def spec_l11Trees.l3 : Nat → Int → List (List Int) → Int → Int → Int → Int → Option (Int)
 | 0, _, _, _, _, _, _ => none
 | k + 1, x3, x4, x6, x7, x8, x9 => if x9 < x3 then (if 0 ≤ x8 then (if x8 < (x4.length : Int) then (if 0 ≤ x9 then (if x9 < ((rd_L2 x4 x8).length : Int) then (if 0 ≤ x7 then (if x7 < (x4.length : Int) then (if x7 < ((rd_L2 x4 x7).length : Int) then (if x7 < ((rd_L2 x4 x8).length : Int) then (if x9 < ((rd_L2 x4 x7).length : Int) then (if x6 = 0 then (none) else (spec_l11Trees.l3 k x3 (x4.set (x8 : Int).toNat ((rd_L2 x4 x8).set (x9 : Int).toNat (wrap64 (Int.tdiv (wrap64 ((wrap64 ((rd (rd_L2 x4 x8) x9) * (rd (rd_L2 x4 x7) x7))) - (wrap64 ((rd (rd_L2 x4 x8) x7) * (rd (rd_L2 x4 x7) x9))))) x6)))) x6 x7 x8 (wrap64 (x9 + 1)))) else (none)) else (none)) else (none)) else (none)) else (none)) else (none)) else (none)) else (none)) else (none)) else (spec_l11Trees.l2 k x3 x4 x6 x7 (wrap64 (x8 + 1)))
end
def spec_l11Trees.f (k : Nat) (l0 : List (List Int)) : Option (Int) := spec_l11Trees.l0 k l0 (l0.length : Int) (([] : List (List Int))) 0
def spec_l11Trees.T19 : Bool × List (List Nat × List Nat) := (true, [([], []), ([], []), ([0, 1], [0, 1]), ([2], [2]), ([], []), ([], []), ([], []), ([5, 6], [5, 6]), ([7], [7]), ([], []), ([8, 9], [8, 9]), ([10], [10]), ([], []), ([], []), ([12, 13], [12, 13]), ([14], [14]), ([], []), ([15, 16], [15, 16]), ([17], [17]), ([11, 18], [11, 18]), ([], []), ([], []), ([20, 21], [20, 21]), ([22], [22]), ([], []), ([23, 24], [23, 24]), ([25], [25]), ([], []), ([], []), ([27, 28], [27, 28]), ([29], [29]), ([], []), ([30, 31], [30, 31]), ([32], [32]), ([26, 33], [26, 33]), ([19, 34], [19, 34]), ([], []), ([35, 36], [35, 36]), ([3, 4, 0, 1, 2, 3, 4, 5, 6, 7, 8, 9, 10, 11, 12, 13, 14, 15, 16, 17, 18, 19, 20, 21, 22, 23, 24, 25, 26, 27, 28, 29, 30, 31, 32, 33, 34, 35, 36, 37], [3, 4]), ([38, 37, 0, 1, 2, 3, 4, 5, 6, 7, 8, 9, 10, 11, 12, 13, 14, 15, 16, 17, 18, 19, 20, 21, 22, 23, 24, 25, 26, 27, 28, 29, 30, 31, 32, 33, 34, 35, 36, 37], [37, 38])])
def spec_l11Trees.B19 : List Nat := [0, 0, 3, 7, 0, 0, 0, 96, 224, 0, 992, 2016, 0, 0, 12288, 28672, 0, 126976, 258048, 524256, 0, 0, 3145728, 7340032, 0, 32505856, 66060288, 0, 0, 402653184, 939524096, 0, 4160749568, 8455716864, 17178820608, 34359738336, 0, 137438953440, 274877906943, 549755813887]
theorem spec_l11Trees.tab19 : rtab .any (opsOf Try.f86 19) = spec_l11Trees.T19 := by kernel_rfl
theorem spec_l11Trees.bits19 : waitsOk spec_l11Trees.T19.2 spec_l11Trees.B19 = true := by kernel_rfl
set_option maxHeartbeats 8000000 in
set_option maxRecDepth 100000 in
theorem spec_l11Trees.calls (k : Nat) (A0 : Option Addr) (c0 : Nat) (l0 : List (List Int)) (r : Int) (w : World) (hr0 : Kd.C (Kd.slice 3 (Kd.int .i64)) w A0 l0.length l0) (hc0 : l0.length ≤ c0) (h : spec_l11Trees.f k l0 = some r) :
  Calls Try.prog 86 #[.slice A0 l0.length c0] w fun e w' => e = .returned (.int .i64 r) ∧ Below w.heap.size w w' := by
 have HR0 := A_ hr0
 have HC0 := A_ hc0
 clear hr0 hc0
 have HB := A_ (Below.refl w.heap.size w)
 have H : (spec_l11Trees.l0 k l0 (l0.length : Int) (([] : List (List Int))) 0) = some r := h
 clear h
 obtain ⟨y101, hy101⟩ : ∃ y_ : List (List Int), y_ = (([] : List (List Int))) := ⟨_, rfl⟩
 replace H : (spec_l11Trees.l0 k l0 (l0.length : Int) y101 0) = some r := by (rw [hy101]; with_reducible exact H)
 have Ny101 := A_ hy101
 clear hy101
 have H' := A_ H
 clear H
 go_enter Try.func86, Try.ntmps86
 go_wp2_with (((with_reducible refine gate_dst (N := 12) rfl ?_); refine Kd.S_lit (Kd.slice 3 (Kd.int .i64)) _ 29 ?hg (N := 12) ?hd (xs := ([] : List (List Int))) (inner := []) (ok := fun _ => True) (okp := fun _ => True) ?hr ?hp (fun _ hk => hk) trivial (Below.refl _ _) (Nat.le_refl _) (by simp) ?_; (case hd => rfl); (case hg => rfl); (case hr => (go_simp; done)); (case hp => exact (Reps.none _ _)); intro v102 w2 ho3 hb hg_ hnew_; clear hg_ hnew_; (rw [← Ny101.out] at ho3); have n0_ := A_ (Kd.S_lower ho3 (below_size HB.out)); have n1_ := A_ (bs_ HB.1 hb); clear HB; have HO103 := n0_; have HB := n1_; clear n0_ n1_ hb ho3))
 go_loopg [4, 5] k (fun kq v4 v5 w' => ∃ (x4_1 : List (List Int)) (x5_1 : Int), v5 = .int .i64 x5_1 ∧ Aside0 (spec_l11Trees.l0 kq l0 (l0.length : Int) x4_1 x5_1 = some r) ∧ Aside0 (kq ≤ k) ∧ Aside0 (Kd.S (Kd.slice 3 (Kd.int .i64)) 29 w' w.heap.size (fun _ => True) v4 x4_1) ∧ Aside0 (Below w.heap.size w w'))
 case atStart => exact ⟨(y101), (0), (by rfl), H', ⟨Nat.le_refl _⟩, ⟨by exact HO103.out⟩, ⟨by repeat ((with_reducible exact HB.out))⟩⟩
 case round =>
  clear H'; try clear p2
  obtain ⟨x4_1, x5_1, rfl, HA, HK1, HO_4, HB⟩ := hrel
  cases gk with
  | zero => exact absurd HA.out (by simp [spec_l11Trees.l0])
  | succ k1 =>
   have H := HA.out
   clear HA
   simp only [spec_l11Trees.l0] at H
   by_cases c4 : x5_1 < (l0.length : Int)
   ·rw [if_pos c4] at H
    have c4b0 : decide (x5_1 < (l0.length : Int)) = true := decide_eq_true c4
    clear c4
    obtain ⟨y104, hy104⟩ : ∃ y_ : List Int, y_ = (([] : List Int)) := ⟨_, rfl⟩
    replace H : (if 0 ≤ x5_1 then (if x5_1 < (l0.length : Int) then (if y104.length + (rd_L2 l0 x5_1).length < 17592186044416 then (if x4_1.length < 5864062014805 then (spec_l11Trees.l0 k1 l0 (l0.length : Int) (x4_1 ++ [(y104 ++ (rd_L2 l0 x5_1))]) (wrap64 (x5_1 + 1))) else (none)) else (none)) else (none)) else (none)) = some r := by (have H2_ := (Option.bind_some _ _).symm.trans H; rw [hy104]; with_reducible exact H2_)
    have Ny104 := A_ hy104
    clear hy104
    replace H := iN_ H; obtain ⟨c5, H⟩ := H
    have c5b0 : decide (0 ≤ x5_1) = true := decide_eq_true c5
    clear c5
    replace H := iN_ H; obtain ⟨c6, H⟩ := H
    have c6b0 : decide (x5_1 < (l0.length : Int)) = true := decide_eq_true c6
    clear c6
    replace H := iN_ H; obtain ⟨c7, H⟩ := H
    have LMc7 := A_ c7
    clear c7
    obtain ⟨y108, hy108⟩ : ∃ y_ : List Int, y_ = (y104 ++ (rd_L2 l0 x5_1)) := ⟨_, rfl⟩
    replace H : (if x4_1.length < 5864062014805 then (spec_l11Trees.l0 k1 l0 (l0.length : Int) (x4_1 ++ [y108]) (wrap64 (x5_1 + 1))) else (none)) = some r := by (rw [hy108]; with_reducible exact H)
    have Ny108 := A_ hy108
    clear hy108
    replace H := iN_ H; obtain ⟨c8, H⟩ := H
    have LMc8 := A_ c8
    clear c8
    obtain ⟨y111, hy111⟩ : ∃ y_ : List (List Int), y_ = (x4_1 ++ [y108]) := ⟨_, rfl⟩
    replace H : (spec_l11Trees.l0 k1 l0 (l0.length : Int) y111 (wrap64 (x5_1 + 1))) = some r := by (rw [hy111]; with_reducible exact H)
    have Ny111 := A_ hy111
    clear hy111
    have H' := A_ H
    clear H
    go_wp2_with (first | ((with_reducible refine gate_dst (N := 19) rfl ?_); refine Kd.R_lit (Kd.int .i64) _ 3 ?hg (N := 19) ?hd (xs := ([] : List Int)) (inner := []) (ok := fun _ => True) (okp := fun _ => True) ?hr ?hp (fun _ hk => hk) trivial (Below.refl _ _) (Nat.le_refl _) (by simp) ?_; (case hd => rfl); (case hg => rfl); (case hr => (go_simp; done)); (case hp => exact (Reps.none _ _)); intro v105 w9 ho10 hb hg_ hnew_; clear hg_ hnew_; (rw [← Ny104.out] at ho10); have n0_ := A_ (Kd.S_elder' HO_4.out (Kd.R_base ho10) hb); have n1_ := A_ (Kd.R_lower ho10 (below_size HB.out)); have n2_ := A_ (bs_ HB.1 hb); clear HO_4 HB; have HO_4 := n0_; have HO106 := n1_; have HB := n2_; clear n0_ n1_ n2_ hb ho10; have p107 : 0 ≤ (x5_1 : Int) := oD_; have q107 : x5_1 < (l0.length : Int) := oD_; obtain ⟨ad107, A107_0, c107_0, e107, hx107_0, hl107_0, hi107_0⟩ := at_L2 HR0.out x5_1 p107 q107; cases e107; replace hx107_0 := (HB.out.cell (World.block_lt_of_cell? w _ hx107_0)).trans hx107_0; have HR107_0 := A_ hi107_0; have HC107_0 := A_ hl107_0; clear hi107_0 hl107_0; replace p107 := eq_true p107; replace q107 := eq_true q107) | ((with_reducible refine gate_builtin (b := .append) (xs := #[.tmp 19, .tmp 23]) rfl ?_); at_builtin; refine Kd.R_append_rows (Kd.int .i64) (w0 := w) w.heap.size rfl (.tmp 19) (.tmp 23) 29 3 (.int .i64 0) 8 rfl Try.underlying29 info3 rfl (by decide) (by omega) v105 y104 (rd_L2 l0 x5_1) _ _ _ (fun _ => True) (fun _ => False) rfl rfl ?aO ?aR (fun _ _ h => h) (fun _ h => h.elim) ?aF ?aB ?aS ?aL ?_; (case aR => repeat (exact (Kd.C_below HR107_0.out HB.out))); (case aB => exact HB.out); (case aF => exact (fun _ _ => trivial)); (case aO => exact HO106.out); (case aS => exact (below_size HB.out)); (case aL => have := LMc7.out; omega); intro v109 w11 ho hb hg hat; rw [← Ny108.out] at ho; have n0_ := A_ (Kd.S_after (ok := (fun _ => True)) HO_4.out hg hat); have n1_ := A_ (hb); have n2_ := A_ (ho); clear HO_4 HB HO106; have HO_4 := n0_; have HB := n1_; have HO110 := n2_; clear n0_ n1_ n2_ ho hb hg hat; obtain ⟨Ao13, co13, eo13⟩ := Kd.R_slice HO110.out; subst eo13) | ((with_reducible refine gate_builtin (b := .append) (xs := #[.tmp 18, .tmp 25]) rfl ?_); at_builtin; refine Kd.S_append (Kd.slice 3 (Kd.int .i64)) (w0 := w) w.heap.size rfl (.tmp 18) (.tmp 25) 24 29 (.slice none 0 0) 24 rfl Try.underlying24 info29 rfl (by decide) (by omega) u4 x4_1 y108 [.slice Ao13 y108.length co13] (fun _ => True) (fun k_ => some k_ = (.slice Ao13 y108.length co13 : Value).ownBlock) rfl rfl ?aP (fun k_ hk_ => ((Kd.R_mono (ok' := fun k_ => ((fun _ => True)) k_ ∧ some k_ ≠ (u4 : Value).ownBlock) (Kd.R_apart' (HO110.out) (Kd.S_typed HO_4.out) (by decide)) (fun k_ hk => ⟨trivial, hk.2⟩))).1 k_ hk_.symm) ?aF ?aO ?aB ?aS ?aL ?_; (case aP => exact Kd.M_row (Kd.R_mono (Kd.R_tight rfl (Kd.R_mono (ok' := fun k_ => ((fun _ => True)) k_ ∧ some k_ ≠ (u4 : Value).ownBlock) (Kd.R_apart' (HO110.out) (Kd.S_typed HO_4.out) (by decide)) (fun k_ hk => ⟨trivial, hk.2⟩))) (fun _ h_ => h_))); (case aB => exact HB.out); (case aF => exact (fun _ _ => trivial)); (case aO => exact (by exact Kd.S_mono HO_4.out (fun k_ hk => ⟨trivial, fun e_ => hk.2 e_⟩))); (case aS => exact (below_size HB.out)); (case aL => have := LMc8.out; omega); intro v112 w12 ho hb hg hat; rw [← Ny111.out] at ho; have n0_ := A_ (hb); have n1_ := A_ (ho); clear HB HO_4 HO110; have HB := n0_; have HO113 := n1_; clear n0_ n1_ ho hb hg hat))
    go_roundg k1
    case measure => have := HK1.out; omega
    case rel => exact ⟨(y111), (wrap64 (x5_1 + 1)), (by rfl), H', ⟨by have := HK1.out; omega⟩, ⟨by exact HO113.out⟩, ⟨by repeat ((with_reducible exact HB.out))⟩⟩
   ·rw [if_neg c4] at H
    have c4b0 : decide (x5_1 < (l0.length : Int)) = false := decide_eq_false c4
    clear c4
    have H' := A_ H
    clear H
    go_wp2
    go_loopg [6, 7] k1 (fun kq v6 v7 w' => ∃ (x4_2 : List (List Int)) (x6_2 : Int) (x7_2 : Int), v6 = .int .i64 x6_2 ∧ v7 = .int .i64 x7_2 ∧ Aside0 (spec_l11Trees.l1 kq (l0.length : Int) x4_2 x6_2 x7_2 = some r) ∧ Aside0 (kq ≤ k1) ∧ Aside0 (Kd.S (Kd.slice 3 (Kd.int .i64)) 29 w' w.heap.size (fun _ => True) u4 x4_2) ∧ Aside0 (Below w.heap.size w w'))
    case atStart => exact ⟨(x4_1), (1), (0), (by rfl), (by rfl), H', ⟨Nat.le_refl _⟩, ⟨by exact HO_4.out⟩, ⟨by repeat ((with_reducible exact HB.out))⟩⟩
    case round =>
     clear H'; try clear c1; try clear p1; try clear q1; try clear hx1; try clear p2; try clear c4; try clear c4b0; try clear c5; try clear c5b0; try clear c6; try clear c6b0; try clear p6; try clear c7; try clear c8; try clear c10; try clear p10; try clear q10; try clear hx10; try clear hx107_0; try clear p107; try clear p2; try clear q107
     obtain ⟨x4_2, x6_2, x7_2, rfl, rfl, HA, HK2, HO_4, HB⟩ := hrel
     cases gk with
     | zero => exact absurd HA.out (by simp [spec_l11Trees.l1])
     | succ k2 =>
      have H := HA.out
      clear HA
      simp only [spec_l11Trees.l1] at H
      by_cases c14 : x7_2 < (wrap64 ((l0.length : Int) - 1))
      ·rw [if_pos c14] at H
       have c14b0 : decide (x7_2 < (wrap64 ((l0.length : Int) - 1))) = true := decide_eq_true c14
       clear c14
       replace H := iN_ H; obtain ⟨c15, H⟩ := H
       have c15b0 : decide (0 ≤ x7_2) = true := decide_eq_true c15
       clear c15
       replace H := iN_ H; obtain ⟨c16, H⟩ := H
       have c16b0 : decide (x7_2 < (x4_2.length : Int)) = true := decide_eq_true c16
       clear c16
       replace H := iN_ H; obtain ⟨c17, H⟩ := H
       have c17b0 : decide (x7_2 < ((rd_L2 x4_2 x7_2).length : Int)) = true := decide_eq_true c17
       clear c17
       by_cases c18 : (rd (rd_L2 x4_2 x7_2) x7_2) = 0
       ·rw [if_pos c18] at H
        have c18b0 : ((rd (rd_L2 x4_2 x7_2) x7_2) == 0) = true := beq_iff_eq.mpr c18
        have c18b1 : ((rd (rd_L2 x4_2 x7_2) x7_2) != 0) = false := bne_eq_false_iff_eq.mpr c18
        clear c18
        obtain rfl := Option.some.inj H
        obtain ⟨Ao19, co19, eo19⟩ := Kd.S_slice HO_4.out
        subst eo19
        have p116 : 0 ≤ (x7_2 : Int) := oD_
        have q116 : x7_2 < (x4_2.length : Int) := oD_
        obtain ⟨ad116, A116_0, c116_0, e116, hx116_0, hl116_0, hi116_0⟩ := at_L2 (Kd.S_reads' HO_4.out).2.2 x7_2 p116 q116
        cases e116
        obtain ⟨ce116, hce116, hMe116, hcc116⟩ := Kd.S_get HO_4.out [] x7_2 p116 (by exact q116)
        obtain ⟨ve116_0, rfl, ge116_0⟩ := hMe116
        have hv116_0 := hcc116 0 _ rfl
        rw [Nat.add_zero, show ((Kd.slice 3 (Kd.int .i64))).sz = 1 from rfl, Nat.mul_one] at hv116_0
        replace hv116_0 := Option.some.inj (hv116_0.symm.trans hx116_0)
        rw [hv116_0] at ge116_0
        have HL116_0 := A_ (show Kd.R (Kd.int .i64) 3 _ _ _ _ (rd_L2 x4_2 x7_2) from ge116_0)
        clear hv116_0 ge116_0
        have HX116_0 := A_ hx116_0
        clear hcc116 hce116
        have HR116_0 := A_ hi116_0
        have HC116_0 := A_ hl116_0
        clear hi116_0 hl116_0; replace p116 := eq_true p116; replace q116 := eq_true q116
        have p117 : 0 ≤ (x7_2 : Int) := oD_
        have q117 : x7_2 < ((rd_L2 x4_2 x7_2).length : Int) := oD_
        obtain ⟨ad117, e117, hx117_0⟩ := Kd.at_int HR116_0.out x7_2 p117 q117
        cases e117
        replace p117 := eq_true p117; replace q117 := eq_true q117
        go_wp2
        go_ret
        exact ⟨by rfl, by repeat ((with_reducible exact HB.out))⟩
       ·rw [if_neg c18] at H
        have c18b0 : ((rd (rd_L2 x4_2 x7_2) x7_2) == 0) = false := beq_eq_false_iff_ne.mpr c18
        have c18b1 : ((rd (rd_L2 x4_2 x7_2) x7_2) != 0) = true := bne_iff_ne.mpr c18
        have H' := A_ H
        clear H
        obtain ⟨Ao20, co20, eo20⟩ := Kd.S_slice HO_4.out
        subst eo20
        have p116 : 0 ≤ (x7_2 : Int) := oD_
        have q116 : x7_2 < (x4_2.length : Int) := oD_
        obtain ⟨ad116, A116_0, c116_0, e116, hx116_0, hl116_0, hi116_0⟩ := at_L2 (Kd.S_reads' HO_4.out).2.2 x7_2 p116 q116
        cases e116
        obtain ⟨ce116, hce116, hMe116, hcc116⟩ := Kd.S_get HO_4.out [] x7_2 p116 (by exact q116)
        obtain ⟨ve116_0, rfl, ge116_0⟩ := hMe116
        have hv116_0 := hcc116 0 _ rfl
        rw [Nat.add_zero, show ((Kd.slice 3 (Kd.int .i64))).sz = 1 from rfl, Nat.mul_one] at hv116_0
        replace hv116_0 := Option.some.inj (hv116_0.symm.trans hx116_0)
        rw [hv116_0] at ge116_0
        have HL116_0 := A_ (show Kd.R (Kd.int .i64) 3 _ _ _ _ (rd_L2 x4_2 x7_2) from ge116_0)
        clear hv116_0 ge116_0
        have HX116_0 := A_ hx116_0
        clear hcc116 hce116
        have HR116_0 := A_ hi116_0
        have HC116_0 := A_ hl116_0
        clear hi116_0 hl116_0; replace p116 := eq_true p116; replace q116 := eq_true q116
        have p117 : 0 ≤ (x7_2 : Int) := oD_
        have q117 : x7_2 < ((rd_L2 x4_2 x7_2).length : Int) := oD_
        obtain ⟨ad117, e117, hx117_0⟩ := Kd.at_int HR116_0.out x7_2 p117 q117
        cases e117
        replace p117 := eq_true p117; replace q117 := eq_true q117
        go_wp2
        go_loopg [8] k2 (fun kq v8 w' => ∃ (x4_3 : List (List Int)) (x8_3 : Int), v8 = .int .i64 x8_3 ∧ Aside0 (spec_l11Trees.l2 kq (l0.length : Int) x4_3 x6_2 x7_2 x8_3 = some r) ∧ Aside0 (kq ≤ k2) ∧ Aside0 (Kd.S (Kd.slice 3 (Kd.int .i64)) 29 w' w.heap.size (fun _ => True) (.slice (some ad116) x4_2.length co20) x4_3) ∧ Aside0 (Below w.heap.size w w'))
        case atStart => exact ⟨(x4_2), (wrap64 (x7_2 + 1)), (by rfl), H', ⟨Nat.le_refl _⟩, ⟨by exact HO_4.out⟩, ⟨by repeat ((with_reducible exact HB.out))⟩⟩
        case round =>
         clear H'; try clear c1; try clear p1; try clear q1; try clear hx1; try clear p2; try clear c4; try clear c4b0; try clear c5; try clear c5b0; try clear c6; try clear c6b0; try clear p6; try clear c7; try clear c8; try clear c10; try clear p10; try clear q10; try clear hx10; try clear c11; try clear p11; try clear q11; try clear hx11; try clear c14; try clear c14b0; try clear c15; try clear c15b0; try clear c16; try clear c16b0; try clear c17; try clear c17b0; try clear c18; try clear c18b0; try clear c18b1; try clear hx107_0; try clear hx116_0; try clear hx117_0; try clear p1; try clear p10; try clear p107; try clear p116; try clear p117; try clear p2; try clear p6; try clear q1; try clear q10; try clear q107; try clear q116; try clear q117
         obtain ⟨x4_3, x8_3, rfl, HA, HK3, HO_4, HB⟩ := hrel
         have hl4_3 := (Kd.S_reads' HO_4.out).1
         rw [hl4_3] at HO_4
         (try simp only [hl4_3])
         cases gk with
         | zero => exact absurd HA.out (by simp [spec_l11Trees.l2])
         | succ k3 =>
          have H := HA.out
          clear HA
          simp only [spec_l11Trees.l2] at H
          by_cases c21 : x8_3 < (l0.length : Int)
          ·rw [if_pos c21] at H
           have c21b0 : decide (x8_3 < (l0.length : Int)) = true := decide_eq_true c21
           clear c21
           have H' := A_ H
           clear H
           go_wp2
           go_loopg [9] k3 (fun kq v9 w' => ∃ (x4_4 : List (List Int)) (x9_4 : Int), v9 = .int .i64 x9_4 ∧ Aside0 (spec_l11Trees.l3 kq (l0.length : Int) x4_4 x6_2 x7_2 x8_3 x9_4 = some r) ∧ Aside0 (kq ≤ k3) ∧ Aside0 (Kd.S (Kd.slice 3 (Kd.int .i64)) 29 w' w.heap.size (fun _ => True) (.slice (some ad116) x4_3.length co20) x4_4) ∧ Aside0 (Below w.heap.size w w'))
           case atStart => exact ⟨(x4_3), (wrap64 (x7_2 + 1)), (by rfl), H', ⟨Nat.le_refl _⟩, ⟨by (try simp only [hl4_3]); exact HO_4.out⟩, ⟨by repeat ((with_reducible exact HB.out))⟩⟩
           case round =>
            clear H'; try clear c1; try clear p1; try clear q1; try clear hx1; try clear c2; try clear p2; try clear c4; try clear c4b0; try clear c5; try clear c5b0; try clear c6; try clear c6b0; try clear p6; try clear c7; try clear c8; try clear c10; try clear p10; try clear q10; try clear hx10; try clear c11; try clear p11; try clear q11; try clear hx11; try clear c14; try clear c14b0; try clear c15; try clear c15b0; try clear c16; try clear c16b0; try clear c17; try clear c17b0; try clear c18; try clear c18b0; try clear c18b1; try clear c21; try clear c21b0; try clear hx107_0; try clear hx116_0; try clear hx117_0; try clear p1; try clear p10; try clear p107; try clear p11; try clear p116; try clear p117; try clear p2; try clear p6; try clear q1; try clear q10; try clear q107; try clear q11; try clear q116; try clear q117
            obtain ⟨x4_4, x9_4, rfl, HA, HK4, HO_4, HB⟩ := hrel
            have hl4_4 := (Kd.S_reads' HO_4.out).1
            rw [hl4_4] at HO_4
            (try simp only [hl4_4])
            cases gk with
            | zero => exact absurd HA.out (by simp [spec_l11Trees.l3])
            | succ k4 =>
             have H := HA.out
             clear HA
             simp only [spec_l11Trees.l3] at H
             by_cases c22 : x9_4 < (l0.length : Int)
             ·rw [if_pos c22] at H
              have c22b0 : decide (x9_4 < (l0.length : Int)) = true := decide_eq_true c22
              clear c22
              replace H := iN_ H; obtain ⟨c23, H⟩ := H
              have c23b0 : decide (0 ≤ x8_3) = true := decide_eq_true c23
              clear c23
              replace H := iN_ H; obtain ⟨c24, H⟩ := H
              have c24b0 : decide (x8_3 < (x4_4.length : Int)) = true := decide_eq_true c24
              clear c24
              replace H := iN_ H; obtain ⟨c25, H⟩ := H
              have c25b0 : decide (0 ≤ x9_4) = true := decide_eq_true c25
              clear c25
              replace H := iN_ H; obtain ⟨c26, H⟩ := H
              have c26b0 : decide (x9_4 < ((rd_L2 x4_4 x8_3).length : Int)) = true := decide_eq_true c26
              clear c26
              replace H := iN_ H; obtain ⟨c27, H⟩ := H
              have c27b0 : decide (0 ≤ x7_2) = true := decide_eq_true c27
              clear c27
              replace H := iN_ H; obtain ⟨c28, H⟩ := H
              have c28b0 : decide (x7_2 < (x4_4.length : Int)) = true := decide_eq_true c28
              clear c28
              replace H := iN_ H; obtain ⟨c29, H⟩ := H
              have c29b0 : decide (x7_2 < ((rd_L2 x4_4 x7_2).length : Int)) = true := decide_eq_true c29
              clear c29
              replace H := iN_ H; obtain ⟨c30, H⟩ := H
              have c30b0 : decide (x7_2 < ((rd_L2 x4_4 x8_3).length : Int)) = true := decide_eq_true c30
              clear c30
              replace H := iN_ H; obtain ⟨c31, H⟩ := H
              have c31b0 : decide (x9_4 < ((rd_L2 x4_4 x7_2).length : Int)) = true := decide_eq_true c31
              clear c31
              by_cases c32 : x6_2 = 0
              ·rw [if_pos c32] at H
               exact absurd H (by simp)
              ·rw [if_neg c32] at H
               have c32b0 : (x6_2 == 0) = false := beq_eq_false_iff_ne.mpr c32
               have c32b1 : (x6_2 != 0) = true := bne_iff_ne.mpr c32
               obtain ⟨y129, hy129⟩ : ∃ y_ : List Int, y_ = ((rd_L2 x4_4 x8_3).set (x9_4 : Int).toNat (wrap64 (Int.tdiv (wrap64 ((wrap64 ((rd (rd_L2 x4_4 x8_3) x9_4) * (rd (rd_L2 x4_4 x7_2) x7_2))) - (wrap64 ((rd (rd_L2 x4_4 x8_3) x7_2) * (rd (rd_L2 x4_4 x7_2) x9_4))))) x6_2))) := ⟨_, rfl⟩
               replace H : (spec_l11Trees.l3 k4 (l0.length : Int) (x4_4.set (x8_3 : Int).toNat y129) x6_2 x7_2 x8_3 (wrap64 (x9_4 + 1))) = some r := by (rw [hy129]; with_reducible exact H)
               have Ny129 := A_ hy129
               clear hy129
               obtain ⟨y131, hy131⟩ : ∃ y_ : List (List Int), y_ = (x4_4.set (x8_3 : Int).toNat y129) := ⟨_, rfl⟩
               replace H : (spec_l11Trees.l3 k4 (l0.length : Int) y131 x6_2 x7_2 x8_3 (wrap64 (x9_4 + 1))) = some r := by (rw [hy131]; with_reducible exact H)
               have Ny131 := A_ hy131
               clear hy131
               have H' := A_ H
               clear H
               try go_wp2
               have n0_ := A_ (Kd.S_drew HO_4.out)
               have n1_ := A_ (below_drew1 HB.out); clear HO_4 HB; have HO_4 := n0_; have HB := n1_; clear n0_ n1_
               have p120 : 0 ≤ (x8_3 : Int) := oD_
               have q120 : x8_3 < (x4_4.length : Int) := oD_
               obtain ⟨ad120, A120_0, c120_0, e120, hx120_0, hl120_0, hi120_0⟩ := at_L2 (Kd.S_reads' HO_4.out).2.2 x8_3 p120 q120
               obtain rfl : ad116 = ad120 := (by injection e120)
               obtain ⟨ce120, hce120, hMe120, hcc120⟩ := Kd.S_get HO_4.out [] x8_3 p120 (by exact q120)
               obtain ⟨ve120_0, rfl, ge120_0⟩ := hMe120
               have hv120_0 := hcc120 0 _ rfl
               rw [Nat.add_zero, show ((Kd.slice 3 (Kd.int .i64))).sz = 1 from rfl, Nat.mul_one] at hv120_0
               replace hv120_0 := Option.some.inj (hv120_0.symm.trans hx120_0)
               rw [hv120_0] at ge120_0
               have HL120_0 := A_ (show Kd.R (Kd.int .i64) 3 _ _ _ _ (rd_L2 x4_4 x8_3) from ge120_0)
               clear hv120_0 ge120_0
               have HX120_0 := A_ hx120_0
               clear hcc120 hce120
               have HR120_0 := A_ hi120_0
               have HC120_0 := A_ hl120_0
               clear hi120_0 hl120_0; replace p120 := eq_true p120; replace q120 := eq_true q120
               have p121 : 0 ≤ (x8_3 : Int) := oD_
               have q121 : x8_3 < (x4_4.length : Int) := oD_
               obtain ⟨ad121, A121_0, c121_0, e121, hx121_0, hl121_0, hi121_0⟩ := at_L2 (Kd.S_reads' HO_4.out).2.2 x8_3 p121 q121
               obtain rfl : ad116 = ad121 := (by injection e121)
               obtain ⟨ce121, hce121, hMe121, hcc121⟩ := Kd.S_get HO_4.out [] x8_3 p121 (by exact q121)
               obtain ⟨ve121_0, rfl, ge121_0⟩ := hMe121
               have hv121_0 := hcc121 0 _ rfl
               rw [Nat.add_zero, show ((Kd.slice 3 (Kd.int .i64))).sz = 1 from rfl, Nat.mul_one] at hv121_0
               replace hv121_0 := Option.some.inj (hv121_0.symm.trans hx121_0)
               rw [hv121_0] at ge121_0
               have HL121_0 := A_ (show Kd.R (Kd.int .i64) 3 _ _ _ _ (rd_L2 x4_4 x8_3) from ge121_0)
               clear hv121_0 ge121_0
               have HX121_0 := A_ hx121_0
               clear hcc121 hce121
               have HR121_0 := A_ hi121_0
               have HC121_0 := A_ hl121_0
               clear hi121_0 hl121_0; replace p121 := eq_true p121; replace q121 := eq_true q121
               have ea_ := Option.some.inj (hx120_0.symm.trans hx121_0)
               injection ea_ with ea_ en_ ec_
               subst ea_; subst ec_; clear en_
               have p122 : 0 ≤ (x9_4 : Int) := oD_
               have q122 : x9_4 < ((rd_L2 x4_4 x8_3).length : Int) := oD_
               obtain ⟨ad122, e122, hx122_0⟩ := Kd.at_int HR121_0.out x9_4 p122 q122
               cases e122
               replace p122 := eq_true p122; replace q122 := eq_true q122
               have p123 : 0 ≤ (x7_2 : Int) := oD_
               have q123 : x7_2 < (x4_4.length : Int) := oD_
               obtain ⟨ad123, A123_0, c123_0, e123, hx123_0, hl123_0, hi123_0⟩ := at_L2 (Kd.S_reads' HO_4.out).2.2 x7_2 p123 q123
               obtain rfl : ad116 = ad123 := (by injection e123)
               obtain ⟨ce123, hce123, hMe123, hcc123⟩ := Kd.S_get HO_4.out [] x7_2 p123 (by exact q123)
               obtain ⟨ve123_0, rfl, ge123_0⟩ := hMe123
               have hv123_0 := hcc123 0 _ rfl
               rw [Nat.add_zero, show ((Kd.slice 3 (Kd.int .i64))).sz = 1 from rfl, Nat.mul_one] at hv123_0
               replace hv123_0 := Option.some.inj (hv123_0.symm.trans hx123_0)
               rw [hv123_0] at ge123_0
               have HL123_0 := A_ (show Kd.R (Kd.int .i64) 3 _ _ _ _ (rd_L2 x4_4 x7_2) from ge123_0)
               clear hv123_0 ge123_0
               have HX123_0 := A_ hx123_0
               clear hcc123 hce123
               have HR123_0 := A_ hi123_0
               have HC123_0 := A_ hl123_0
               clear hi123_0 hl123_0; replace p123 := eq_true p123; replace q123 := eq_true q123
               have p124 : 0 ≤ (x7_2 : Int) := oD_
               have q124 : x7_2 < ((rd_L2 x4_4 x7_2).length : Int) := oD_
               obtain ⟨ad124, e124, hx124_0⟩ := Kd.at_int HR123_0.out x7_2 p124 q124
               cases e124
               replace p124 := eq_true p124; replace q124 := eq_true q124
               have p125 : 0 ≤ (x8_3 : Int) := oD_
               have q125 : x8_3 < (x4_4.length : Int) := oD_
               obtain ⟨ad125, A125_0, c125_0, e125, hx125_0, hl125_0, hi125_0⟩ := at_L2 (Kd.S_reads' HO_4.out).2.2 x8_3 p125 q125
               obtain rfl : ad116 = ad125 := (by injection e125)
               obtain ⟨ce125, hce125, hMe125, hcc125⟩ := Kd.S_get HO_4.out [] x8_3 p125 (by exact q125)
               obtain ⟨ve125_0, rfl, ge125_0⟩ := hMe125
               have hv125_0 := hcc125 0 _ rfl
               rw [Nat.add_zero, show ((Kd.slice 3 (Kd.int .i64))).sz = 1 from rfl, Nat.mul_one] at hv125_0
               replace hv125_0 := Option.some.inj (hv125_0.symm.trans hx125_0)
               rw [hv125_0] at ge125_0
               have HL125_0 := A_ (show Kd.R (Kd.int .i64) 3 _ _ _ _ (rd_L2 x4_4 x8_3) from ge125_0)
               clear hv125_0 ge125_0
               have HX125_0 := A_ hx125_0
               clear hcc125 hce125
               have HR125_0 := A_ hi125_0
               have HC125_0 := A_ hl125_0
               clear hi125_0 hl125_0; replace p125 := eq_true p125; replace q125 := eq_true q125
               have ea_ := Option.some.inj (hx120_0.symm.trans hx125_0)
               injection ea_ with ea_ en_ ec_
               subst ea_; subst ec_; clear en_
               have p126 : 0 ≤ (x7_2 : Int) := oD_
               have q126 : x7_2 < ((rd_L2 x4_4 x8_3).length : Int) := oD_
               obtain ⟨ad126, e126, hx126_0⟩ := Kd.at_int HR125_0.out x7_2 p126 q126
               cases e126
               replace p126 := eq_true p126; replace q126 := eq_true q126
               have p127 : 0 ≤ (x7_2 : Int) := oD_
               have q127 : x7_2 < (x4_4.length : Int) := oD_
               obtain ⟨ad127, A127_0, c127_0, e127, hx127_0, hl127_0, hi127_0⟩ := at_L2 (Kd.S_reads' HO_4.out).2.2 x7_2 p127 q127
               obtain rfl : ad116 = ad127 := (by injection e127)
               obtain ⟨ce127, hce127, hMe127, hcc127⟩ := Kd.S_get HO_4.out [] x7_2 p127 (by exact q127)
               obtain ⟨ve127_0, rfl, ge127_0⟩ := hMe127
               have hv127_0 := hcc127 0 _ rfl
               rw [Nat.add_zero, show ((Kd.slice 3 (Kd.int .i64))).sz = 1 from rfl, Nat.mul_one] at hv127_0
               replace hv127_0 := Option.some.inj (hv127_0.symm.trans hx127_0)
               rw [hv127_0] at ge127_0
               have HL127_0 := A_ (show Kd.R (Kd.int .i64) 3 _ _ _ _ (rd_L2 x4_4 x7_2) from ge127_0)
               clear hv127_0 ge127_0
               have HX127_0 := A_ hx127_0
               clear hcc127 hce127
               have HR127_0 := A_ hi127_0
               have HC127_0 := A_ hl127_0
               clear hi127_0 hl127_0; replace p127 := eq_true p127; replace q127 := eq_true q127
               have ea_ := Option.some.inj (hx123_0.symm.trans hx127_0)
               injection ea_ with ea_ en_ ec_
               subst ea_; subst ec_; clear en_
               have p128 : 0 ≤ (x9_4 : Int) := oD_
               have q128 : x9_4 < ((rd_L2 x4_4 x7_2).length : Int) := oD_
               obtain ⟨ad128, e128, hx128_0⟩ := Kd.at_int HR127_0.out x9_4 p128 q128
               cases e128
               replace p128 := eq_true p128; replace q128 := eq_true q128
               have p33 : 0 ≤ (x9_4 : Int) := oD_
               have q33 : (x9_4 : Int) < (((rd_L2 x4_4 x8_3).length : Int) : Int) := oD_
               obtain ⟨go33, co33, eo33, gb33, gl33, cl33, HG33⟩ := Kd.R_form HL120_0.out (by omega)
               (cases eo33)
               have GB33 := A_ gb33
               have GG33 := A_ HG33
               clear gb33 gl33 HG33
               (simp only [add_plain] at hx126_0)
               obtain ⟨hx33_0, hf33_0⟩ := Kd.R_celln 0 HL120_0.out (x9_4 : Int) p33 q33
               replace p33 := eq_true p33; replace q33 := eq_true q33
               have hq35 : (x8_3 : Int) < (x4_4.length : Int) := (by have h_ : (x8_3 : Int) < ((x4_4.length : Int) : Int) := oD_; exact h_)
               obtain ⟨oki35, ce35, hcl35, hM35, hcc35, hok35, hbk35⟩ := Kd.S_borrow HO_4.out [] (x8_3 : Int) (oD_) hq35
               obtain ⟨ve35_0, rfl, ge35_0⟩ := hM35
               have hv35 := hcc35 0 _ rfl
               rw [Nat.add_zero, show ((Kd.slice 3 (Kd.int .i64))).sz = 1 from rfl, Nat.mul_one] at hv35
               replace hv35 := Option.some.inj (hv35.symm.trans HX120_0.out)
               subst hv35; clear hcc35 hcl35
               replace ge35_0 := (show Kd.R (Kd.int .i64) 3 _ _ _ _ (rd_L2 x4_4 x8_3) from ge35_0)
               have HP35 := Kd.R_putg ge35_0 (x9_4 : Int) (wrap64 (Int.tdiv (wrap64 ((wrap64 ((rd (rd_L2 x4_4 x8_3) x9_4) * (rd (rd_L2 x4_4 x7_2) x7_2))) - (wrap64 ((rd (rd_L2 x4_4 x8_3) x7_2) * (rd (rd_L2 x4_4 x7_2) x9_4))))) x6_2))
               rw [← Ny129.out] at HP35
               have HS35 := hbk35 HP35.2 (fun k_ e_ => by injection e_ with e_; subst e_; exact ge35_0.1 _ rfl) (x' := y129) (Kd.M_row HP35.1)
               rw [← Ny131.out] at HS35
               have HQ35 := A_ HS35
               clear HP35 HS35 hbk35 hok35
               (try simp only [add_plain] at *)
               refine start_ (n := 40) (S := fun w' => w'.cell? (ad116.add (x8_3).toNat) = some (.slice (some ⟨go33, 0, none⟩) (rd_L2 x4_4 x8_3).length c120_0) ∧ w'.cell? (ad116.add (x8_3).toNat) = some (.slice (some ⟨go33, 0, none⟩) (rd_L2 x4_4 x8_3).length c120_0) ∧ w'.cell? ⟨go33, (x9_4).toNat, none⟩ = some (.int .i64 (rd (rd_L2 x4_4 x8_3) x9_4)) ∧ w'.cell? (ad116.add (x7_2).toNat) = some (.slice (some ad124) (rd_L2 x4_4 x7_2).length c123_0) ∧ w'.cell? (ad124.add (x7_2).toNat) = some (.int .i64 (rd (rd_L2 x4_4 x7_2) x7_2)) ∧ w'.cell? (ad116.add (x8_3).toNat) = some (.slice (some ⟨go33, 0, none⟩) (rd_L2 x4_4 x8_3).length c120_0) ∧ w'.cell? ⟨go33, (x7_2).toNat, none⟩ = some (.int .i64 (rd (rd_L2 x4_4 x8_3) x7_2)) ∧ w'.cell? (ad116.add (x7_2).toNat) = some (.slice (some ad124) (rd_L2 x4_4 x7_2).length c123_0) ∧ w'.cell? (ad124.add (x9_4).toNat) = some (.int .i64 (rd (rd_L2 x4_4 x7_2) x9_4))) (ds := [39]) #[false, false, false, false, false, false, false, false, false, false, false, false, false, false, false, false, false, false, false, false, false, false, false, false, false, false, false, false, false, false, false, false, false, false, false, false, false, false, false, false] (by kernel_rfl) rfl rfl ⟨hx120_0, hx121_0, hx122_0, hx123_0, hx124_0, hx125_0, hx126_0, hx127_0, hx128_0⟩ (fun hHeld => ?_); refine with_tabW spec_l11Trees.tab19 spec_l11Trees.bits19 (fun HT_ HW_ => ?_)
               generalize wr.drew = w34 at HO_4 HB GG33 HL120_0 HL121_0 HL123_0 HL125_0 HL127_0 HQ35 HR120_0 HR121_0 HR123_0 HR125_0 HR127_0 HX120_0 HX121_0 HX123_0 HX125_0 HX127_0 hf33_0 hx120_0 hx121_0 hx122_0 hx123_0 hx124_0 hx125_0 hx126_0 hx127_0 hx128_0 hx33_0 hHeld ⊢
               refine pv_ 0 55 HT_ ?_; refine pv_ 1 56 HT_ ?_; refine pv_ 2 57 HT_ ?_; refine pv_ 4 59 HT_ ?_; refine pv_ 5 60 HT_ ?_; refine pv_ 6 61 HT_ ?_; refine pv_ 7 62 HT_ ?_; refine pv_ 9 64 HT_ ?_; refine pv_ 12 67 HT_ ?_; refine pv_ 13 68 HT_ ?_; refine pv_ 14 69 HT_ ?_; refine pv_ 16 71 HT_ ?_; refine pv_ 20 75 HT_ ?_; refine pv_ 21 76 HT_ ?_; refine pv_ 22 77 HT_ ?_; refine pv_ 24 79 HT_ ?_; refine pv_ 27 82 HT_ ?_; refine pv_ 28 83 HT_ ?_; refine pv_ 29 84 HT_ ?_; refine pv_ 31 86 HT_ ?_; refine pv_ 36 91 HT_ ?_; refine tv_ 3 58 rfl HT_ HW_ hHeld (by rintro w' ⟨s0, s1, s2, s3, s4, s5, s6, s7, s8⟩; go_simp; with_reducible rfl) ?_
               refine tv_ 8 63 rfl HT_ HW_ hHeld (by rintro w' ⟨s0, s1, s2, s3, s4, s5, s6, s7, s8⟩; go_simp; with_reducible rfl) ?_
               refine pv_ 10 65 HT_ ?_; refine tv_ 11 66 rfl HT_ HW_ hHeld (by rintro w' ⟨s0, s1, s2, s3, s4, s5, s6, s7, s8⟩; go_simp; with_reducible rfl) ?_
               refine tv_ 15 70 rfl HT_ HW_ hHeld (by rintro w' ⟨s0, s1, s2, s3, s4, s5, s6, s7, s8⟩; go_simp; with_reducible rfl) ?_
               refine pv_ 17 72 HT_ ?_; refine tv_ 18 73 rfl HT_ HW_ hHeld (by rintro w' ⟨s0, s1, s2, s3, s4, s5, s6, s7, s8⟩; go_simp; with_reducible rfl) ?_
               refine pv_ 19 74 HT_ ?_; refine tv_ 23 78 rfl HT_ HW_ hHeld (by rintro w' ⟨s0, s1, s2, s3, s4, s5, s6, s7, s8⟩; go_simp; with_reducible rfl) ?_
               refine pv_ 25 80 HT_ ?_; refine tv_ 26 81 rfl HT_ HW_ hHeld (by rintro w' ⟨s0, s1, s2, s3, s4, s5, s6, s7, s8⟩; go_simp; with_reducible rfl) ?_
               refine tv_ 30 85 rfl HT_ HW_ hHeld (by rintro w' ⟨s0, s1, s2, s3, s4, s5, s6, s7, s8⟩; go_simp; with_reducible rfl) ?_
               refine pv_ 32 87 HT_ ?_; refine tv_ 33 88 rfl HT_ HW_ hHeld (by rintro w' ⟨s0, s1, s2, s3, s4, s5, s6, s7, s8⟩; go_simp; with_reducible rfl) ?_
               refine pv_ 34 89 HT_ ?_; refine pv_ 35 90 HT_ ?_; refine pv_ 37 92 HT_ ?_; refine pv_ 38 93 HT_ ?_
               refine last_ (i := 39) (N := none) #[true, true, true, true, true, true, true, true, true, true, true, true, true, true, true, true, true, true, true, true, true, true, true, true, true, true, true, true, true, true, true, true, true, true, true, true, true, true, true, true] rfl rfl (one_of HT_.out (by kernel_rfl)) (by decide) (fun K hK => ?_)
               refine skip_ (w1 := ?_) (by rfl) rfl ?_ ?_
               rotate_left
               ·go_simp
                rfl
               refine hK.out _ _ ?_
               clear hK K
               refine done_ (done_of HT_.out (by kernel_rfl)) ?_
               try go_wp2
               (try simp only [← hl4_4])
               go_roundg k4
               case measure => have := HK1.out; have := HK2.out; have := HK3.out; have := HK4.out; omega
               case rel => exact ⟨(y131), (wrap64 (x9_4 + 1)), (by rfl), H', ⟨by have := HK1.out; have := HK2.out; have := HK3.out; have := HK4.out; omega⟩, ⟨by (try simp only [hl4_3]); (try simp only [hl4_4]); exact HQ35.out⟩, ⟨by repeat ((with_reducible first | exact HB.out | refine below_set ?_ GB33.out))⟩⟩
             ·rw [if_neg c22] at H
              have c22b0 : decide (x9_4 < (l0.length : Int)) = false := decide_eq_false c22
              clear c22
              have H' := A_ H
              clear H
              go_wp2
              (try simp only [← hl4_3, ← hl4_4])
              go_roundg k4
              case measure => have := HK1.out; have := HK2.out; have := HK3.out; have := HK4.out; omega
              case rel => exact ⟨(x4_4), (wrap64 (x8_3 + 1)), (by rfl), H', ⟨by have := HK1.out; have := HK2.out; have := HK3.out; have := HK4.out; omega⟩, ⟨by (try simp only [hl4_3]); (try simp only [hl4_4]); exact HO_4.out⟩, ⟨by repeat ((with_reducible exact HB.out))⟩⟩
          ·rw [if_neg c21] at H
           have c21b0 : decide (x8_3 < (l0.length : Int)) = false := decide_eq_false c21
           clear c21
           replace H := iN_ H; obtain ⟨c37, H⟩ := H
           have c37b0 : decide (0 ≤ x7_2) = true := decide_eq_true c37
           clear c37
           replace H := iN_ H; obtain ⟨c38, H⟩ := H
           have c38b0 : decide (x7_2 < (x4_3.length : Int)) = true := decide_eq_true c38
           clear c38
           replace H := iN_ H; obtain ⟨c39, H⟩ := H
           have c39b0 : decide (x7_2 < ((rd_L2 x4_3 x7_2).length : Int)) = true := decide_eq_true c39
           clear c39
           have H' := A_ H
           clear H
           have p118 : 0 ≤ (x7_2 : Int) := oD_
           have q118 : x7_2 < (x4_3.length : Int) := oD_
           obtain ⟨ad118, A118_0, c118_0, e118, hx118_0, hl118_0, hi118_0⟩ := at_L2 (Kd.S_reads' HO_4.out).2.2 x7_2 p118 q118
           obtain rfl : ad116 = ad118 := (by injection e118)
           obtain ⟨ce118, hce118, hMe118, hcc118⟩ := Kd.S_get HO_4.out [] x7_2 p118 (by exact q118)
           obtain ⟨ve118_0, rfl, ge118_0⟩ := hMe118
           have hv118_0 := hcc118 0 _ rfl
           rw [Nat.add_zero, show ((Kd.slice 3 (Kd.int .i64))).sz = 1 from rfl, Nat.mul_one] at hv118_0
           replace hv118_0 := Option.some.inj (hv118_0.symm.trans hx118_0)
           rw [hv118_0] at ge118_0
           have HL118_0 := A_ (show Kd.R (Kd.int .i64) 3 _ _ _ _ (rd_L2 x4_3 x7_2) from ge118_0)
           clear hv118_0 ge118_0
           have HX118_0 := A_ hx118_0
           clear hcc118 hce118
           have HR118_0 := A_ hi118_0
           have HC118_0 := A_ hl118_0
           clear hi118_0 hl118_0; replace p118 := eq_true p118; replace q118 := eq_true q118
           have p119 : 0 ≤ (x7_2 : Int) := oD_
           have q119 : x7_2 < ((rd_L2 x4_3 x7_2).length : Int) := oD_
           obtain ⟨ad119, e119, hx119_0⟩ := Kd.at_int HR118_0.out x7_2 p119 q119
           cases e119
           replace p119 := eq_true p119; replace q119 := eq_true q119
           go_wp2
           (try simp only [← hl4_3])
           go_roundg k3
           case measure => have := HK1.out; have := HK2.out; have := HK3.out; omega
           case rel => exact ⟨(x4_3), (rd (rd_L2 x4_3 x7_2) x7_2), (wrap64 (x7_2 + 1)), (by rfl), (by rfl), H', ⟨by have := HK1.out; have := HK2.out; have := HK3.out; omega⟩, ⟨by (try simp only [hl4_3]); exact HO_4.out⟩, ⟨by repeat ((with_reducible exact HB.out))⟩⟩
      ·rw [if_neg c14] at H
       have c14b0 : decide (x7_2 < (wrap64 ((l0.length : Int) - 1))) = false := decide_eq_false c14
       clear c14
       by_cases c40 : (l0.length : Int) = 0
       ·rw [if_pos c40] at H
        have c40b0 : ((l0.length : Int) == 0) = true := beq_iff_eq.mpr c40
        have c40b1 : ((l0.length : Int) != 0) = false := bne_eq_false_iff_eq.mpr c40
        clear c40
        obtain rfl := Option.some.inj H
        go_wp2
        go_ret
        exact ⟨by rfl, by repeat ((with_reducible exact HB.out))⟩
       ·rw [if_neg c40] at H
        have c40b0 : ((l0.length : Int) == 0) = false := beq_eq_false_iff_ne.mpr c40
        have c40b1 : ((l0.length : Int) != 0) = true := bne_iff_ne.mpr c40
        have c40b2 : ¬ (l0 = []) := fun h_ => c40 (by rw [h_]; rfl)
        obtain ⟨ji41, hji41⟩ : ∃ j_ : Int, (wrap64 ((l0.length : Int) - 1)) = j_ := ⟨_, rfl⟩
        replace H : (if 0 ≤ (ji41) then (if (ji41) < (x4_2.length : Int) then (if (ji41) < ((rd_L2 x4_2 (ji41)).length : Int) then (some (rd (rd_L2 x4_2 (ji41)) (ji41))) else (none)) else (none)) else (none)) = some r := by (rw [hji41] at H; exact H)
        (try rw [hji41] at c14b0)
        have hji41w : (IntKind.i64.wrap ((l0.length : Int) - 1)) = ji41 := (i64_w _).trans hji41
        replace H := iN_ H; obtain ⟨c42, H⟩ := H
        have c42b0 : decide (0 ≤ (ji41)) = true := decide_eq_true c42
        clear c42
        replace H := iN_ H; obtain ⟨c43, H⟩ := H
        have c43b0 : decide ((ji41) < (x4_2.length : Int)) = true := decide_eq_true c43
        clear c43
        replace H := iN_ H; obtain ⟨c44, H⟩ := H
        have c44b0 : decide ((ji41) < ((rd_L2 x4_2 (ji41)).length : Int)) = true := decide_eq_true c44
        clear c44
        obtain rfl := Option.some.inj H
        obtain ⟨Ao45, co45, eo45⟩ := Kd.S_slice HO_4.out
        subst eo45
        have p114 : 0 ≤ ((ji41) : Int) := oD_
        have q114 : (ji41) < (x4_2.length : Int) := oD_
        obtain ⟨ad114, A114_0, c114_0, e114, hx114_0, hl114_0, hi114_0⟩ := at_L2 (Kd.S_reads' HO_4.out).2.2 (ji41) p114 q114
        cases e114
        obtain ⟨ce114, hce114, hMe114, hcc114⟩ := Kd.S_get HO_4.out [] (ji41) p114 (by exact q114)
        obtain ⟨ve114_0, rfl, ge114_0⟩ := hMe114
        have hv114_0 := hcc114 0 _ rfl
        rw [Nat.add_zero, show ((Kd.slice 3 (Kd.int .i64))).sz = 1 from rfl, Nat.mul_one] at hv114_0
        replace hv114_0 := Option.some.inj (hv114_0.symm.trans hx114_0)
        rw [hv114_0] at ge114_0
        have HL114_0 := A_ (show Kd.R (Kd.int .i64) 3 _ _ _ _ (rd_L2 x4_2 (ji41)) from ge114_0)
        clear hv114_0 ge114_0
        have HX114_0 := A_ hx114_0
        clear hcc114 hce114
        have HR114_0 := A_ hi114_0
        have HC114_0 := A_ hl114_0
        clear hi114_0 hl114_0; replace p114 := eq_true p114; replace q114 := eq_true q114
        have p115 : 0 ≤ ((ji41) : Int) := oD_
        have q115 : (ji41) < ((rd_L2 x4_2 (ji41)).length : Int) := oD_
        obtain ⟨ad115, e115, hx115_0⟩ := Kd.at_int HR114_0.out (ji41) p115 q115
        cases e115
        replace p115 := eq_true p115; replace q115 := eq_true q115
        go_wp2
        go_ret
        exact ⟨by rfl, by repeat ((with_reducible exact HB.out))⟩

end Go.Proofs.Ytoohcdfokejkdaa.P
namespace Go.Proofs.Ytoohcdfokejkdaa.P
open Go.RowKit Go.Proofs.YtoohcdfokejkdaaW.PrintWords Go.Proofs.YtoohcdfokejkdaaW.PrintLast Go.Proofs.YtoohcdfokejkdaaW.PrintMore
attribute [local go_sem] max2_int min2_int max_two min_two max_three min_three max_four min_four   -- for this text's walks alone
set_option linter.unusedVariables false
set_option linter.unusedSimpArgs false

def spec_l12Tail.l0 : Nat → Int → List (List Int) → List (List Int) → Int → Option (Int)
 | 0, _, _, _, _ => none
 | k + 1, x8, x11, x16, x17 => if x17 < x8 then (if 0 ≤ x17 then (if x17 < (x11.length : Int) then (if 1 ≤ ((rd_L2 x11 x17).length : Int) then (if x16.length < 5864062014805 then (spec_l12Tail.l0 k x8 x11 (x16 ++ [((rd_L2 x11 x17).drop 1)]) (wrap64 (x17 + 1))) else (none)) else (none)) else (none)) else (none)) else ((spec_l11Trees.f k x16).bind fun t113 => (some t113))
def spec_l12Tail.f (k : Nat) (l0 : List (List Int)) (a1 : Int) : Option (Int) := spec_l12Tail.l0 k a1 l0 (([] : List (List Int))) 1
mutual
def spec_l12Trees.l0 : Nat → Int → List Int → List Int → Int → Int → Int → Int → Option (Int)
 | 0, _, _, _, _, _, _, _ => none
 | k + 1, x1, x2, x7, x8, x9, x102000, x102001 => if x9 < (x2.length : Int) then (if 0 ≤ x9 then (if x9 < (x7.length : Int) then (spec_l12Trees.l1 k x1 x2 (x7.set (x9 : Int).toNat (-1)) x8 x9 0 x102000 x102001) else (none)) else (none)) else (spec_l12Trees.l2 k x1 x7 x8 (([] : List (List Int))) 0 x102000 x102001)
def spec_l12Trees.l1 : Nat → Int → List Int → List Int → Int → Int → Int → Int → Int → Option (Int)
 | 0, _, _, _, _, _, _, _, _ => none
 | k + 1, x1, x2, x7, x8, x9, x10, x102000, x102001 => if x10 < x9 then (if 0 ≤ x10 then (if x10 < (x2.length : Int) then (if 0 ≤ x9 then (if x9 < (x2.length : Int) then (if (rd x2 x10) = (rd x2 x9) then (if x10 < (x7.length : Int) then (if x9 < (x7.length : Int) then (spec_l12Trees.l1 k x1 x2 (x7.set (x9 : Int).toNat (rd x7 x10)) x8 x9 (wrap64 (x10 + 1)) x102000 x102001) else (none)) else (none)) else (spec_l12Trees.l1 k x1 x2 x7 x8 x9 (wrap64 (x10 + 1)) x102000 x102001)) else (none)) else (none)) else (none)) else (none)) else (if 0 ≤ x9 then (if x9 < (x7.length : Int) then (if (rd x7 x9) < 0 then (spec_l12Trees.l0 k x1 x2 (x7.set (x9 : Int).toNat x8) (wrap64 (x8 + 1)) (wrap64 (x9 + 1)) x102000 x102001) else (spec_l12Trees.l0 k x1 x2 x7 x8 (wrap64 (x9 + 1)) x102000 x102001)) else (none)) else (none))
def spec_l12Trees.l2 : Nat → Int → List Int → Int → List (List Int) → Int → Int → Int → Option (Int)
 | 0, _, _, _, _, _, _, _ => none
 | k + 1, x1, x7, x8, x11, x12, x102000, x102001 => if x12 < x8 then (if 0 ≤ x8 then (if (x8 : Int).toNat ≤ 35184372088832 then (if x11.length < 5864062014805 then (spec_l12Trees.l2 k x1 x7 x8 (x11 ++ [(List.replicate (x8 : Int).toNat 0)]) (wrap64 (x12 + 1)) x102000 x102001) else (none)) else (none)) else (none)) else (spec_l12Trees.l3 k x1 x7 x8 x11 0 x102000 x102001)
def spec_l12Trees.l3 : Nat → Int → List Int → Int → List (List Int) → Int → Int → Int → Option (Int)
 | 0, _, _, _, _, _, _, _ => none
 | k + 1, x1, x7, x8, x11, x13, x102000, x102001 => (spec_CountGaps.f x102000 x102001).bind fun t121 => (if x13 < t121 then ((spec_EndsOf.f x102000 x102001 x13).bind fun bt123 => ((spec_l03Bit.f x1 x13).bind fun t125 => (if t125 = true then (spec_l12Trees.l3 k x1 x7 x8 x11 (wrap64 (x13 + 1)) x102000 x102001) else (if 0 ≤ bt123.1 then (if bt123.1 < (x7.length : Int) then (if 0 ≤ bt123.2 then (if bt123.2 < (x7.length : Int) then (if (rd x7 bt123.1) = (rd x7 bt123.2) then (spec_l12Trees.l3 k x1 x7 x8 x11 (wrap64 (x13 + 1)) x102000 x102001) else (if 0 ≤ (rd x7 bt123.1) then (if (rd x7 bt123.1) < (x11.length : Int) then (if (rd x7 bt123.1) < ((rd_L2 x11 (rd x7 bt123.1)).length : Int) then ((some (x11.set ((rd x7 bt123.1) : Int).toNat ((rd_L2 x11 (rd x7 bt123.1)).set ((rd x7 bt123.1) : Int).toNat (wrap64 ((rd (rd_L2 x11 (rd x7 bt123.1)) (rd x7 bt123.1)) + 1))) : List (List Int))).bind fun y137 => (if 0 ≤ (rd x7 bt123.2) then (if (rd x7 bt123.2) < (x11.length : Int) then (if (rd x7 bt123.2) < ((rd_L2 y137 (rd x7 bt123.2)).length : Int) then ((some (y137.set ((rd x7 bt123.2) : Int).toNat ((rd_L2 y137 (rd x7 bt123.2)).set ((rd x7 bt123.2) : Int).toNat (wrap64 ((rd (rd_L2 y137 (rd x7 bt123.2)) (rd x7 bt123.2)) + 1))) : List (List Int))).bind fun y147 => (if (rd x7 bt123.2) < ((rd_L2 y147 (rd x7 bt123.1)).length : Int) then ((some (y147.set ((rd x7 bt123.1) : Int).toNat ((rd_L2 y147 (rd x7 bt123.1)).set ((rd x7 bt123.2) : Int).toNat (wrap64 ((rd (rd_L2 y147 (rd x7 bt123.1)) (rd x7 bt123.2)) - 1))) : List (List Int))).bind fun y157 => (if (rd x7 bt123.1) < ((rd_L2 y157 (rd x7 bt123.2)).length : Int) then (spec_l12Trees.l3 k x1 x7 x8 (y157.set ((rd x7 bt123.2) : Int).toNat ((rd_L2 y157 (rd x7 bt123.2)).set ((rd x7 bt123.1) : Int).toNat (wrap64 ((rd (rd_L2 y157 (rd x7 bt123.2)) (rd x7 bt123.1)) - 1)))) (wrap64 (x13 + 1)) x102000 x102001) else (none))) else (none))) else (none)) else (none)) else (none))) else (none)) else (none)) else (none))) else (none)) else (none)) else (none)) else (none))))) else ((spec_l12Tail.f k x11 x8).bind fun t122 => (some t122)))
end
def spec_l12Trees.f (k : Nat) (a0_0 : Int) (a0_1 : Int) (a1 : Int) (l2 : List Int) : Option (Int) := if 0 ≤ (l2.length : Int) then (if ((l2.length : Int) : Int).toNat ≤ 35184372088832 then (spec_l12Trees.l0 k a1 l2 (List.replicate ((l2.length : Int) : Int).toNat 0) 0 0 a0_0 a0_1) else (none)) else (none)
def spec_l12Trees.T10 : Bool × List (List Nat × List Nat) := (true, [([], []), ([], []), ([0, 1], [0, 1]), ([2], [2]), ([], []), ([], []), ([4, 5], [4, 5]), ([6], [6]), ([3, 7], [3, 7])])
def spec_l12Trees.B10 : List Nat := [0, 0, 3, 7, 0, 0, 48, 112, 255]
theorem spec_l12Trees.tab10 : rtab .any (opsOf Try.f85 10) = spec_l12Trees.T10 := by kernel_rfl
theorem spec_l12Trees.bits10 : waitsOk spec_l12Trees.T10.2 spec_l12Trees.B10 = true := by kernel_rfl
def spec_l12Trees.T24 : Bool × List (List Nat × List Nat) := (true, [([], []), ([], []), ([0, 1], [0, 1]), ([2, 2], [2]), ([3], [3]), ([3], [3]), ([4, 5, 3], [3, 4, 5]), ([6, 3], [3, 6]), ([3], [3]), ([3], [3]), ([8, 9, 3], [3, 8, 9]), ([10, 3], [3, 10]), ([7, 11, 3], [3, 7, 11]), ([3, 12], [3, 12])])
def spec_l12Trees.B24 : List Nat := [0, 0, 3, 7, 15, 15, 63, 127, 15, 15, 783, 1807, 4095, 8191]
theorem spec_l12Trees.tab24 : rtab .any (opsOf Try.f85 24) = spec_l12Trees.T24 := by kernel_rfl
theorem spec_l12Trees.bits24 : waitsOk spec_l12Trees.T24.2 spec_l12Trees.B24 = true := by kernel_rfl
def spec_l12Trees.T25 : Bool × List (List Nat × List Nat) := (true, [([], []), ([], []), ([], []), ([1, 2], [1, 2]), ([3], [3]), ([0, 4], [0, 4]), ([5], [5]), ([], []), ([], []), ([7, 8], [7, 8]), ([9], [9]), ([], []), ([], []), ([], []), ([12, 13], [12, 13]), ([14], [14]), ([11, 15], [11, 15]), ([16], [16]), ([], []), ([], []), ([18, 19], [18, 19]), ([20], [20]), ([17, 21], [17, 21]), ([22], [22]), ([23], [23]), ([6, 10, 0, 1, 2, 3, 4, 5, 6, 7, 8, 9, 10, 11, 12, 13, 14, 15, 16, 17, 18, 19, 20, 21, 22, 23, 24], [6, 10]), ([25, 24, 0, 1, 2, 3, 4, 5, 6, 7, 8, 9, 10, 11, 12, 13, 14, 15, 16, 17, 18, 19, 20, 21, 22, 23, 24], [24, 25])])
def spec_l12Trees.B25 : List Nat := [0, 0, 0, 6, 14, 31, 63, 0, 0, 384, 896, 0, 0, 0, 12288, 28672, 63488, 129024, 0, 0, 786432, 1835008, 4192256, 8386560, 16775168, 33554431, 67108863]
theorem spec_l12Trees.tab25 : rtab .any (opsOf Try.f85 25) = spec_l12Trees.T25 := by kernel_rfl
theorem spec_l12Trees.bits25 : waitsOk spec_l12Trees.T25.2 spec_l12Trees.B25 = true := by kernel_rfl
def spec_l12Trees.T26 : Bool × List (List Nat × List Nat) := (true, [([], []), ([], []), ([], []), ([1, 2], [1, 2]), ([3], [3]), ([0, 4], [0, 4]), ([5], [5]), ([], []), ([], []), ([7, 8], [7, 8]), ([9], [9]), ([], []), ([], []), ([], []), ([12, 13], [12, 13]), ([14], [14]), ([11, 15], [11, 15]), ([16], [16]), ([], []), ([], []), ([18, 19], [18, 19]), ([20], [20]), ([17, 21], [17, 21]), ([22], [22]), ([23], [23]), ([6, 10, 0, 1, 2, 3, 4, 5, 6, 7, 8, 9, 10, 11, 12, 13, 14, 15, 16, 17, 18, 19, 20, 21, 22, 23, 24], [6, 10]), ([25, 24, 0, 1, 2, 3, 4, 5, 6, 7, 8, 9, 10, 11, 12, 13, 14, 15, 16, 17, 18, 19, 20, 21, 22, 23, 24], [24, 25])])
def spec_l12Trees.B26 : List Nat := [0, 0, 0, 6, 14, 31, 63, 0, 0, 384, 896, 0, 0, 0, 12288, 28672, 63488, 129024, 0, 0, 786432, 1835008, 4192256, 8386560, 16775168, 33554431, 67108863]
theorem spec_l12Trees.tab26 : rtab .any (opsOf Try.f85 26) = spec_l12Trees.T26 := by kernel_rfl
theorem spec_l12Trees.bits26 : waitsOk spec_l12Trees.T26.2 spec_l12Trees.B26 = true := by kernel_rfl
def spec_l12Trees.T27 : Bool × List (List Nat × List Nat) := (true, [([], []), ([], []), ([], []), ([1, 2], [1, 2]), ([3], [3]), ([0, 4], [0, 4]), ([5], [5]), ([], []), ([], []), ([7, 8], [7, 8]), ([9], [9]), ([], []), ([], []), ([], []), ([12, 13], [12, 13]), ([14], [14]), ([11, 15], [11, 15]), ([16], [16]), ([], []), ([], []), ([18, 19], [18, 19]), ([20], [20]), ([17, 21], [17, 21]), ([22], [22]), ([23], [23]), ([6, 10, 0, 1, 2, 3, 4, 5, 6, 7, 8, 9, 10, 11, 12, 13, 14, 15, 16, 17, 18, 19, 20, 21, 22, 23, 24], [6, 10]), ([25, 24, 0, 1, 2, 3, 4, 5, 6, 7, 8, 9, 10, 11, 12, 13, 14, 15, 16, 17, 18, 19, 20, 21, 22, 23, 24], [24, 25])])
def spec_l12Trees.B27 : List Nat := [0, 0, 0, 6, 14, 31, 63, 0, 0, 384, 896, 0, 0, 0, 12288, 28672, 63488, 129024, 0, 0, 786432, 1835008, 4192256, 8386560, 16775168, 33554431, 67108863]
theorem spec_l12Trees.tab27 : rtab .any (opsOf Try.f85 27) = spec_l12Trees.T27 := by kernel_rfl
theorem spec_l12Trees.bits27 : waitsOk spec_l12Trees.T27.2 spec_l12Trees.B27 = true := by kernel_rfl
def spec_l12Trees.T28 : Bool × List (List Nat × List Nat) := (true, [([], []), ([], []), ([], []), ([1, 2], [1, 2]), ([3], [3]), ([0, 4], [0, 4]), ([5], [5]), ([], []), ([], []), ([7, 8], [7, 8]), ([9], [9]), ([], []), ([], []), ([], []), ([12, 13], [12, 13]), ([14], [14]), ([11, 15], [11, 15]), ([16], [16]), ([], []), ([], []), ([18, 19], [18, 19]), ([20], [20]), ([17, 21], [17, 21]), ([22], [22]), ([23], [23]), ([6, 10, 0, 1, 2, 3, 4, 5, 6, 7, 8, 9, 10, 11, 12, 13, 14, 15, 16, 17, 18, 19, 20, 21, 22, 23, 24], [6, 10]), ([25, 24, 0, 1, 2, 3, 4, 5, 6, 7, 8, 9, 10, 11, 12, 13, 14, 15, 16, 17, 18, 19, 20, 21, 22, 23, 24], [24, 25])])
def spec_l12Trees.B28 : List Nat := [0, 0, 0, 6, 14, 31, 63, 0, 0, 384, 896, 0, 0, 0, 12288, 28672, 63488, 129024, 0, 0, 786432, 1835008, 4192256, 8386560, 16775168, 33554431, 67108863]
theorem spec_l12Trees.tab28 : rtab .any (opsOf Try.f85 28) = spec_l12Trees.T28 := by kernel_rfl
theorem spec_l12Trees.bits28 : waitsOk spec_l12Trees.T28.2 spec_l12Trees.B28 = true := by kernel_rfl
set_option maxHeartbeats 8000000 in
set_option maxRecDepth 100000 in
theorem spec_l12Trees.calls (k : Nat) (a0_0 : Int) (a0_1 : Int) (a1 : Int) (A2 : Option Addr) (c2 : Nat) (l2 : List Int) (r : Int) (w : World) (hr2 : Kd.C (Kd.int .i64) w A2 l2.length l2) (hc2 : l2.length ≤ c2) (h : spec_l12Trees.f k a0_0 a0_1 a1 l2 = some r) :
  Calls Try.prog 85 #[.agg #[.int .i64 a0_0, .int .i64 a0_1], .int .i64 a1, .slice A2 l2.length c2] w fun e w' => e = .returned (.int .i64 r) ∧ Below w.heap.size w w' := by
 have hu40 := Try.underlying40
 have HR2 := A_ hr2
 have HC2 := A_ hc2
 clear hr2 hc2
 have HB := A_ (Below.refl w.heap.size w)
 have H : (if 0 ≤ (l2.length : Int) then (if ((l2.length : Int) : Int).toNat ≤ 35184372088832 then (spec_l12Trees.l0 k a1 l2 (List.replicate ((l2.length : Int) : Int).toNat 0) 0 0 a0_0 a0_1) else (none)) else (none)) = some r := h
 clear h
 replace H := iN_ H; obtain ⟨c4, H⟩ := H
 have c4b0 := eq_true c4
 have c4b1 : decide (0 ≤ (l2.length : Int)) = true := decide_eq_true c4
 clear c4
 replace H := iN_ H; obtain ⟨c5, H⟩ := H
 have c5b0 := eq_true c5
 have c5b1 : decide (((l2.length : Int) : Int).toNat ≤ 35184372088832) = true := decide_eq_true c5
 clear c5
 obtain ⟨y102, hy102⟩ : ∃ y_ : List Int, y_ = (List.replicate ((l2.length : Int) : Int).toNat 0) := ⟨_, rfl⟩
 replace H : (spec_l12Trees.l0 k a1 l2 y102 0 0 a0_0 a0_1) = some r := by (rw [hy102]; with_reducible exact H)
 have Ny102 := A_ hy102
 clear hy102
 have H' := A_ H
 clear H
 go_enter Try.func85, Try.ntmps85
 go_wp2_with (first | ((with_reducible refine gate_dst (N := 3) rfl ?_); refine be_ 3 #[.int .i64 a0_0, .int .i64 a0_1] 40 ?_; intro gb101 hg w6 hbox hb; have n0_ := A_ (bs_ HB.1 hb); have n1_ := A_ (hbox); have n2_ := A_ (bS_ HB.out hg); have n3_ := A_ (bS_ HB.out hg); clear HB; have HB := n0_; have BK101 := n1_; have GW101 := n2_; have GE101 := n3_; clear n0_ n1_ n2_ n3_ hb hbox hg) | ((with_reducible refine gate_dst (N := 20) rfl ?_); refine Kd.R_make (Kd.int .i64) _ 3 rfl (N := 20) rfl 29 _ _ rfl (l2.length : Int) rfl rfl Try.underlying29 (.int .i64 0) 8 info3 rfl (by decide) (by omega) 0 (ok := fun _ => True) (okp := fun _ => True) rfl (fun _ hk => hk) trivial (oD_) (Nat.le_trans (Nat.mul_le_mul_right _ (oD_ : (l2.length : Int).toNat ≤ 35184372088832)) (by omega)) (Below.refl _ _) (Nat.le_refl _) ?_; intro v103 w7 ho8 hb hg_ hnew_; clear hg_ hnew_; (rw [← Ny102.out] at ho8); have n0_ := A_ (Kd.R_lower ho8 (below_size HB.out)); have n1_ := A_ (blk_below BK101.out hb); have n2_ := A_ (bs_ HB.1 hb); clear BK101 HB; have HO104 := n0_; have BK101 := n1_; have HB := n2_; clear n0_ n1_ n2_ hb ho8))
 go_loopg [8, 9] k (fun kq v8 v9 w' => ∃ (x7_1 : List Int) (x8_1 : Int) (x9_1 : Int), v8 = .int .i64 x8_1 ∧ v9 = .int .i64 x9_1 ∧ Aside0 (spec_l12Trees.l0 kq a1 l2 x7_1 x8_1 x9_1 a0_0 a0_1 = some r) ∧ Aside0 (kq ≤ k) ∧ Aside0 (Kd.R (Kd.int .i64) 3 w' w.heap.size (fun _ => True) v103 x7_1) ∧ Aside0 (w'.heap[gb101]? = some (.cells #[.int .i64 a0_0, .int .i64 a0_1] 40 (0, 0))) ∧ Aside0 (Below w.heap.size w w'))
 case atStart => exact ⟨(y102), (0), (0), (by rfl), (by rfl), H', ⟨Nat.le_refl _⟩, ⟨by exact HO104.out⟩, ⟨by exact BK101.out⟩, ⟨by repeat ((with_reducible exact HB.out))⟩⟩
 case round =>
  clear H'; try clear c2; try clear p2; try clear c4; try clear c4b0; try clear c4b1; try clear c5; try clear c5b0; try clear c5b1; try clear c8
  obtain ⟨x7_1, x8_1, x9_1, rfl, rfl, HA, HK1, HO_7, BK101, HB⟩ := hrel
  cases gk with
  | zero => exact absurd HA.out (by simp [spec_l12Trees.l0])
  | succ k1 =>
   have H := HA.out
   clear HA
   simp only [spec_l12Trees.l0] at H
   by_cases c9 : x9_1 < (l2.length : Int)
   ·rw [if_pos c9] at H
    have c9b0 : decide (x9_1 < (l2.length : Int)) = true := decide_eq_true c9
    clear c9
    replace H := iN_ H; obtain ⟨c10, H⟩ := H
    have c10b0 : decide (0 ≤ x9_1) = true := decide_eq_true c10
    clear c10
    replace H := iN_ H; obtain ⟨c11, H⟩ := H
    have c11b0 : decide (x9_1 < (x7_1.length : Int)) = true := decide_eq_true c11
    clear c11
    obtain ⟨y105, hy105⟩ : ∃ y_ : List Int, y_ = (x7_1.set (x9_1 : Int).toNat (-1)) := ⟨_, rfl⟩
    replace H : (spec_l12Trees.l1 k1 a1 l2 y105 x8_1 x9_1 0 a0_0 a0_1) = some r := by (rw [hy105]; with_reducible exact H)
    have Ny105 := A_ hy105
    clear hy105
    have H' := A_ H
    clear H
    have p12 : 0 ≤ (x9_1 : Int) := oD_
    have q12 : (x9_1 : Int) < ((x7_1.length : Int) : Int) := oD_
    obtain ⟨go12, co12, eo12, gb12, gl12, cl12, HG12⟩ := Kd.R_form HO_7.out (by omega)
    (cases eo12)
    have GB12 := A_ gb12
    have GG12 := A_ HG12
    clear gb12 gl12 HG12
    obtain ⟨hx12_0, hf12_0⟩ := Kd.R_celln 0 HO_7.out (x9_1 : Int) p12 q12
    replace p12 := eq_true p12; replace q12 := eq_true q12
    have HP13 := Kd.R_putg HO_7.out (x9_1 : Int) (-1)
    go_wp2_with (((with_reducible refine gate_store (t := 3) (p := 29) rfl ?_); refine store_event (t := 3) (p := 29) (v := ?vo_w14) (w1 := (wr.setCell ⟨go12, (x9_1 : Int).toNat, none⟩ (.int .i64 (-1)))) ?hg ?ho ?hn ?hr ?_; (case ho => rfl); (case hg => rfl); (case hn => rfl); (case hr => (go_simp; done)); intro w14 hw; have hg : wr.grownBy w14 (some go12) := (by rw [hw]; exact HP13.2); have hp_ : Kd.R (Kd.int .i64) 3 w14 w.heap.size (fun _ => True) (.slice (some ⟨go12, 0, none⟩) x7_1.length co12) y105 := (by rw [hw, Ny105.out]; exact HP13.1); clear HP13; have n0_ := A_ (hp_); have n1_ := A_ (blk_grown (g := gb101) (o := .cells #[.int .i64 a0_0, .int .i64 a0_1] 40 (0, 0)) BK101.out hg (Kd.R_ne HO_7.out BK101.out (by decide))); have n2_ := A_ ((by rw [hw]; exact below_set (HB.out) GB12.out : Below w.heap.size w w14)); clear HO_7 BK101 HB; have HO_7 := n0_; have BK101 := n1_; have HB := n2_; clear n0_ n1_ n2_ hg hw hp_))
    go_loopg [10] k1 (fun kq v10 w' => ∃ (x7_2 : List Int) (x10_2 : Int), v10 = .int .i64 x10_2 ∧ Aside0 (spec_l12Trees.l1 kq a1 l2 x7_2 x8_1 x9_1 x10_2 a0_0 a0_1 = some r) ∧ Aside0 (kq ≤ k1) ∧ Aside0 (Kd.R (Kd.int .i64) 3 w' w.heap.size (fun _ => True) (.slice (some ⟨go12, 0, none⟩) x7_1.length co12) x7_2) ∧ Aside0 (w'.heap[gb101]? = some (.cells #[.int .i64 a0_0, .int .i64 a0_1] 40 (0, 0))) ∧ Aside0 (Below w.heap.size w w'))
    case atStart => exact ⟨(y105), (0), (by rfl), H', ⟨Nat.le_refl _⟩, ⟨by exact HO_7.out⟩, ⟨by exact BK101.out⟩, ⟨by repeat ((with_reducible exact HB.out))⟩⟩
    case round =>
     clear H'; try clear c1; try clear p1; try clear q1; try clear hx1; try clear c2; try clear p2; try clear c4; try clear c4b0; try clear c4b1; try clear c5; try clear c5b0; try clear c5b1; try clear c8; try clear c9; try clear c9b0; try clear c10; try clear c10b0; try clear c11; try clear c11b0; try clear p12; try clear q12; try clear hx12; try clear hf12; try clear hx12_0; try clear p12; try clear p2; try clear q12
     obtain ⟨x7_2, x10_2, rfl, HA, HK2, HO_7, BK101, HB⟩ := hrel
     have hl7_2 := (Kd.R_reads' HO_7.out).1
     rw [hl7_2] at HO_7
     (try simp only [hl7_2])
     (try simp only [hl7_2] at BK101)
     cases gk with
     | zero => exact absurd HA.out (by simp [spec_l12Trees.l1])
     | succ k2 =>
      have H := HA.out
      clear HA
      simp only [spec_l12Trees.l1] at H
      by_cases c15 : x10_2 < x9_1
      ·rw [if_pos c15] at H
       have c15b0 : decide (x10_2 < x9_1) = true := decide_eq_true c15
       clear c15
       replace H := iN_ H; obtain ⟨c16, H⟩ := H
       have c16b0 : decide (0 ≤ x10_2) = true := decide_eq_true c16
       clear c16
       replace H := iN_ H; obtain ⟨c17, H⟩ := H
       have c17b0 : decide (x10_2 < (l2.length : Int)) = true := decide_eq_true c17
       clear c17
       replace H := iN_ H; obtain ⟨c18, H⟩ := H
       have c18b0 : decide (0 ≤ x9_1) = true := decide_eq_true c18
       clear c18
       replace H := iN_ H; obtain ⟨c19, H⟩ := H
       have c19b0 : decide (x9_1 < (l2.length : Int)) = true := decide_eq_true c19
       clear c19
       by_cases c20 : (rd l2 x10_2) = (rd l2 x9_1)
       ·rw [if_pos c20] at H
        have c20b0 : ((rd l2 x10_2) == (rd l2 x9_1)) = true := beq_iff_eq.mpr c20
        have c20b1 : ((rd l2 x10_2) != (rd l2 x9_1)) = false := bne_eq_false_iff_eq.mpr c20
        clear c20
        replace H := iN_ H; obtain ⟨c21, H⟩ := H
        have c21b0 : decide (x10_2 < (x7_2.length : Int)) = true := decide_eq_true c21
        clear c21
        replace H := iN_ H; obtain ⟨c22, H⟩ := H
        have c22b0 : decide (x9_1 < (x7_2.length : Int)) = true := decide_eq_true c22
        clear c22
        obtain ⟨y109, hy109⟩ : ∃ y_ : List Int, y_ = (x7_2.set (x9_1 : Int).toNat (rd x7_2 x10_2)) := ⟨_, rfl⟩
        replace H : (spec_l12Trees.l1 k2 a1 l2 y109 x8_1 x9_1 (wrap64 (x10_2 + 1)) a0_0 a0_1) = some r := by (rw [hy109]; with_reducible exact H)
        have Ny109 := A_ hy109
        clear hy109
        have H' := A_ H
        clear H
        try go_wp2
        have n0_ := A_ (Kd.R_drew HO_7.out)
        have n1_ := A_ (blk_drew BK101.out); have n2_ := A_ (below_drew1 HB.out); clear HO_7 BK101 HB; have HO_7 := n0_; have BK101 := n1_; have HB := n2_; clear n0_ n1_ n2_
        have p106 : 0 ≤ (x10_2 : Int) := oD_
        have q106 : x10_2 < (l2.length : Int) := oD_
        obtain ⟨ad106, e106, hx106_0⟩ := Kd.at_int HR2.out x10_2 p106 q106
        have hw106_0 := hx106_0
        cases e106
        replace hx106_0 := (HB.out.cell (World.block_lt_of_cell? w _ hx106_0)).trans hx106_0
        replace p106 := eq_true p106; replace q106 := eq_true q106
        have p107 : 0 ≤ (x9_1 : Int) := oD_
        have q107 : x9_1 < (l2.length : Int) := oD_
        obtain ⟨ad107, e107, hx107_0⟩ := Kd.at_int HR2.out x9_1 p107 q107
        have hw107_0 := hx107_0
        obtain rfl : ad106 = ad107 := (by injection e107)
        replace hx107_0 := (HB.out.cell (World.block_lt_of_cell? w _ hx107_0)).trans hx107_0
        replace p107 := eq_true p107; replace q107 := eq_true q107
        refine start_ (n := 9) (S := fun w' => w'.cell? (ad106.add (x10_2).toNat) = some (.int .i64 (rd l2 x10_2)) ∧ w'.cell? (ad106.add (x9_1).toNat) = some (.int .i64 (rd l2 x9_1))) (ds := []) #[false, false, false, false, false, false, false, false, false] (by kernel_rfl) rfl rfl ⟨((HB.out.cell (World.block_lt_of_cell? w _ hw106_0)).trans hw106_0), ((HB.out.cell (World.block_lt_of_cell? w _ hw107_0)).trans hw107_0)⟩ (fun hHeld => ?_); refine with_tabW spec_l12Trees.tab10 spec_l12Trees.bits10 (fun HT_ HW_ => ?_)
        generalize wr.drew = w24 at HO_7 BK101 HB hx106_0 hx107_0 hHeld ⊢
        refine pv_ 0 35 HT_ ?_; refine pv_ 1 36 HT_ ?_; refine pv_ 2 37 HT_ ?_; refine pv_ 4 39 HT_ ?_; refine pv_ 5 40 HT_ ?_; refine pv_ 6 41 HT_ ?_; refine tv_ 3 38 rfl HT_ HW_ hHeld (by rintro w' ⟨s0, s1⟩; go_simp; with_reducible rfl) ?_
        refine tv_ 7 42 rfl HT_ HW_ hHeld (by rintro w' ⟨s0, s1⟩; go_simp; with_reducible rfl) ?_
        refine pv_ 8 43 HT_ ?_
        refine done_ (done_of HT_.out (by kernel_rfl)) ?_
        have p108 : 0 ≤ (x10_2 : Int) := oD_
        have q108 : x10_2 < (x7_2.length : Int) := oD_
        obtain ⟨ad108, e108, hx108_0⟩ := Kd.at_int (Kd.R_reads' HO_7.out).2.2 x10_2 p108 q108
        obtain rfl : (⟨go12, 0, none⟩ : Addr) = ad108 := (by injection e108)
        (simp only [add_plain] at hx108_0)
        replace p108 := eq_true p108; replace q108 := eq_true q108
        have p23 : 0 ≤ (x9_1 : Int) := oD_
        have q23 : (x9_1 : Int) < ((x7_2.length : Int) : Int) := oD_
        obtain ⟨hx23_0, hf23_0⟩ := Kd.R_celln 0 HO_7.out (x9_1 : Int) p23 q23
        replace p23 := eq_true p23; replace q23 := eq_true q23
        obtain ⟨hy25_, hz25_⟩ := Kd.R_celln 0 HO_7.out (x9_1 : Int) (oD_) (oD_)
        have HP25 := Kd.R_putg HO_7.out (x9_1 : Int) (rd x7_2 x10_2)
        try go_wp2_with (((with_reducible refine gate_store (t := 3) (p := 50) rfl ?_); refine store_event (t := 3) (p := 50) (v := ?vo_w26) (w1 := (w24.setCell ⟨go12, (x9_1 : Int).toNat, none⟩ (.int .i64 (rd x7_2 x10_2)))) ?hg ?ho ?hn ?hr ?_; (case ho => rfl); (case hg => rfl); (case hn => rfl); (case hr => (go_simp; done)); intro w26 hw; have hg : w24.grownBy w26 (some go12) := (by rw [hw]; exact HP25.2); have hp_ : Kd.R (Kd.int .i64) 3 w26 w.heap.size (fun _ => True) (.slice (some ⟨go12, 0, none⟩) x7_2.length co12) y109 := (by rw [hw, Ny109.out]; exact HP25.1); clear HP25; have n0_ := A_ (hp_); have n1_ := A_ (blk_grown (g := gb101) (o := .cells #[.int .i64 a0_0, .int .i64 a0_1] 40 (0, 0)) BK101.out hg (Kd.R_ne HO_7.out BK101.out (by decide))); have n2_ := A_ ((by rw [hw]; exact below_set (HB.out) GB12.out : Below w.heap.size w w26)); clear HO_7 BK101 HB; have HO_7 := n0_; have BK101 := n1_; have HB := n2_; clear n0_ n1_ n2_ hg hw hp_))
        (try simp only [← hl7_2])
        go_roundg k2
        case measure => have := HK1.out; have := HK2.out; omega
        case rel => exact ⟨(y109), (wrap64 (x10_2 + 1)), (by rfl), H', ⟨by have := HK1.out; have := HK2.out; omega⟩, ⟨by (try simp only [hl7_2]); exact HO_7.out⟩, ⟨by (try simp only [hl7_2]); exact BK101.out⟩, ⟨by repeat ((with_reducible exact HB.out))⟩⟩
       ·rw [if_neg c20] at H
        have c20b0 : ((rd l2 x10_2) == (rd l2 x9_1)) = false := beq_eq_false_iff_ne.mpr c20
        have c20b1 : ((rd l2 x10_2) != (rd l2 x9_1)) = true := bne_iff_ne.mpr c20
        have H' := A_ H
        clear H
        try go_wp2
        have n0_ := A_ (Kd.R_drew HO_7.out)
        have n1_ := A_ (blk_drew BK101.out); have n2_ := A_ (below_drew1 HB.out); clear HO_7 BK101 HB; have HO_7 := n0_; have BK101 := n1_; have HB := n2_; clear n0_ n1_ n2_
        have p106 : 0 ≤ (x10_2 : Int) := oD_
        have q106 : x10_2 < (l2.length : Int) := oD_
        obtain ⟨ad106, e106, hx106_0⟩ := Kd.at_int HR2.out x10_2 p106 q106
        have hw106_0 := hx106_0
        cases e106
        replace hx106_0 := (HB.out.cell (World.block_lt_of_cell? w _ hx106_0)).trans hx106_0
        replace p106 := eq_true p106; replace q106 := eq_true q106
        have p107 : 0 ≤ (x9_1 : Int) := oD_
        have q107 : x9_1 < (l2.length : Int) := oD_
        obtain ⟨ad107, e107, hx107_0⟩ := Kd.at_int HR2.out x9_1 p107 q107
        have hw107_0 := hx107_0
        obtain rfl : ad106 = ad107 := (by injection e107)
        replace hx107_0 := (HB.out.cell (World.block_lt_of_cell? w _ hx107_0)).trans hx107_0
        replace p107 := eq_true p107; replace q107 := eq_true q107
        refine start_ (n := 9) (S := fun w' => w'.cell? (ad106.add (x10_2).toNat) = some (.int .i64 (rd l2 x10_2)) ∧ w'.cell? (ad106.add (x9_1).toNat) = some (.int .i64 (rd l2 x9_1))) (ds := []) #[false, false, false, false, false, false, false, false, false] (by kernel_rfl) rfl rfl ⟨((HB.out.cell (World.block_lt_of_cell? w _ hw106_0)).trans hw106_0), ((HB.out.cell (World.block_lt_of_cell? w _ hw107_0)).trans hw107_0)⟩ (fun hHeld => ?_); refine with_tabW spec_l12Trees.tab10 spec_l12Trees.bits10 (fun HT_ HW_ => ?_)
        generalize wr.drew = w27 at HO_7 BK101 HB hx106_0 hx107_0 hHeld ⊢
        refine pv_ 0 35 HT_ ?_; refine pv_ 1 36 HT_ ?_; refine pv_ 2 37 HT_ ?_; refine pv_ 4 39 HT_ ?_; refine pv_ 5 40 HT_ ?_; refine pv_ 6 41 HT_ ?_; refine tv_ 3 38 rfl HT_ HW_ hHeld (by rintro w' ⟨s0, s1⟩; go_simp; with_reducible rfl) ?_
        refine tv_ 7 42 rfl HT_ HW_ hHeld (by rintro w' ⟨s0, s1⟩; go_simp; with_reducible rfl) ?_
        refine pv_ 8 43 HT_ ?_
        refine done_ (done_of HT_.out (by kernel_rfl)) ?_
        try go_wp2
        (try simp only [← hl7_2])
        go_roundg k2
        case measure => have := HK1.out; have := HK2.out; omega
        case rel => exact ⟨(x7_2), (wrap64 (x10_2 + 1)), (by rfl), H', ⟨by have := HK1.out; have := HK2.out; omega⟩, ⟨by (try simp only [hl7_2]); exact HO_7.out⟩, ⟨by (try simp only [hl7_2]); exact BK101.out⟩, ⟨by repeat ((with_reducible exact HB.out))⟩⟩
      ·rw [if_neg c15] at H
       have c15b0 : decide (x10_2 < x9_1) = false := decide_eq_false c15
       clear c15
       replace H := iN_ H; obtain ⟨c28, H⟩ := H
       have c28b0 : decide (0 ≤ x9_1) = true := decide_eq_true c28
       clear c28
       replace H := iN_ H; obtain ⟨c29, H⟩ := H
       have c29b0 : decide (x9_1 < (x7_2.length : Int)) = true := decide_eq_true c29
       clear c29
       by_cases c30 : (rd x7_2 x9_1) < 0
       ·rw [if_pos c30] at H
        have c30b0 : decide ((rd x7_2 x9_1) < 0) = true := decide_eq_true c30
        clear c30
        obtain ⟨y111, hy111⟩ : ∃ y_ : List Int, y_ = (x7_2.set (x9_1 : Int).toNat x8_1) := ⟨_, rfl⟩
        replace H : (spec_l12Trees.l0 k2 a1 l2 y111 (wrap64 (x8_1 + 1)) (wrap64 (x9_1 + 1)) a0_0 a0_1) = some r := by (rw [hy111]; with_reducible exact H)
        have Ny111 := A_ hy111
        clear hy111
        have H' := A_ H
        clear H
        have p110 : 0 ≤ (x9_1 : Int) := oD_
        have q110 : x9_1 < (x7_2.length : Int) := oD_
        obtain ⟨ad110, e110, hx110_0⟩ := Kd.at_int (Kd.R_reads' HO_7.out).2.2 x9_1 p110 q110
        obtain rfl : (⟨go12, 0, none⟩ : Addr) = ad110 := (by injection e110)
        (simp only [add_plain] at hx110_0)
        replace p110 := eq_true p110; replace q110 := eq_true q110
        have p31 : 0 ≤ (x9_1 : Int) := oD_
        have q31 : (x9_1 : Int) < ((x7_2.length : Int) : Int) := oD_
        obtain ⟨hx31_0, hf31_0⟩ := Kd.R_celln 0 HO_7.out (x9_1 : Int) p31 q31
        replace p31 := eq_true p31; replace q31 := eq_true q31
        have HP32 := Kd.R_putg HO_7.out (x9_1 : Int) x8_1
        go_wp2_with (((with_reducible refine gate_store (t := 3) (p := 59) rfl ?_); refine store_event (t := 3) (p := 59) (v := ?vo_w33) (w1 := (wr.setCell ⟨go12, (x9_1 : Int).toNat, none⟩ (.int .i64 x8_1))) ?hg ?ho ?hn ?hr ?_; (case ho => rfl); (case hg => rfl); (case hn => rfl); (case hr => (go_simp; done)); intro w33 hw; have hg : wr.grownBy w33 (some go12) := (by rw [hw]; exact HP32.2); have hp_ : Kd.R (Kd.int .i64) 3 w33 w.heap.size (fun _ => True) (.slice (some ⟨go12, 0, none⟩) x7_2.length co12) y111 := (by rw [hw, Ny111.out]; exact HP32.1); clear HP32; have n0_ := A_ (hp_); have n1_ := A_ (blk_grown (g := gb101) (o := .cells #[.int .i64 a0_0, .int .i64 a0_1] 40 (0, 0)) BK101.out hg (Kd.R_ne HO_7.out BK101.out (by decide))); have n2_ := A_ ((by rw [hw]; exact below_set (HB.out) GB12.out : Below w.heap.size w w33)); clear HO_7 BK101 HB; have HO_7 := n0_; have BK101 := n1_; have HB := n2_; clear n0_ n1_ n2_ hg hw hp_))
        (try simp only [← hl7_2])
        go_roundg k2
        case measure => have := HK1.out; have := HK2.out; omega
        case rel => exact ⟨(y111), (wrap64 (x8_1 + 1)), (wrap64 (x9_1 + 1)), (by rfl), (by rfl), H', ⟨by have := HK1.out; have := HK2.out; omega⟩, ⟨by (try simp only [hl7_2]); exact HO_7.out⟩, ⟨by (try simp only [hl7_2]); exact BK101.out⟩, ⟨by repeat ((with_reducible exact HB.out))⟩⟩
       ·rw [if_neg c30] at H
        have c30b0 : decide ((rd x7_2 x9_1) < 0) = false := decide_eq_false c30
        clear c30
        have H' := A_ H
        clear H
        have p110 : 0 ≤ (x9_1 : Int) := oD_
        have q110 : x9_1 < (x7_2.length : Int) := oD_
        obtain ⟨ad110, e110, hx110_0⟩ := Kd.at_int (Kd.R_reads' HO_7.out).2.2 x9_1 p110 q110
        obtain rfl : (⟨go12, 0, none⟩ : Addr) = ad110 := (by injection e110)
        (simp only [add_plain] at hx110_0)
        replace p110 := eq_true p110; replace q110 := eq_true q110
        go_wp2
        (try simp only [← hl7_2])
        go_roundg k2
        case measure => have := HK1.out; have := HK2.out; omega
        case rel => exact ⟨(x7_2), (x8_1), (wrap64 (x9_1 + 1)), (by rfl), (by rfl), H', ⟨by have := HK1.out; have := HK2.out; omega⟩, ⟨by (try simp only [hl7_2]); exact HO_7.out⟩, ⟨by (try simp only [hl7_2]); exact BK101.out⟩, ⟨by repeat ((with_reducible exact HB.out))⟩⟩
   ·rw [if_neg c9] at H
    have c9b0 : decide (x9_1 < (l2.length : Int)) = false := decide_eq_false c9
    clear c9
    obtain ⟨y112, hy112⟩ : ∃ y_ : List (List Int), y_ = (([] : List (List Int))) := ⟨_, rfl⟩
    replace H : (spec_l12Trees.l2 k1 a1 x7_1 x8_1 y112 0 a0_0 a0_1) = some r := by (rw [hy112]; with_reducible exact H)
    have Ny112 := A_ hy112
    clear hy112
    have H' := A_ H
    clear H
    go_wp2_with (((with_reducible refine gate_dst (N := 62) rfl ?_); refine Kd.S_lit (Kd.slice 3 (Kd.int .i64)) _ 29 ?hg (N := 62) ?hd (xs := ([] : List (List Int))) (inner := []) (ok := fun _ => True) (okp := fun _ => True) ?hr ?hp (fun _ hk => hk) trivial (Below.refl _ _) (Nat.le_refl _) (by simp) ?_; (case hd => rfl); (case hg => rfl); (case hr => (go_simp; done)); (case hp => exact (Reps.none _ _)); intro v113 w34 ho35 hb hg_ hnew_; clear hg_ hnew_; (rw [← Ny112.out] at ho35); have n0_ := A_ (Kd.R_below HO_7.out hb); have n1_ := A_ (Kd.S_lower (Kd.S_new' ho35 (Kd.R_lt HO_7.out)) (below_size HB.out)); have n2_ := A_ (blk_below BK101.out hb); have n3_ := A_ (bs_ HB.1 hb); clear HO_7 BK101 HB; have HO_7 := n0_; have HO114 := n1_; have BK101 := n2_; have HB := n3_; clear n0_ n1_ n2_ n3_ hb ho35))
    go_loopg [11, 12] k1 (fun kq v11 v12 w' => ∃ (x11_2 : List (List Int)) (x12_2 : Int), v12 = .int .i64 x12_2 ∧ Aside0 (spec_l12Trees.l2 kq a1 x7_1 x8_1 x11_2 x12_2 a0_0 a0_1 = some r) ∧ Aside0 (kq ≤ k1) ∧ Aside0 (Kd.R (Kd.int .i64) 3 w' w.heap.size (fun _ => True) v103 x7_1) ∧ Aside0 (Kd.S (Kd.slice 3 (Kd.int .i64)) 29 w' w.heap.size (fun k_ => some k_ ≠ (v103 : Value).ownBlock) v11 x11_2) ∧ Aside0 (w'.heap[gb101]? = some (.cells #[.int .i64 a0_0, .int .i64 a0_1] 40 (0, 0))) ∧ Aside0 (Below w.heap.size w w'))
    case atStart => exact ⟨(y112), (0), (by rfl), H', ⟨Nat.le_refl _⟩, ⟨by exact HO_7.out⟩, ⟨by exact Kd.S_mono HO114.out (fun _ hk => hk.2)⟩, ⟨by exact BK101.out⟩, ⟨by repeat ((with_reducible exact HB.out))⟩⟩
    case round =>
     clear H'; try clear c1; try clear p1; try clear q1; try clear hx1; try clear c2; try clear p2; try clear q2; try clear hx2; try clear c3; try clear p3; try clear q3; try clear hx3; try clear hf3; try clear c4; try clear c4b0; try clear c4b1; try clear c5; try clear c5b0; try clear c5b1; try clear p6; try clear c8; try clear c9; try clear c9b0; try clear c10; try clear c10b0; try clear p10; try clear q10; try clear hx10; try clear c11; try clear c11b0; try clear p11; try clear q11; try clear hx11; try clear p12; try clear q12; try clear hx12; try clear hf12; try clear c15; try clear c15b0; try clear c16; try clear c16b0; try clear c17; try clear c17b0; try clear c18; try clear c18b0; try clear c19; try clear c19b0; try clear c20; try clear c20b0; try clear c20b1; try clear c21; try clear c21b0; try clear c22; try clear c22b0; try clear p23; try clear q23; try clear hx23; try clear hf23; try clear c28; try clear c28b0; try clear c29; try clear c29b0; try clear c30; try clear c30b0; try clear p31; try clear q31; try clear hx31; try clear hf31; try clear hx106_0; try clear hx107_0; try clear hx108_0; try clear hx110_0; try clear hx12_0; try clear hx23_0; try clear hx31_0; try clear p1; try clear p106; try clear p107; try clear p108; try clear p110; try clear p12; try clear p2; try clear p23; try clear p31; try clear q1; try clear q106; try clear q107; try clear q108; try clear q110; try clear q12; try clear q23; try clear q31
     obtain ⟨x11_2, x12_2, rfl, HA, HK2, HO_7, HO_11, BK101, HB⟩ := hrel
     cases gk with
     | zero => exact absurd HA.out (by simp [spec_l12Trees.l2])
     | succ k2 =>
      have H := HA.out
      clear HA
      simp only [spec_l12Trees.l2] at H
      by_cases c36 : x12_2 < x8_1
      ·rw [if_pos c36] at H
       have c36b0 : decide (x12_2 < x8_1) = true := decide_eq_true c36
       clear c36
       replace H := iN_ H; obtain ⟨c37, H⟩ := H
       have c37b0 := eq_true c37
       have c37b1 : decide (0 ≤ x8_1) = true := decide_eq_true c37
       clear c37
       replace H := iN_ H; obtain ⟨c38, H⟩ := H
       have c38b0 := eq_true c38
       have c38b1 : decide ((x8_1 : Int).toNat ≤ 35184372088832) = true := decide_eq_true c38
       clear c38
       obtain ⟨y115, hy115⟩ : ∃ y_ : List Int, y_ = (List.replicate (x8_1 : Int).toNat 0) := ⟨_, rfl⟩
       replace H : (if x11_2.length < 5864062014805 then (spec_l12Trees.l2 k2 a1 x7_1 x8_1 (x11_2 ++ [y115]) (wrap64 (x12_2 + 1)) a0_0 a0_1) else (none)) = some r := by (rw [hy115]; with_reducible exact H)
       have Ny115 := A_ hy115
       clear hy115
       replace H := iN_ H; obtain ⟨c39, H⟩ := H
       have LMc39 := A_ c39
       clear c39
       obtain ⟨y118, hy118⟩ : ∃ y_ : List (List Int), y_ = (x11_2 ++ [y115]) := ⟨_, rfl⟩
       replace H : (spec_l12Trees.l2 k2 a1 x7_1 x8_1 y118 (wrap64 (x12_2 + 1)) a0_0 a0_1) = some r := by (rw [hy118]; with_reducible exact H)
       have Ny118 := A_ hy118
       clear hy118
       have H' := A_ H
       clear H
       go_wp2_with (first | ((with_reducible refine gate_dst (N := 70) rfl ?_); refine Kd.R_make (Kd.int .i64) _ 3 rfl (N := 70) rfl 29 _ _ rfl x8_1 rfl rfl Try.underlying29 (.int .i64 0) 8 info3 rfl (by decide) (by omega) 0 (ok := fun _ => True) (okp := fun _ => True) rfl (fun _ hk => hk) trivial (oD_) (Nat.le_trans (Nat.mul_le_mul_right _ (oD_ : x8_1.toNat ≤ 35184372088832)) (by omega)) (Below.refl _ _) (Nat.le_refl _) ?_; intro v116 w40 ho41 hb hg_ hnew_; clear hg_ hnew_; (rw [← Ny115.out] at ho41); have n0_ := A_ (Kd.R_elder' HO_7.out (Kd.R_base ho41) hb); have n1_ := A_ (Kd.S_elder' HO_11.out (Kd.R_base ho41) hb); have n2_ := A_ (Kd.R_lower (Kd.R_new' ho41 (Kd.R_lt HO_7.out)) (below_size HB.out)); have n3_ := A_ (blk_below BK101.out hb); have n4_ := A_ (bs_ HB.1 hb); clear HO_7 HO_11 BK101 HB; have HO_7 := n0_; have HO_11 := n1_; have HO117 := n2_; have BK101 := n3_; have HB := n4_; clear n0_ n1_ n2_ n3_ n4_ hb ho41; obtain ⟨Ao43, co43, eo43⟩ := Kd.R_slice HO117.out; subst eo43) | ((with_reducible refine gate_builtin (b := .append) (xs := #[.tmp 68, .tmp 71]) rfl ?_); at_builtin; refine Kd.S_append (Kd.slice 3 (Kd.int .i64)) (w0 := w) w.heap.size rfl (.tmp 68) (.tmp 71) 24 29 (.slice none 0 0) 24 rfl Try.underlying24 info29 rfl (by decide) (by omega) u11 x11_2 y115 [.slice Ao43 y115.length co43] (fun k_ => some k_ ≠ (v103 : Value).ownBlock) (fun k_ => some k_ = (.slice Ao43 y115.length co43 : Value).ownBlock) rfl rfl ?aP (fun k_ hk_ => ((Kd.R_mono (ok' := fun k_ => ((fun k_ => some k_ ≠ (v103 : Value).ownBlock)) k_ ∧ some k_ ≠ (u11 : Value).ownBlock) (Kd.R_apart' (HO117.out) (Kd.S_typed HO_11.out) (by decide)) (fun k_ hk => ⟨hk.1.2, hk.2⟩))).1 k_ hk_.symm) ?aF ?aO ?aB ?aS ?aL ?_; (case aP => exact Kd.M_row (Kd.R_mono (Kd.R_tight rfl (Kd.R_mono (ok' := fun k_ => ((fun k_ => some k_ ≠ (v103 : Value).ownBlock)) k_ ∧ some k_ ≠ (u11 : Value).ownBlock) (Kd.R_apart' (HO117.out) (Kd.S_typed HO_11.out) (by decide)) (fun k_ hk => ⟨hk.1.2, hk.2⟩))) (fun _ h_ => h_))); (case aB => exact HB.out); (case aF => exact (fun k_ hk => Kd.fresh' (Kd.R_lt HO_7.out) k_ hk)); (case aO => exact (by exact Kd.S_mono HO_11.out (fun k_ hk => ⟨hk.1, fun e_ => hk.2 e_⟩))); (case aS => exact (below_size HB.out)); (case aL => have := LMc39.out; omega); intro v119 w42 ho hb hg hat; rw [← Ny118.out] at ho; have n0_ := A_ (Kd.R_over' HO_7.out (Kd.S_typed HO_11.out) (by decide) hg); have n1_ := A_ (blk_grown (g := gb101) (o := .cells #[.int .i64 a0_0, .int .i64 a0_1] 40 (0, 0)) BK101.out hg (Kd.S_ne HO_11.out BK101.out (by decide))); have n2_ := A_ (hb); have n3_ := A_ (ho); clear HO_7 BK101 HB HO_11 HO117; have HO_7 := n0_; have BK101 := n1_; have HB := n2_; have HO120 := n3_; clear n0_ n1_ n2_ n3_ ho hb hg hat))
       go_roundg k2
       case measure => have := HK1.out; have := HK2.out; omega
       case rel => exact ⟨(y118), (wrap64 (x12_2 + 1)), (by rfl), H', ⟨by have := HK1.out; have := HK2.out; omega⟩, ⟨by exact Kd.R_mono HO_7.out (fun _ hk => trivial)⟩, ⟨by exact HO120.out⟩, ⟨by exact BK101.out⟩, ⟨by repeat ((with_reducible exact HB.out))⟩⟩
      ·rw [if_neg c36] at H
       have c36b0 : decide (x12_2 < x8_1) = false := decide_eq_false c36
       clear c36
       have H' := A_ H
       clear H
       go_wp2
       go_loopg [13] k2 (fun kq v13 w' => ∃ (x7_3 : List Int) (x11_3 : List (List Int)) (x13_3 : Int), v13 = .int .i64 x13_3 ∧ Aside0 (spec_l12Trees.l3 kq a1 x7_3 x8_1 x11_3 x13_3 a0_0 a0_1 = some r) ∧ Aside0 (kq ≤ k2) ∧ Aside0 (Kd.R (Kd.int .i64) 3 w' w.heap.size (fun _ => True) v103 x7_3) ∧ Aside0 (Kd.S (Kd.slice 3 (Kd.int .i64)) 29 w' w.heap.size (fun k_ => some k_ ≠ (v103 : Value).ownBlock) u11 x11_3) ∧ Aside0 (w'.heap[gb101]? = some (.cells #[.int .i64 a0_0, .int .i64 a0_1] 40 (0, 0))) ∧ Aside0 (Below w.heap.size w w'))
       case atStart => exact ⟨(x7_1), (x11_2), (0), (by rfl), H', ⟨Nat.le_refl _⟩, ⟨by exact HO_7.out⟩, ⟨by exact HO_11.out⟩, ⟨by exact BK101.out⟩, ⟨by repeat ((with_reducible exact HB.out))⟩⟩
       case round =>
        clear H'; try clear c1; try clear p1; try clear q1; try clear hx1; try clear c2; try clear p2; try clear q2; try clear hx2; try clear c3; try clear p3; try clear q3; try clear hx3; try clear hf3; try clear c4; try clear c4b0; try clear c4b1; try clear c5; try clear c5b0; try clear c5b1; try clear p6; try clear c8; try clear c9; try clear c9b0; try clear c10; try clear c10b0; try clear p10; try clear q10; try clear hx10; try clear c11; try clear c11b0; try clear p11; try clear q11; try clear hx11; try clear p12; try clear q12; try clear hx12; try clear hf12; try clear c15; try clear c15b0; try clear c16; try clear c16b0; try clear c17; try clear c17b0; try clear c18; try clear c18b0; try clear c19; try clear c19b0; try clear c20; try clear c20b0; try clear c20b1; try clear c21; try clear c21b0; try clear c22; try clear c22b0; try clear p23; try clear q23; try clear hx23; try clear hf23; try clear c28; try clear c28b0; try clear c29; try clear c29b0; try clear c30; try clear c30b0; try clear p31; try clear q31; try clear hx31; try clear hf31; try clear c36; try clear c36b0; try clear c37; try clear c37b0; try clear c37b1; try clear c38; try clear c38b0; try clear c38b1; try clear c39; try clear hx106_0; try clear hx107_0; try clear hx108_0; try clear hx110_0; try clear hx12_0; try clear hx23_0; try clear hx31_0; try clear p1; try clear p10; try clear p106; try clear p107; try clear p108; try clear p11; try clear p110; try clear p12; try clear p2; try clear p23; try clear p3; try clear p31; try clear p6; try clear q1; try clear q10; try clear q106; try clear q107; try clear q108; try clear q11; try clear q110; try clear q12; try clear q2; try clear q23; try clear q3; try clear q31
        obtain ⟨x7_3, x11_3, x13_3, rfl, HA, HK3, HO_7, HO_11, BK101, HB⟩ := hrel
        cases gk with
        | zero => exact absurd HA.out (by simp [spec_l12Trees.l3])
        | succ k3 =>
         have H := HA.out
         clear HA
         simp only [spec_l12Trees.l3] at H
         obtain ⟨t121, A440, H⟩ := oB_ H
         (try dsimp only at H); have A44 := A_ A440; clear A440
         by_cases c45 : x13_3 < t121
         ·rw [if_pos c45] at H
          have c45b0 : decide (x13_3 < t121) = true := decide_eq_true c45
          clear c45
          obtain ⟨⟨t123, t124⟩, A460, H⟩ := oB_ H
          (try dsimp only at H); have A46 := A_ A460; clear A460
          obtain ⟨t125, A470, H⟩ := oB_ H
          (try dsimp only at H); have A47 := A_ A470; clear A470
          by_cases c48 : t125 = true
          ·subst c48
           rw [if_pos rfl] at H
           have H' := A_ H
           clear H
           obtain ⟨hcz49_0, hcz49_1⟩ := kk2_ BK101.1
           have hfz49_0 := bf_ BK101.out 0
           have hfz49_1 := bf_ BK101.out 1
           try go_wp2_with (first | ((with_reducible refine gate_callee (f := 32) rfl ?_); refine gl_ 75 Try.func32 #[.agg #[.int .i64 a0_0, .int .i64 a0_1]] ?_; (with_reducible refine (spec_CountGaps.calls a0_0 a0_1 t121 _ A44.out).mono ?_); rintro e w50 ⟨rfl, hb⟩; refine ⟨_, rfl, ?_⟩; have n0_ := A_ (Kd.R_below HO_7.out hb); have n1_ := A_ (Kd.S_below HO_11.out hb); have n2_ := A_ (blk_below BK101.out hb); have n3_ := A_ (bs_ HB.1 hb); clear HO_7 HO_11 BK101 HB; have HO_7 := n0_; have HO_11 := n1_; have BK101 := n2_; have HB := n3_; clear n0_ n1_ n2_ n3_; (try clear hb); (try clear hk); obtain ⟨hcz51_0, hcz51_1⟩ := kk2_ BK101.1; have hfz51_0 := bf_ BK101.out 0; have hfz51_1 := bf_ BK101.out 1) | ((with_reducible refine gate_callee (f := 84) rfl ?_); refine gl_ 82 Try.func84 #[.agg #[.int .i64 a0_0, .int .i64 a0_1], .int .i64 x13_3] ?_; (with_reducible refine (spec_EndsOf.calls a0_0 a0_1 x13_3 t123 t124 _ A46.out).mono ?_); rintro e w52 ⟨rfl, hb⟩; refine ⟨_, rfl, ?_⟩; have n0_ := A_ (Kd.R_below HO_7.out hb); have n1_ := A_ (Kd.S_below HO_11.out hb); have n2_ := A_ (blk_below BK101.out hb); have n3_ := A_ (bs_ HB.1 hb); clear HO_7 HO_11 BK101 HB; have HO_7 := n0_; have HO_11 := n1_; have BK101 := n2_; have HB := n3_; clear n0_ n1_ n2_ n3_; (try clear hb); (try clear hk)))
           have n0_ := A_ (Kd.R_drew HO_7.out)
           have n1_ := A_ (Kd.S_drew HO_11.out)
           have n2_ := A_ (blk_drew BK101.out); have n3_ := A_ (below_drew1 HB.out); clear HO_7 HO_11 BK101 HB; have HO_7 := n0_; have HO_11 := n1_; have BK101 := n2_; have HB := n3_; clear n0_ n1_ n2_ n3_
           refine start_ (n := 14) (S := fun w' => True) (ds := []) #[false, false, false, false, false, false, false, false, false, false, false, false, false, false] (by kernel_rfl) rfl rfl trivial (fun hHeld => ?_); refine with_tabW spec_l12Trees.tab24 spec_l12Trees.bits24 (fun HT_ HW_ => ?_)
           generalize w52.drew = w53 at HO_7 HO_11 BK101 HB hHeld ⊢; refine pv_ 0 85 HT_ ?_; refine pv_ 1 86 HT_ ?_
           refine on_ 2 (some 87) rfl rfl HT_ (by kernel_rfl) (by decide) (fun K hK => ?_)
           refine gs_ Try.func83 #[.int .i64 a1, .int .i64 x13_3] ?_
           with_reducible refine (spec_l03Bit.calls a1 x13_3 true _ A47.out).mono ?_
           rintro e w' ⟨rfl, ⟨nd, rfl⟩⟩
           refine ⟨_, rfl, ?_⟩
           refine hK.out _ _ trivial (fun hHeld => ?_)
           clear hK K
           refine norm_ (a' := ?_) ?_ ?_; rotate_left; (show Act.put _ (some 87) _ = _; simp only [P6_]; rfl)
           refine pv_ 3 88 HT_ ?_; refine pw_ 4 89 HT_ ?_; refine pw_ 5 90 HT_ ?_; refine pw_ 6 91 HT_ ?_; refine pw_ 7 92 HT_ ?_; refine pw_ 8 93 HT_ ?_; refine pw_ 9 94 HT_ ?_; refine pw_ 10 95 HT_ ?_; refine pw_ 11 96 HT_ ?_; refine pw_ 12 97 HT_ ?_; refine pv_ 13 98 HT_ ?_
           refine done_ (done_of HT_.out (by kernel_rfl)) ?_
           try go_wp2
           go_roundg k3
           case measure => have := HK1.out; have := HK2.out; have := HK3.out; omega
           case rel => exact ⟨(x7_3), (x11_3), (wrap64 (x13_3 + 1)), (by rfl), H', ⟨by have := HK1.out; have := HK2.out; have := HK3.out; omega⟩, ⟨by (with_reducible repeat (apply Kd.R_drewN)); exact HO_7.out⟩, ⟨by (with_reducible repeat (apply Kd.S_drewN)); exact HO_11.out⟩, ⟨by (with_reducible repeat (refine blk_drewN ?_ _)); exact BK101.out⟩, ⟨by repeat ((with_reducible first | exact HB.out | apply pw_below_drewN))⟩⟩
          ·replace c48 := Bool.eq_false_iff.mpr c48
           subst c48
           have H1 : (if 0 ≤ t123 then (if t123 < (x7_3.length : Int) then (if 0 ≤ t124 then (if t124 < (x7_3.length : Int) then (if (rd x7_3 t123) = (rd x7_3 t124) then (spec_l12Trees.l3 k3 a1 x7_3 x8_1 x11_3 (wrap64 (x13_3 + 1)) a0_0 a0_1) else (if 0 ≤ (rd x7_3 t123) then (if (rd x7_3 t123) < (x11_3.length : Int) then (if (rd x7_3 t123) < ((rd_L2 x11_3 (rd x7_3 t123)).length : Int) then ((some (x11_3.set ((rd x7_3 t123) : Int).toNat ((rd_L2 x11_3 (rd x7_3 t123)).set ((rd x7_3 t123) : Int).toNat (wrap64 ((rd (rd_L2 x11_3 (rd x7_3 t123)) (rd x7_3 t123)) + 1))) : List (List Int))).bind fun y137 => (if 0 ≤ (rd x7_3 t124) then (if (rd x7_3 t124) < (x11_3.length : Int) then (if (rd x7_3 t124) < ((rd_L2 y137 (rd x7_3 t124)).length : Int) then ((some (y137.set ((rd x7_3 t124) : Int).toNat ((rd_L2 y137 (rd x7_3 t124)).set ((rd x7_3 t124) : Int).toNat (wrap64 ((rd (rd_L2 y137 (rd x7_3 t124)) (rd x7_3 t124)) + 1))) : List (List Int))).bind fun y147 => (if (rd x7_3 t124) < ((rd_L2 y147 (rd x7_3 t123)).length : Int) then ((some (y147.set ((rd x7_3 t123) : Int).toNat ((rd_L2 y147 (rd x7_3 t123)).set ((rd x7_3 t124) : Int).toNat (wrap64 ((rd (rd_L2 y147 (rd x7_3 t123)) (rd x7_3 t124)) - 1))) : List (List Int))).bind fun y157 => (if (rd x7_3 t123) < ((rd_L2 y157 (rd x7_3 t124)).length : Int) then (spec_l12Trees.l3 k3 a1 x7_3 x8_1 (y157.set ((rd x7_3 t124) : Int).toNat ((rd_L2 y157 (rd x7_3 t124)).set ((rd x7_3 t123) : Int).toNat (wrap64 ((rd (rd_L2 y157 (rd x7_3 t124)) (rd x7_3 t123)) - 1)))) (wrap64 (x13_3 + 1)) a0_0 a0_1) else (none))) else (none))) else (none)) else (none)) else (none))) else (none)) else (none)) else (none))) else (none)) else (none)) else (none)) else (none)) = some r := by rw [if_neg (show ¬ (false = true) by decide)] at H; exact H
           clear H
           have H := H1
           clear H1
           replace H := iN_ H; obtain ⟨c54, H⟩ := H
           have c54b0 : decide (0 ≤ t123) = true := decide_eq_true c54
           clear c54
           replace H := iN_ H; obtain ⟨c55, H⟩ := H
           have c55b0 : decide (t123 < (x7_3.length : Int)) = true := decide_eq_true c55
           clear c55
           replace H := iN_ H; obtain ⟨c56, H⟩ := H
           have c56b0 : decide (0 ≤ t124) = true := decide_eq_true c56
           clear c56
           replace H := iN_ H; obtain ⟨c57, H⟩ := H
           have c57b0 : decide (t124 < (x7_3.length : Int)) = true := decide_eq_true c57
           clear c57
           by_cases c58 : (rd x7_3 t123) = (rd x7_3 t124)
           ·rw [if_pos c58] at H
            have c58b0 : ((rd x7_3 t123) == (rd x7_3 t124)) = true := beq_iff_eq.mpr c58
            have c58b1 : ((rd x7_3 t123) != (rd x7_3 t124)) = false := bne_eq_false_iff_eq.mpr c58
            clear c58
            have H' := A_ H
            clear H
            obtain ⟨hcz59_0, hcz59_1⟩ := kk2_ BK101.1
            have hfz59_0 := bf_ BK101.out 0
            have hfz59_1 := bf_ BK101.out 1
            try go_wp2_with (first | ((with_reducible refine gate_callee (f := 32) rfl ?_); refine gl_ 75 Try.func32 #[.agg #[.int .i64 a0_0, .int .i64 a0_1]] ?_; (with_reducible refine (spec_CountGaps.calls a0_0 a0_1 t121 _ A44.out).mono ?_); rintro e w60 ⟨rfl, hb⟩; refine ⟨_, rfl, ?_⟩; have n0_ := A_ (Kd.R_below HO_7.out hb); have n1_ := A_ (Kd.S_below HO_11.out hb); have n2_ := A_ (blk_below BK101.out hb); have n3_ := A_ (bs_ HB.1 hb); clear HO_7 HO_11 BK101 HB; have HO_7 := n0_; have HO_11 := n1_; have BK101 := n2_; have HB := n3_; clear n0_ n1_ n2_ n3_; (try clear hb); (try clear hk); obtain ⟨hcz61_0, hcz61_1⟩ := kk2_ BK101.1; have hfz61_0 := bf_ BK101.out 0; have hfz61_1 := bf_ BK101.out 1) | ((with_reducible refine gate_callee (f := 84) rfl ?_); refine gl_ 82 Try.func84 #[.agg #[.int .i64 a0_0, .int .i64 a0_1], .int .i64 x13_3] ?_; (with_reducible refine (spec_EndsOf.calls a0_0 a0_1 x13_3 t123 t124 _ A46.out).mono ?_); rintro e w62 ⟨rfl, hb⟩; refine ⟨_, rfl, ?_⟩; have n0_ := A_ (Kd.R_below HO_7.out hb); have n1_ := A_ (Kd.S_below HO_11.out hb); have n2_ := A_ (blk_below BK101.out hb); have n3_ := A_ (bs_ HB.1 hb); clear HO_7 HO_11 BK101 HB; have HO_7 := n0_; have HO_11 := n1_; have BK101 := n2_; have HB := n3_; clear n0_ n1_ n2_ n3_; (try clear hb); (try clear hk)))
            have n0_ := A_ (Kd.R_drew HO_7.out)
            have n1_ := A_ (Kd.S_drew HO_11.out)
            have n2_ := A_ (blk_drew BK101.out); have n3_ := A_ (below_drew1 HB.out); clear HO_7 HO_11 BK101 HB; have HO_7 := n0_; have HO_11 := n1_; have BK101 := n2_; have HB := n3_; clear n0_ n1_ n2_ n3_
            (try (obtain ⟨As_, cs_, es_⟩ := Kd.R_slice HO_7.out; subst es_))
            have p126 : 0 ≤ (t123 : Int) := oD_
            have q126 : t123 < (x7_3.length : Int) := oD_
            obtain ⟨ad126, e126, hx126_0⟩ := Kd.at_int (Kd.R_reads' HO_7.out).2.2 t123 p126 q126
            cases e126
            replace p126 := eq_true p126; replace q126 := eq_true q126
            have p127 : 0 ≤ (t124 : Int) := oD_
            have q127 : t124 < (x7_3.length : Int) := oD_
            obtain ⟨ad127, e127, hx127_0⟩ := Kd.at_int (Kd.R_reads' HO_7.out).2.2 t124 p127 q127
            obtain rfl : ad126 = ad127 := (by injection e127)
            replace p127 := eq_true p127; replace q127 := eq_true q127
            refine start_ (n := 14) (S := fun w' => w'.cell? (ad126.add (t123).toNat) = some (.int .i64 (rd x7_3 t123)) ∧ w'.cell? (ad126.add (t124).toNat) = some (.int .i64 (rd x7_3 t124))) (ds := []) #[false, false, false, false, false, false, false, false, false, false, false, false, false, false] (by kernel_rfl) rfl rfl ⟨hx126_0, hx127_0⟩ (fun hHeld => ?_); refine with_tabW spec_l12Trees.tab24 spec_l12Trees.bits24 (fun HT_ HW_ => ?_)
            generalize w62.drew = w63 at HO_7 HO_11 BK101 HB hx126_0 hx127_0 hHeld ⊢; refine pv_ 0 85 HT_ ?_; refine pv_ 1 86 HT_ ?_
            refine on_ 2 (some 87) rfl rfl HT_ (by kernel_rfl) (by decide) (fun K hK => ?_)
            refine gs_ Try.func83 #[.int .i64 a1, .int .i64 x13_3] ?_
            with_reducible refine (spec_l03Bit.calls a1 x13_3 false _ A47.out).mono ?_
            rintro e w' ⟨rfl, ⟨nd, rfl⟩⟩
            refine ⟨_, rfl, ?_⟩
            obtain ⟨Ao64, co64, eo64⟩ := Kd.R_slice HO_7.out
            ((injection eo64 with f1_ f2_ f3_; have f4_ := f1_.symm; have f5_ := f3_.symm; clear f1_ f2_ f3_; subst f4_; subst f5_))
            refine hK.out _ _ ⟨hHeld.1, hHeld.2⟩ (fun hHeld => ?_)
            clear hK K
            refine norm_ (a' := ?_) ?_ ?_; rotate_left; (show Act.put _ (some 87) _ = _; simp only [P6_]; rfl)
            refine pv_ 3 88 HT_ ?_; refine pv_ 4 89 HT_ ?_; refine pv_ 5 90 HT_ ?_; refine pv_ 6 91 HT_ ?_; refine pv_ 8 93 HT_ ?_; refine pv_ 9 94 HT_ ?_; refine pv_ 10 95 HT_ ?_; refine tv_ 7 92 rfl HT_ HW_ hHeld (by rintro w' ⟨s0, s1⟩; go_simp; with_reducible rfl) ?_
            refine tv_ 11 96 rfl HT_ HW_ hHeld (by rintro w' ⟨s0, s1⟩; go_simp; with_reducible rfl) ?_
            refine pv_ 12 97 HT_ ?_; refine pv_ 13 98 HT_ ?_
            refine done_ (done_of HT_.out (by kernel_rfl)) ?_
            try go_wp2
            go_roundg k3
            case measure => have := HK1.out; have := HK2.out; have := HK3.out; omega
            case rel => exact ⟨(x7_3), (x11_3), (wrap64 (x13_3 + 1)), (by rfl), H', ⟨by have := HK1.out; have := HK2.out; have := HK3.out; omega⟩, ⟨by (with_reducible repeat (apply Kd.R_drewN)); exact HO_7.out⟩, ⟨by (with_reducible repeat (apply Kd.S_drewN)); exact HO_11.out⟩, ⟨by (with_reducible repeat (refine blk_drewN ?_ _)); exact BK101.out⟩, ⟨by repeat ((with_reducible first | exact HB.out | apply pw_below_drewN))⟩⟩
           ·rw [if_neg c58] at H
            have c58b0 : ((rd x7_3 t123) == (rd x7_3 t124)) = false := beq_eq_false_iff_ne.mpr c58
            have c58b1 : ((rd x7_3 t123) != (rd x7_3 t124)) = true := bne_iff_ne.mpr c58
            replace H := iN_ H; obtain ⟨c65, H⟩ := H
            have c65b0 : decide (0 ≤ (rd x7_3 t123)) = true := decide_eq_true c65
            clear c65
            replace H := iN_ H; obtain ⟨c66, H⟩ := H
            have c66b0 : decide ((rd x7_3 t123) < (x11_3.length : Int)) = true := decide_eq_true c66
            clear c66
            replace H := iN_ H; obtain ⟨c67, H⟩ := H
            have c67b0 : decide ((rd x7_3 t123) < ((rd_L2 x11_3 (rd x7_3 t123)).length : Int)) = true := decide_eq_true c67
            clear c67
            obtain ⟨y135, hy135⟩ : ∃ y_ : List Int, y_ = ((rd_L2 x11_3 (rd x7_3 t123)).set ((rd x7_3 t123) : Int).toNat (wrap64 ((rd (rd_L2 x11_3 (rd x7_3 t123)) (rd x7_3 t123)) + 1))) := ⟨_, rfl⟩
            replace H : ((some (x11_3.set ((rd x7_3 t123) : Int).toNat y135 : List (List Int))).bind fun y137 => (if 0 ≤ (rd x7_3 t124) then (if (rd x7_3 t124) < (x11_3.length : Int) then (if (rd x7_3 t124) < ((rd_L2 y137 (rd x7_3 t124)).length : Int) then ((some (y137.set ((rd x7_3 t124) : Int).toNat ((rd_L2 y137 (rd x7_3 t124)).set ((rd x7_3 t124) : Int).toNat (wrap64 ((rd (rd_L2 y137 (rd x7_3 t124)) (rd x7_3 t124)) + 1))) : List (List Int))).bind fun y147 => (if (rd x7_3 t124) < ((rd_L2 y147 (rd x7_3 t123)).length : Int) then ((some (y147.set ((rd x7_3 t123) : Int).toNat ((rd_L2 y147 (rd x7_3 t123)).set ((rd x7_3 t124) : Int).toNat (wrap64 ((rd (rd_L2 y147 (rd x7_3 t123)) (rd x7_3 t124)) - 1))) : List (List Int))).bind fun y157 => (if (rd x7_3 t123) < ((rd_L2 y157 (rd x7_3 t124)).length : Int) then (spec_l12Trees.l3 k3 a1 x7_3 x8_1 (y157.set ((rd x7_3 t124) : Int).toNat ((rd_L2 y157 (rd x7_3 t124)).set ((rd x7_3 t123) : Int).toNat (wrap64 ((rd (rd_L2 y157 (rd x7_3 t124)) (rd x7_3 t123)) - 1)))) (wrap64 (x13_3 + 1)) a0_0 a0_1) else (none))) else (none))) else (none)) else (none)) else (none))) = some r := by (rw [hy135]; with_reducible exact H)
            have Ny135 := A_ hy135
            clear hy135
            obtain ⟨y137, hy137⟩ : ∃ y_ : List (List Int), y_ = (x11_3.set ((rd x7_3 t123) : Int).toNat y135) := ⟨_, rfl⟩
            replace H : (if 0 ≤ (rd x7_3 t124) then (if (rd x7_3 t124) < (x11_3.length : Int) then (if (rd x7_3 t124) < ((rd_L2 y137 (rd x7_3 t124)).length : Int) then ((some (y137.set ((rd x7_3 t124) : Int).toNat ((rd_L2 y137 (rd x7_3 t124)).set ((rd x7_3 t124) : Int).toNat (wrap64 ((rd (rd_L2 y137 (rd x7_3 t124)) (rd x7_3 t124)) + 1))) : List (List Int))).bind fun y147 => (if (rd x7_3 t124) < ((rd_L2 y147 (rd x7_3 t123)).length : Int) then ((some (y147.set ((rd x7_3 t123) : Int).toNat ((rd_L2 y147 (rd x7_3 t123)).set ((rd x7_3 t124) : Int).toNat (wrap64 ((rd (rd_L2 y147 (rd x7_3 t123)) (rd x7_3 t124)) - 1))) : List (List Int))).bind fun y157 => (if (rd x7_3 t123) < ((rd_L2 y157 (rd x7_3 t124)).length : Int) then (spec_l12Trees.l3 k3 a1 x7_3 x8_1 (y157.set ((rd x7_3 t124) : Int).toNat ((rd_L2 y157 (rd x7_3 t124)).set ((rd x7_3 t123) : Int).toNat (wrap64 ((rd (rd_L2 y157 (rd x7_3 t124)) (rd x7_3 t123)) - 1)))) (wrap64 (x13_3 + 1)) a0_0 a0_1) else (none))) else (none))) else (none)) else (none)) else (none)) = some r := by (have H2_ := (Option.bind_some _ _).symm.trans H; rw [hy137]; with_reducible exact H2_)
            have Ny137 := A_ hy137
            clear hy137
            replace H := iN_ H; obtain ⟨c69, H⟩ := H
            have c69b0 : decide (0 ≤ (rd x7_3 t124)) = true := decide_eq_true c69
            clear c69
            replace H := iN_ H; obtain ⟨c70, H⟩ := H
            have c70b0 : decide ((rd x7_3 t124) < (x11_3.length : Int)) = true := decide_eq_true c70
            clear c70
            replace H := iN_ H; obtain ⟨c71, H⟩ := H
            have c71b0 : decide ((rd x7_3 t124) < ((rd_L2 y137 (rd x7_3 t124)).length : Int)) = true := decide_eq_true c71
            clear c71
            obtain ⟨y145, hy145⟩ : ∃ y_ : List Int, y_ = ((rd_L2 y137 (rd x7_3 t124)).set ((rd x7_3 t124) : Int).toNat (wrap64 ((rd (rd_L2 y137 (rd x7_3 t124)) (rd x7_3 t124)) + 1))) := ⟨_, rfl⟩
            replace H : ((some (y137.set ((rd x7_3 t124) : Int).toNat y145 : List (List Int))).bind fun y147 => (if (rd x7_3 t124) < ((rd_L2 y147 (rd x7_3 t123)).length : Int) then ((some (y147.set ((rd x7_3 t123) : Int).toNat ((rd_L2 y147 (rd x7_3 t123)).set ((rd x7_3 t124) : Int).toNat (wrap64 ((rd (rd_L2 y147 (rd x7_3 t123)) (rd x7_3 t124)) - 1))) : List (List Int))).bind fun y157 => (if (rd x7_3 t123) < ((rd_L2 y157 (rd x7_3 t124)).length : Int) then (spec_l12Trees.l3 k3 a1 x7_3 x8_1 (y157.set ((rd x7_3 t124) : Int).toNat ((rd_L2 y157 (rd x7_3 t124)).set ((rd x7_3 t123) : Int).toNat (wrap64 ((rd (rd_L2 y157 (rd x7_3 t124)) (rd x7_3 t123)) - 1)))) (wrap64 (x13_3 + 1)) a0_0 a0_1) else (none))) else (none))) = some r := by (rw [hy145]; with_reducible exact H)
            have Ny145 := A_ hy145
            clear hy145
            obtain ⟨y147, hy147⟩ : ∃ y_ : List (List Int), y_ = (y137.set ((rd x7_3 t124) : Int).toNat y145) := ⟨_, rfl⟩
            replace H : (if (rd x7_3 t124) < ((rd_L2 y147 (rd x7_3 t123)).length : Int) then ((some (y147.set ((rd x7_3 t123) : Int).toNat ((rd_L2 y147 (rd x7_3 t123)).set ((rd x7_3 t124) : Int).toNat (wrap64 ((rd (rd_L2 y147 (rd x7_3 t123)) (rd x7_3 t124)) - 1))) : List (List Int))).bind fun y157 => (if (rd x7_3 t123) < ((rd_L2 y157 (rd x7_3 t124)).length : Int) then (spec_l12Trees.l3 k3 a1 x7_3 x8_1 (y157.set ((rd x7_3 t124) : Int).toNat ((rd_L2 y157 (rd x7_3 t124)).set ((rd x7_3 t123) : Int).toNat (wrap64 ((rd (rd_L2 y157 (rd x7_3 t124)) (rd x7_3 t123)) - 1)))) (wrap64 (x13_3 + 1)) a0_0 a0_1) else (none))) else (none)) = some r := by (have H2_ := (Option.bind_some _ _).symm.trans H; rw [hy147]; with_reducible exact H2_)
            have Ny147 := A_ hy147
            clear hy147
            replace H := iN_ H; obtain ⟨c73, H⟩ := H
            have c73b0 : decide ((rd x7_3 t124) < ((rd_L2 y147 (rd x7_3 t123)).length : Int)) = true := decide_eq_true c73
            clear c73
            obtain ⟨y155, hy155⟩ : ∃ y_ : List Int, y_ = ((rd_L2 y147 (rd x7_3 t123)).set ((rd x7_3 t124) : Int).toNat (wrap64 ((rd (rd_L2 y147 (rd x7_3 t123)) (rd x7_3 t124)) - 1))) := ⟨_, rfl⟩
            replace H : ((some (y147.set ((rd x7_3 t123) : Int).toNat y155 : List (List Int))).bind fun y157 => (if (rd x7_3 t123) < ((rd_L2 y157 (rd x7_3 t124)).length : Int) then (spec_l12Trees.l3 k3 a1 x7_3 x8_1 (y157.set ((rd x7_3 t124) : Int).toNat ((rd_L2 y157 (rd x7_3 t124)).set ((rd x7_3 t123) : Int).toNat (wrap64 ((rd (rd_L2 y157 (rd x7_3 t124)) (rd x7_3 t123)) - 1)))) (wrap64 (x13_3 + 1)) a0_0 a0_1) else (none))) = some r := by (rw [hy155]; with_reducible exact H)
            have Ny155 := A_ hy155
            clear hy155
            obtain ⟨y157, hy157⟩ : ∃ y_ : List (List Int), y_ = (y147.set ((rd x7_3 t123) : Int).toNat y155) := ⟨_, rfl⟩
            replace H : (if (rd x7_3 t123) < ((rd_L2 y157 (rd x7_3 t124)).length : Int) then (spec_l12Trees.l3 k3 a1 x7_3 x8_1 (y157.set ((rd x7_3 t124) : Int).toNat ((rd_L2 y157 (rd x7_3 t124)).set ((rd x7_3 t123) : Int).toNat (wrap64 ((rd (rd_L2 y157 (rd x7_3 t124)) (rd x7_3 t123)) - 1)))) (wrap64 (x13_3 + 1)) a0_0 a0_1) else (none)) = some r := by (have H2_ := (Option.bind_some _ _).symm.trans H; rw [hy157]; with_reducible exact H2_)
            have Ny157 := A_ hy157
            clear hy157
            replace H := iN_ H; obtain ⟨c75, H⟩ := H
            have c75b0 : decide ((rd x7_3 t123) < ((rd_L2 y157 (rd x7_3 t124)).length : Int)) = true := decide_eq_true c75
            clear c75
            obtain ⟨y165, hy165⟩ : ∃ y_ : List Int, y_ = ((rd_L2 y157 (rd x7_3 t124)).set ((rd x7_3 t123) : Int).toNat (wrap64 ((rd (rd_L2 y157 (rd x7_3 t124)) (rd x7_3 t123)) - 1))) := ⟨_, rfl⟩
            replace H : (spec_l12Trees.l3 k3 a1 x7_3 x8_1 (y157.set ((rd x7_3 t124) : Int).toNat y165) (wrap64 (x13_3 + 1)) a0_0 a0_1) = some r := by (rw [hy165]; with_reducible exact H)
            have Ny165 := A_ hy165
            clear hy165
            obtain ⟨y167, hy167⟩ : ∃ y_ : List (List Int), y_ = (y157.set ((rd x7_3 t124) : Int).toNat y165) := ⟨_, rfl⟩
            replace H : (spec_l12Trees.l3 k3 a1 x7_3 x8_1 y167 (wrap64 (x13_3 + 1)) a0_0 a0_1) = some r := by (rw [hy167]; with_reducible exact H)
            have Ny167 := A_ hy167
            clear hy167
            have H' := A_ H
            clear H
            obtain ⟨hcz77_0, hcz77_1⟩ := kk2_ BK101.1
            have hfz77_0 := bf_ BK101.out 0
            have hfz77_1 := bf_ BK101.out 1
            try go_wp2_with (first | ((with_reducible refine gate_callee (f := 32) rfl ?_); refine gl_ 75 Try.func32 #[.agg #[.int .i64 a0_0, .int .i64 a0_1]] ?_; (with_reducible refine (spec_CountGaps.calls a0_0 a0_1 t121 _ A44.out).mono ?_); rintro e w78 ⟨rfl, hb⟩; refine ⟨_, rfl, ?_⟩; have n0_ := A_ (Kd.R_below HO_7.out hb); have n1_ := A_ (Kd.S_below HO_11.out hb); have n2_ := A_ (blk_below BK101.out hb); have n3_ := A_ (bs_ HB.1 hb); clear HO_7 HO_11 BK101 HB; have HO_7 := n0_; have HO_11 := n1_; have BK101 := n2_; have HB := n3_; clear n0_ n1_ n2_ n3_; (try clear hb); (try clear hk); obtain ⟨hcz79_0, hcz79_1⟩ := kk2_ BK101.1; have hfz79_0 := bf_ BK101.out 0; have hfz79_1 := bf_ BK101.out 1) | ((with_reducible refine gate_callee (f := 84) rfl ?_); refine gl_ 82 Try.func84 #[.agg #[.int .i64 a0_0, .int .i64 a0_1], .int .i64 x13_3] ?_; (with_reducible refine (spec_EndsOf.calls a0_0 a0_1 x13_3 t123 t124 _ A46.out).mono ?_); rintro e w80 ⟨rfl, hb⟩; refine ⟨_, rfl, ?_⟩; have n0_ := A_ (Kd.R_below HO_7.out hb); have n1_ := A_ (Kd.S_below HO_11.out hb); have n2_ := A_ (blk_below BK101.out hb); have n3_ := A_ (bs_ HB.1 hb); clear HO_7 HO_11 BK101 HB; have HO_7 := n0_; have HO_11 := n1_; have BK101 := n2_; have HB := n3_; clear n0_ n1_ n2_ n3_; (try clear hb); (try clear hk)))
            have n0_ := A_ (Kd.R_drew HO_7.out)
            have n1_ := A_ (Kd.S_drew HO_11.out)
            have n2_ := A_ (blk_drew BK101.out); have n3_ := A_ (below_drew1 HB.out); clear HO_7 HO_11 BK101 HB; have HO_7 := n0_; have HO_11 := n1_; have BK101 := n2_; have HB := n3_; clear n0_ n1_ n2_ n3_
            (try (obtain ⟨As_, cs_, es_⟩ := Kd.R_slice HO_7.out; subst es_))
            have p126 : 0 ≤ (t123 : Int) := oD_
            have q126 : t123 < (x7_3.length : Int) := oD_
            obtain ⟨ad126, e126, hx126_0⟩ := Kd.at_int (Kd.R_reads' HO_7.out).2.2 t123 p126 q126
            cases e126
            replace p126 := eq_true p126; replace q126 := eq_true q126
            have p127 : 0 ≤ (t124 : Int) := oD_
            have q127 : t124 < (x7_3.length : Int) := oD_
            obtain ⟨ad127, e127, hx127_0⟩ := Kd.at_int (Kd.R_reads' HO_7.out).2.2 t124 p127 q127
            obtain rfl : ad126 = ad127 := (by injection e127)
            replace p127 := eq_true p127; replace q127 := eq_true q127
            refine start_ (n := 14) (S := fun w' => w'.cell? (ad126.add (t123).toNat) = some (.int .i64 (rd x7_3 t123)) ∧ w'.cell? (ad126.add (t124).toNat) = some (.int .i64 (rd x7_3 t124))) (ds := []) #[false, false, false, false, false, false, false, false, false, false, false, false, false, false] (by kernel_rfl) rfl rfl ⟨hx126_0, hx127_0⟩ (fun hHeld => ?_); refine with_tabW spec_l12Trees.tab24 spec_l12Trees.bits24 (fun HT_ HW_ => ?_)
            generalize w80.drew = w81 at HO_7 HO_11 BK101 HB hx126_0 hx127_0 hHeld ⊢; refine pv_ 0 85 HT_ ?_; refine pv_ 1 86 HT_ ?_
            refine on_ 2 (some 87) rfl rfl HT_ (by kernel_rfl) (by decide) (fun K hK => ?_)
            refine gs_ Try.func83 #[.int .i64 a1, .int .i64 x13_3] ?_
            with_reducible refine (spec_l03Bit.calls a1 x13_3 false _ A47.out).mono ?_
            rintro e w' ⟨rfl, ⟨nd, rfl⟩⟩
            refine ⟨_, rfl, ?_⟩
            obtain ⟨Ao82, co82, eo82⟩ := Kd.R_slice HO_7.out
            ((injection eo82 with f1_ f2_ f3_; have f4_ := f1_.symm; have f5_ := f3_.symm; clear f1_ f2_ f3_; subst f4_; subst f5_))
            refine hK.out _ _ ⟨hHeld.1, hHeld.2⟩ (fun hHeld => ?_)
            clear hK K
            refine norm_ (a' := ?_) ?_ ?_; rotate_left; (show Act.put _ (some 87) _ = _; simp only [P6_]; rfl)
            refine pv_ 3 88 HT_ ?_; refine pv_ 4 89 HT_ ?_; refine pv_ 5 90 HT_ ?_; refine pv_ 6 91 HT_ ?_; refine pv_ 8 93 HT_ ?_; refine pv_ 9 94 HT_ ?_; refine pv_ 10 95 HT_ ?_; refine tv_ 7 92 rfl HT_ HW_ hHeld (by rintro w' ⟨s0, s1⟩; go_simp; with_reducible rfl) ?_
            refine tv_ 11 96 rfl HT_ HW_ hHeld (by rintro w' ⟨s0, s1⟩; go_simp; with_reducible rfl) ?_
            refine pv_ 12 97 HT_ ?_; refine pv_ 13 98 HT_ ?_
            refine done_ (done_of HT_.out (by kernel_rfl)) ?_
            try go_wp2
            (try (rw [drewN_self w81]; generalize hq_ : World.drewN w81 _ = w81; have n0_ : Aside0 (Kd.S (Kd.slice 3 (Kd.int .i64)) 29 w81 w.heap.size (fun k_ => some k_ ≠ (.slice (some ad126) x7_3.length co82 : Value).ownBlock) u11 x11_3) := ⟨by rw [← hq_]; exact (by (with_reducible repeat (apply Kd.S_drewN)); exact HO_11.out)⟩; have n1_ : Aside0 (Kd.R (Kd.int .i64) 3 w81 w.heap.size (fun _ => True) (.slice (some ad126) x7_3.length co82) x7_3) := ⟨by rw [← hq_]; exact (by (with_reducible repeat (apply Kd.R_drewN)); exact HO_7.out)⟩; have n2_ : Aside0 (w81.heap[gb101]? = some (.cells #[.int .i64 a0_0, .int .i64 a0_1] 40 (0, 0))) := ⟨by rw [← hq_]; exact (by (with_reducible repeat (refine blk_drewN ?_ _)); exact BK101.out)⟩; have n3_ : Aside0 (Below w.heap.size w w81) := ⟨by rw [← hq_]; exact (by repeat ((with_reducible first | exact HB.out | apply pw_below_drewN)))⟩; clear HO_11 HO_7 BK101 HB hq_; have HO_11 := n0_; have HO_7 := n1_; have BK101 := n2_; have HB := n3_; clear n0_ n1_ n2_ n3_))
            have n0_ := A_ (Kd.R_drew HO_7.out)
            have n1_ := A_ (Kd.S_drew HO_11.out)
            have n2_ := A_ (blk_drew BK101.out); have n3_ := A_ (below_drew1 HB.out); clear HO_7 HO_11 BK101 HB; have HO_7 := n0_; have HO_11 := n1_; have BK101 := n2_; have HB := n3_; clear n0_ n1_ n2_ n3_
            (try (obtain ⟨As_, cs_, es_⟩ := Kd.R_slice HO_7.out; subst es_))
            have p128 : 0 ≤ (t123 : Int) := oD_
            have q128 : t123 < (x7_3.length : Int) := oD_
            obtain ⟨ad128, e128, hx128_0⟩ := Kd.at_int (Kd.R_reads' HO_7.out).2.2 t123 p128 q128
            obtain rfl : ad126 = ad128 := (by injection e128)
            replace p128 := eq_true p128; replace q128 := eq_true q128
            obtain ⟨Ao84, co84, eo84⟩ := Kd.S_slice HO_11.out
            (subst eo84)
            have p129 : 0 ≤ ((rd x7_3 t123) : Int) := oD_
            have q129 : (rd x7_3 t123) < (x11_3.length : Int) := oD_
            obtain ⟨ad129, A129_0, c129_0, e129, hx129_0, hl129_0, hi129_0⟩ := at_L2 (Kd.S_reads' HO_11.out).2.2 (rd x7_3 t123) p129 q129
            cases e129
            obtain ⟨ce129, hce129, hMe129, hcc129⟩ := Kd.S_get HO_11.out [] (rd x7_3 t123) p129 (by exact q129)
            obtain ⟨ve129_0, rfl, ge129_0⟩ := hMe129
            have hv129_0 := hcc129 0 _ rfl
            rw [Nat.add_zero, show ((Kd.slice 3 (Kd.int .i64))).sz = 1 from rfl, Nat.mul_one] at hv129_0
            replace hv129_0 := Option.some.inj (hv129_0.symm.trans hx129_0)
            rw [hv129_0] at ge129_0
            have HL129_0 := A_ (show Kd.R (Kd.int .i64) 3 _ _ _ _ (rd_L2 x11_3 (rd x7_3 t123)) from ge129_0)
            clear hv129_0 ge129_0
            have HX129_0 := A_ hx129_0
            clear hcc129 hce129
            have HR129_0 := A_ hi129_0
            have HC129_0 := A_ hl129_0
            clear hi129_0 hl129_0; replace p129 := eq_true p129; replace q129 := eq_true q129
            (try (obtain ⟨As_, cs_, es_⟩ := Kd.R_slice HO_7.out; subst es_))
            have p130 : 0 ≤ (t123 : Int) := oD_
            have q130 : t123 < (x7_3.length : Int) := oD_
            obtain ⟨ad130, e130, hx130_0⟩ := Kd.at_int (Kd.R_reads' HO_7.out).2.2 t123 p130 q130
            obtain rfl : ad126 = ad130 := (by injection e130)
            replace p130 := eq_true p130; replace q130 := eq_true q130
            (try (obtain ⟨As_, cs_, es_⟩ := Kd.R_slice HO_7.out; subst es_))
            have p131 : 0 ≤ (t123 : Int) := oD_
            have q131 : t123 < (x7_3.length : Int) := oD_
            obtain ⟨ad131, e131, hx131_0⟩ := Kd.at_int (Kd.R_reads' HO_7.out).2.2 t123 p131 q131
            obtain rfl : ad126 = ad131 := (by injection e131)
            replace p131 := eq_true p131; replace q131 := eq_true q131
            have p132 : 0 ≤ ((rd x7_3 t123) : Int) := oD_
            have q132 : (rd x7_3 t123) < (x11_3.length : Int) := oD_
            obtain ⟨ad132, A132_0, c132_0, e132, hx132_0, hl132_0, hi132_0⟩ := at_L2 (Kd.S_reads' HO_11.out).2.2 (rd x7_3 t123) p132 q132
            obtain rfl : ad129 = ad132 := (by injection e132)
            obtain ⟨ce132, hce132, hMe132, hcc132⟩ := Kd.S_get HO_11.out [] (rd x7_3 t123) p132 (by exact q132)
            obtain ⟨ve132_0, rfl, ge132_0⟩ := hMe132
            have hv132_0 := hcc132 0 _ rfl
            rw [Nat.add_zero, show ((Kd.slice 3 (Kd.int .i64))).sz = 1 from rfl, Nat.mul_one] at hv132_0
            replace hv132_0 := Option.some.inj (hv132_0.symm.trans hx132_0)
            rw [hv132_0] at ge132_0
            have HL132_0 := A_ (show Kd.R (Kd.int .i64) 3 _ _ _ _ (rd_L2 x11_3 (rd x7_3 t123)) from ge132_0)
            clear hv132_0 ge132_0
            have HX132_0 := A_ hx132_0
            clear hcc132 hce132
            have HR132_0 := A_ hi132_0
            have HC132_0 := A_ hl132_0
            clear hi132_0 hl132_0; replace p132 := eq_true p132; replace q132 := eq_true q132
            have ea_ := Option.some.inj (hx129_0.symm.trans hx132_0)
            injection ea_ with ea_ en_ ec_
            subst ea_; subst ec_; clear en_
            (try (obtain ⟨As_, cs_, es_⟩ := Kd.R_slice HO_7.out; subst es_))
            have p133 : 0 ≤ (t123 : Int) := oD_
            have q133 : t123 < (x7_3.length : Int) := oD_
            obtain ⟨ad133, e133, hx133_0⟩ := Kd.at_int (Kd.R_reads' HO_7.out).2.2 t123 p133 q133
            obtain rfl : ad126 = ad133 := (by injection e133)
            replace p133 := eq_true p133; replace q133 := eq_true q133
            have p134 : 0 ≤ ((rd x7_3 t123) : Int) := oD_
            have q134 : (rd x7_3 t123) < ((rd_L2 x11_3 (rd x7_3 t123)).length : Int) := oD_
            obtain ⟨ad134, e134, hx134_0⟩ := Kd.at_int HR132_0.out (rd x7_3 t123) p134 q134
            cases e134
            replace p134 := eq_true p134; replace q134 := eq_true q134
            have p68 : 0 ≤ ((rd x7_3 t123) : Int) := oD_
            have q68 : ((rd x7_3 t123) : Int) < (((rd_L2 x11_3 (rd x7_3 t123)).length : Int) : Int) := oD_
            obtain ⟨go68, co68, eo68, gb68, gl68, cl68, HG68⟩ := Kd.R_form HL129_0.out (by omega)
            (cases eo68)
            have GB68 := A_ gb68
            have GG68 := A_ HG68
            clear gb68 gl68 HG68
            (simp only [add_plain] at hx134_0)
            obtain ⟨hx68_0, hf68_0⟩ := Kd.R_celln 0 HL129_0.out ((rd x7_3 t123) : Int) p68 q68
            replace p68 := eq_true p68; replace q68 := eq_true q68
            have hq85 : ((rd x7_3 t123) : Int) < (x11_3.length : Int) := (by have h_ : ((rd x7_3 t123) : Int) < ((x11_3.length : Int) : Int) := oD_; exact h_)
            obtain ⟨oki85, ce85, hcl85, hM85, hcc85, hok85, hbk85⟩ := Kd.S_borrow HO_11.out [] ((rd x7_3 t123) : Int) (oD_) hq85
            obtain ⟨ve85_0, rfl, ge85_0⟩ := hM85
            have hv85 := hcc85 0 _ rfl
            rw [Nat.add_zero, show ((Kd.slice 3 (Kd.int .i64))).sz = 1 from rfl, Nat.mul_one] at hv85
            replace hv85 := Option.some.inj (hv85.symm.trans HX129_0.out)
            subst hv85; clear hcc85 hcl85
            replace ge85_0 := (show Kd.R (Kd.int .i64) 3 _ _ _ _ (rd_L2 x11_3 (rd x7_3 t123)) from ge85_0)
            have HP85 := Kd.R_putg ge85_0 ((rd x7_3 t123) : Int) (wrap64 ((rd (rd_L2 x11_3 (rd x7_3 t123)) (rd x7_3 t123)) + 1))
            rw [← Ny135.out] at HP85
            have HS85 := hbk85 HP85.2 (fun k_ e_ => by injection e_ with e_; subst e_; exact ge85_0.1 _ rfl) (x' := y135) (Kd.M_row HP85.1)
            rw [← Ny137.out] at HS85
            have HQ85 := A_ HS85
            clear HP85 HS85 hbk85 hok85
            refine start_ (n := 27) (S := fun w' => w'.cell? (ad126.add (t123).toNat) = some (.int .i64 (rd x7_3 t123)) ∧ w'.cell? (ad129.add ((rd x7_3 t123)).toNat) = some (.slice (some ⟨go68, 0, none⟩) (rd_L2 x11_3 (rd x7_3 t123)).length c129_0) ∧ w'.cell? (ad126.add (t123).toNat) = some (.int .i64 (rd x7_3 t123)) ∧ w'.cell? (ad126.add (t123).toNat) = some (.int .i64 (rd x7_3 t123)) ∧ w'.cell? (ad129.add ((rd x7_3 t123)).toNat) = some (.slice (some ⟨go68, 0, none⟩) (rd_L2 x11_3 (rd x7_3 t123)).length c129_0) ∧ w'.cell? (ad126.add (t123).toNat) = some (.int .i64 (rd x7_3 t123)) ∧ w'.cell? ⟨go68, ((rd x7_3 t123)).toNat, none⟩ = some (.int .i64 (rd (rd_L2 x11_3 (rd x7_3 t123)) (rd x7_3 t123)))) (ds := [26]) #[false, false, false, false, false, false, false, false, false, false, false, false, false, false, false, false, false, false, false, false, false, false, false, false, false, false, false] (by kernel_rfl) rfl rfl ⟨hx128_0, hx129_0, hx130_0, hx131_0, hx132_0, hx133_0, hx134_0⟩ (fun hHeld => ?_); refine with_tabW spec_l12Trees.tab25 spec_l12Trees.bits25 (fun HT_ HW_ => ?_)
            generalize w81.drew = w83 at HO_7 HO_11 BK101 HB GG68 HL129_0 HL132_0 HQ85 HR129_0 HR132_0 HX129_0 HX132_0 hf68_0 hx128_0 hx129_0 hx130_0 hx131_0 hx132_0 hx133_0 hx134_0 hx68_0 hHeld ⊢; refine pv_ 0 99 HT_ ?_; refine pv_ 1 100 HT_ ?_; refine pv_ 2 101 HT_ ?_; refine pv_ 3 102 HT_ ?_; refine pv_ 7 106 HT_ ?_; refine pv_ 8 107 HT_ ?_; refine pv_ 9 108 HT_ ?_; refine pv_ 11 110 HT_ ?_; refine pv_ 12 111 HT_ ?_; refine pv_ 13 112 HT_ ?_; refine pv_ 14 113 HT_ ?_; refine pv_ 18 117 HT_ ?_; refine pv_ 19 118 HT_ ?_; refine pv_ 20 119 HT_ ?_; refine tv_ 4 103 rfl HT_ HW_ hHeld (by rintro w' ⟨s0, s1, s2, s3, s4, s5, s6⟩; go_simp; with_reducible rfl) ?_
            refine pv_ 5 104 HT_ ?_; refine tv_ 6 105 rfl HT_ HW_ hHeld (by rintro w' ⟨s0, s1, s2, s3, s4, s5, s6⟩; go_simp; with_reducible rfl) ?_
            refine tv_ 10 109 rfl HT_ HW_ hHeld (by rintro w' ⟨s0, s1, s2, s3, s4, s5, s6⟩; go_simp; with_reducible rfl) ?_
            refine tv_ 15 114 rfl HT_ HW_ hHeld (by rintro w' ⟨s0, s1, s2, s3, s4, s5, s6⟩; go_simp; with_reducible rfl) ?_
            refine pv_ 16 115 HT_ ?_; refine tv_ 17 116 rfl HT_ HW_ hHeld (by rintro w' ⟨s0, s1, s2, s3, s4, s5, s6⟩; go_simp; with_reducible rfl) ?_
            refine tv_ 21 120 rfl HT_ HW_ hHeld (by rintro w' ⟨s0, s1, s2, s3, s4, s5, s6⟩; go_simp; with_reducible rfl) ?_
            refine pv_ 22 121 HT_ ?_; refine tv_ 23 122 rfl HT_ HW_ hHeld (by rintro w' ⟨s0, s1, s2, s3, s4, s5, s6⟩; go_simp; with_reducible rfl) ?_
            refine pv_ 24 123 HT_ ?_; refine pv_ 25 124 HT_ ?_
            refine last_ (i := 26) (N := none) #[true, true, true, true, true, true, true, true, true, true, true, true, true, true, true, true, true, true, true, true, true, true, true, true, true, true, true] rfl rfl (one_of HT_.out (by kernel_rfl)) (by decide) (fun K hK => ?_)
            refine skip_ (w1 := ?_) (by rfl) rfl ?_ ?_
            rotate_left
            ·go_simp
             rfl
            refine hK.out _ _ ?_
            clear hK K
            refine done_ (done_of HT_.out (by kernel_rfl)) ?_
            try go_wp2
            have n0_ : Aside0 (Kd.R (Kd.int .i64) 3 (w83.setCell ⟨go68, ((rd x7_3 t123) : Int).toNat, none⟩ (.int .i64 (wrap64 ((rd (rd_L2 x11_3 (rd x7_3 t123)) (rd x7_3 t123)) + 1)))) w.heap.size (fun _ => True) (.slice (some ad126) x7_3.length co82) x7_3) := ⟨by exact Kd.R_mono (Kd.R_far (p := ⟨go68, ((rd x7_3 t123) : Int).toNat, none⟩) (Kd.R_far1 HO_7.out rfl ((HL129_0.out.1 _ rfl).1)) (fun _ hk => hk.2) (.int .i64 (wrap64 ((rd (rd_L2 x11_3 (rd x7_3 t123)) (rd x7_3 t123)) + 1)))) (fun _ hk => trivial)⟩
            have n1_ : Aside0 (Kd.S (Kd.slice 3 (Kd.int .i64)) 29 (w83.setCell ⟨go68, ((rd x7_3 t123) : Int).toNat, none⟩ (.int .i64 (wrap64 ((rd (rd_L2 x11_3 (rd x7_3 t123)) (rd x7_3 t123)) + 1)))) w.heap.size (fun k_ => some k_ ≠ (.slice (some ad126) x7_3.length co82 : Value).ownBlock) (.slice (some ad129) x11_3.length co84) y137) := ⟨by exact HQ85.out⟩
            have n2_ : Aside0 ((w83.setCell ⟨go68, ((rd x7_3 t123) : Int).toNat, none⟩ (.int .i64 (wrap64 ((rd (rd_L2 x11_3 (rd x7_3 t123)) (rd x7_3 t123)) + 1)))).heap[gb101]? = some (.cells #[.int .i64 a0_0, .int .i64 a0_1] 40 (0, 0))) := ⟨by refine blk_far ?_ (by have h_ := Kd.R_ne HL129_0.out BK101.out (by decide); intro e_; exact h_ (by rw [e_]; rfl)) _; exact BK101.out⟩
            have n3_ : Aside0 (Below w.heap.size w (w83.setCell ⟨go68, ((rd x7_3 t123) : Int).toNat, none⟩ (.int .i64 (wrap64 ((rd (rd_L2 x11_3 (rd x7_3 t123)) (rd x7_3 t123)) + 1))))) := ⟨by repeat ((with_reducible first | exact HB.out | refine below_set ?_ GB68.out))⟩
            (try clear HO_7); (try clear HO_11); (try clear BK101); (try clear HB)
            generalize (w83.setCell ⟨go68, ((rd x7_3 t123) : Int).toNat, none⟩ (.int .i64 (wrap64 ((rd (rd_L2 x11_3 (rd x7_3 t123)) (rd x7_3 t123)) + 1)))) = w87 at n0_ n1_ n2_ n3_ ⊢
            have HO_7 := n0_; have HO_11 := n1_; have BK101 := n2_; have HB := n3_; clear n0_ n1_ n2_ n3_
            have n0_ := A_ (Kd.R_drew HO_7.out)
            have n1_ := A_ (Kd.S_drew HO_11.out)
            have n2_ := A_ (blk_drew BK101.out); have n3_ := A_ (below_drew1 HB.out); clear HO_7 HO_11 BK101 HB; have HO_7 := n0_; have HO_11 := n1_; have BK101 := n2_; have HB := n3_; clear n0_ n1_ n2_ n3_
            have p138 : 0 ≤ (t124 : Int) := oD_
            have q138 : t124 < (x7_3.length : Int) := oD_
            obtain ⟨ad138, e138, hx138_0⟩ := Kd.at_int (Kd.R_reads' HO_7.out).2.2 t124 p138 q138
            obtain rfl : ad126 = ad138 := (by injection e138)
            replace p138 := eq_true p138; replace q138 := eq_true q138
            have p139 : 0 ≤ ((rd x7_3 t124) : Int) := oD_
            have q139 : (rd x7_3 t124) < (y137.length : Int) := (by have h_ : ((rd x7_3 t124) : Int) < ((x11_3.length : Int) : Int) := oD_; (have e_ := (Kd.S_reads' HO_11.out).1; omega))
            have ql139 : (((rd x7_3 t124) : Int) < ((x11_3.length : Int) : Int)) = True := eq_true (oD_)
            obtain ⟨ad139, A139_0, c139_0, e139, hx139_0, hl139_0, hi139_0⟩ := at_L2 (Kd.S_reads' HO_11.out).2.2 (rd x7_3 t124) p139 q139
            obtain rfl : ad129 = ad139 := (by injection e139)
            obtain ⟨ce139, hce139, hMe139, hcc139⟩ := Kd.S_get HO_11.out [] (rd x7_3 t124) p139 (by exact oD_)
            obtain ⟨ve139_0, rfl, ge139_0⟩ := hMe139
            have hv139_0 := hcc139 0 _ rfl
            rw [Nat.add_zero, show ((Kd.slice 3 (Kd.int .i64))).sz = 1 from rfl, Nat.mul_one] at hv139_0
            replace hv139_0 := Option.some.inj (hv139_0.symm.trans hx139_0)
            rw [hv139_0] at ge139_0
            have HL139_0 := A_ (show Kd.R (Kd.int .i64) 3 _ _ _ _ (rd_L2 y137 (rd x7_3 t124)) from ge139_0)
            clear hv139_0 ge139_0
            have HX139_0 := A_ hx139_0
            clear hcc139 hce139
            have HR139_0 := A_ hi139_0
            have HC139_0 := A_ hl139_0
            clear hi139_0 hl139_0; replace p139 := eq_true p139; replace q139 := eq_true q139
            have p140 : 0 ≤ (t124 : Int) := oD_
            have q140 : t124 < (x7_3.length : Int) := oD_
            obtain ⟨ad140, e140, hx140_0⟩ := Kd.at_int (Kd.R_reads' HO_7.out).2.2 t124 p140 q140
            obtain rfl : ad126 = ad140 := (by injection e140)
            replace p140 := eq_true p140; replace q140 := eq_true q140
            have p141 : 0 ≤ (t124 : Int) := oD_
            have q141 : t124 < (x7_3.length : Int) := oD_
            obtain ⟨ad141, e141, hx141_0⟩ := Kd.at_int (Kd.R_reads' HO_7.out).2.2 t124 p141 q141
            obtain rfl : ad126 = ad141 := (by injection e141)
            replace p141 := eq_true p141; replace q141 := eq_true q141
            have p142 : 0 ≤ ((rd x7_3 t124) : Int) := oD_
            have q142 : (rd x7_3 t124) < (y137.length : Int) := (by have h_ : ((rd x7_3 t124) : Int) < ((x11_3.length : Int) : Int) := oD_; (have e_ := (Kd.S_reads' HO_11.out).1; omega))
            have ql142 : (((rd x7_3 t124) : Int) < ((x11_3.length : Int) : Int)) = True := eq_true (oD_)
            obtain ⟨ad142, A142_0, c142_0, e142, hx142_0, hl142_0, hi142_0⟩ := at_L2 (Kd.S_reads' HO_11.out).2.2 (rd x7_3 t124) p142 q142
            obtain rfl : ad129 = ad142 := (by injection e142)
            obtain ⟨ce142, hce142, hMe142, hcc142⟩ := Kd.S_get HO_11.out [] (rd x7_3 t124) p142 (by exact oD_)
            obtain ⟨ve142_0, rfl, ge142_0⟩ := hMe142
            have hv142_0 := hcc142 0 _ rfl
            rw [Nat.add_zero, show ((Kd.slice 3 (Kd.int .i64))).sz = 1 from rfl, Nat.mul_one] at hv142_0
            replace hv142_0 := Option.some.inj (hv142_0.symm.trans hx142_0)
            rw [hv142_0] at ge142_0
            have HL142_0 := A_ (show Kd.R (Kd.int .i64) 3 _ _ _ _ (rd_L2 y137 (rd x7_3 t124)) from ge142_0)
            clear hv142_0 ge142_0
            have HX142_0 := A_ hx142_0
            clear hcc142 hce142
            have HR142_0 := A_ hi142_0
            have HC142_0 := A_ hl142_0
            clear hi142_0 hl142_0; replace p142 := eq_true p142; replace q142 := eq_true q142
            have ea_ := Option.some.inj (hx139_0.symm.trans hx142_0)
            injection ea_ with ea_ en_ ec_
            subst ea_; subst ec_; clear en_
            have p143 : 0 ≤ (t124 : Int) := oD_
            have q143 : t124 < (x7_3.length : Int) := oD_
            obtain ⟨ad143, e143, hx143_0⟩ := Kd.at_int (Kd.R_reads' HO_7.out).2.2 t124 p143 q143
            obtain rfl : ad126 = ad143 := (by injection e143)
            replace p143 := eq_true p143; replace q143 := eq_true q143
            have p144 : 0 ≤ ((rd x7_3 t124) : Int) := oD_
            have q144 : (rd x7_3 t124) < ((rd_L2 y137 (rd x7_3 t124)).length : Int) := oD_
            obtain ⟨ad144, e144, hx144_0⟩ := Kd.at_int HR142_0.out (rd x7_3 t124) p144 q144
            cases e144
            replace p144 := eq_true p144; replace q144 := eq_true q144
            have p72 : 0 ≤ ((rd x7_3 t124) : Int) := oD_
            have q72 : ((rd x7_3 t124) : Int) < (((rd_L2 y137 (rd x7_3 t124)).length : Int) : Int) := oD_
            obtain ⟨go72, co72, eo72, gb72, gl72, cl72, HG72⟩ := Kd.R_form HL139_0.out (by omega)
            (cases eo72)
            have GB72 := A_ gb72
            have GG72 := A_ HG72
            clear gb72 gl72 HG72
            (simp only [add_plain] at hx144_0)
            obtain ⟨hx72_0, hf72_0⟩ := Kd.R_celln 0 HL139_0.out ((rd x7_3 t124) : Int) p72 q72
            replace p72 := eq_true p72; replace q72 := eq_true q72
            have hq89 : ((rd x7_3 t124) : Int) < (x11_3.length : Int) := (by have h_ : ((rd x7_3 t124) : Int) < ((x11_3.length : Int) : Int) := oD_; exact h_)
            obtain ⟨oki89, ce89, hcl89, hM89, hcc89, hok89, hbk89⟩ := Kd.S_borrow HO_11.out [] ((rd x7_3 t124) : Int) (oD_) hq89
            obtain ⟨ve89_0, rfl, ge89_0⟩ := hM89
            have hv89 := hcc89 0 _ rfl
            rw [Nat.add_zero, show ((Kd.slice 3 (Kd.int .i64))).sz = 1 from rfl, Nat.mul_one] at hv89
            replace hv89 := Option.some.inj (hv89.symm.trans HX139_0.out)
            subst hv89; clear hcc89 hcl89
            replace ge89_0 := (show Kd.R (Kd.int .i64) 3 _ _ _ _ (rd_L2 y137 (rd x7_3 t124)) from ge89_0)
            have HP89 := Kd.R_putg ge89_0 ((rd x7_3 t124) : Int) (wrap64 ((rd (rd_L2 y137 (rd x7_3 t124)) (rd x7_3 t124)) + 1))
            rw [← Ny145.out] at HP89
            have HS89 := hbk89 HP89.2 (fun k_ e_ => by injection e_ with e_; subst e_; exact ge89_0.1 _ rfl) (x' := y145) (Kd.M_row HP89.1)
            rw [← Ny147.out] at HS89
            have HQ89 := A_ HS89
            clear HP89 HS89 hbk89 hok89
            refine start_ (n := 27) (S := fun w' => w'.cell? (ad126.add (t124).toNat) = some (.int .i64 (rd x7_3 t124)) ∧ w'.cell? (ad129.add ((rd x7_3 t124)).toNat) = some (.slice (some ⟨go72, 0, none⟩) (rd_L2 y137 (rd x7_3 t124)).length c139_0) ∧ w'.cell? (ad126.add (t124).toNat) = some (.int .i64 (rd x7_3 t124)) ∧ w'.cell? (ad126.add (t124).toNat) = some (.int .i64 (rd x7_3 t124)) ∧ w'.cell? (ad129.add ((rd x7_3 t124)).toNat) = some (.slice (some ⟨go72, 0, none⟩) (rd_L2 y137 (rd x7_3 t124)).length c139_0) ∧ w'.cell? (ad126.add (t124).toNat) = some (.int .i64 (rd x7_3 t124)) ∧ w'.cell? ⟨go72, ((rd x7_3 t124)).toNat, none⟩ = some (.int .i64 (rd (rd_L2 y137 (rd x7_3 t124)) (rd x7_3 t124)))) (ds := [26]) #[false, false, false, false, false, false, false, false, false, false, false, false, false, false, false, false, false, false, false, false, false, false, false, false, false, false, false] (by kernel_rfl) rfl rfl ⟨hx138_0, hx139_0, hx140_0, hx141_0, hx142_0, hx143_0, hx144_0⟩ (fun hHeld => ?_); refine with_tabW spec_l12Trees.tab26 spec_l12Trees.bits26 (fun HT_ HW_ => ?_)
            generalize w87.drew = w88 at HO_7 HO_11 BK101 HB GG72 HL139_0 HL142_0 HQ85 HQ89 HR139_0 HR142_0 HX139_0 HX142_0 hf72_0 hx138_0 hx139_0 hx140_0 hx141_0 hx142_0 hx143_0 hx144_0 hx72_0 hHeld ⊢; refine pv_ 0 125 HT_ ?_; refine pv_ 1 126 HT_ ?_; refine pv_ 2 127 HT_ ?_; refine pv_ 3 128 HT_ ?_; refine pv_ 7 132 HT_ ?_; refine pv_ 8 133 HT_ ?_; refine pv_ 9 134 HT_ ?_; refine pv_ 11 136 HT_ ?_; refine pv_ 12 137 HT_ ?_; refine pv_ 13 138 HT_ ?_; refine pv_ 14 139 HT_ ?_; refine pv_ 18 143 HT_ ?_; refine pv_ 19 144 HT_ ?_; refine pv_ 20 145 HT_ ?_; refine tv_ 4 129 rfl HT_ HW_ hHeld (by rintro w' ⟨s0, s1, s2, s3, s4, s5, s6⟩; go_simp; with_reducible rfl) ?_
            refine pv_ 5 130 HT_ ?_; refine tv_ 6 131 rfl HT_ HW_ hHeld (by rintro w' ⟨s0, s1, s2, s3, s4, s5, s6⟩; go_simp; with_reducible rfl) ?_
            refine tv_ 10 135 rfl HT_ HW_ hHeld (by rintro w' ⟨s0, s1, s2, s3, s4, s5, s6⟩; go_simp; with_reducible rfl) ?_
            refine tv_ 15 140 rfl HT_ HW_ hHeld (by rintro w' ⟨s0, s1, s2, s3, s4, s5, s6⟩; go_simp; with_reducible rfl) ?_
            refine pv_ 16 141 HT_ ?_; refine tv_ 17 142 rfl HT_ HW_ hHeld (by rintro w' ⟨s0, s1, s2, s3, s4, s5, s6⟩; go_simp; with_reducible rfl) ?_
            refine tv_ 21 146 rfl HT_ HW_ hHeld (by rintro w' ⟨s0, s1, s2, s3, s4, s5, s6⟩; go_simp; with_reducible rfl) ?_
            refine pv_ 22 147 HT_ ?_; refine tv_ 23 148 rfl HT_ HW_ hHeld (by rintro w' ⟨s0, s1, s2, s3, s4, s5, s6⟩; go_simp; with_reducible rfl) ?_
            refine pv_ 24 149 HT_ ?_; refine pv_ 25 150 HT_ ?_
            refine last_ (i := 26) (N := none) #[true, true, true, true, true, true, true, true, true, true, true, true, true, true, true, true, true, true, true, true, true, true, true, true, true, true, true] rfl rfl (one_of HT_.out (by kernel_rfl)) (by decide) (fun K hK => ?_)
            refine skip_ (w1 := ?_) (by rfl) rfl ?_ ?_
            rotate_left
            ·go_simp
             rfl
            refine hK.out _ _ ?_
            clear hK K
            refine done_ (done_of HT_.out (by kernel_rfl)) ?_
            try go_wp2
            have n0_ : Aside0 (Kd.R (Kd.int .i64) 3 (w88.setCell ⟨go72, ((rd x7_3 t124) : Int).toNat, none⟩ (.int .i64 (wrap64 ((rd (rd_L2 y137 (rd x7_3 t124)) (rd x7_3 t124)) + 1)))) w.heap.size (fun _ => True) (.slice (some ad126) x7_3.length co82) x7_3) := ⟨by exact Kd.R_mono (Kd.R_far (p := ⟨go72, ((rd x7_3 t124) : Int).toNat, none⟩) (Kd.R_far1 HO_7.out rfl ((HL139_0.out.1 _ rfl).1)) (fun _ hk => hk.2) (.int .i64 (wrap64 ((rd (rd_L2 y137 (rd x7_3 t124)) (rd x7_3 t124)) + 1)))) (fun _ hk => trivial)⟩
            have n1_ : Aside0 (Kd.S (Kd.slice 3 (Kd.int .i64)) 29 (w88.setCell ⟨go72, ((rd x7_3 t124) : Int).toNat, none⟩ (.int .i64 (wrap64 ((rd (rd_L2 y137 (rd x7_3 t124)) (rd x7_3 t124)) + 1)))) w.heap.size (fun k_ => some k_ ≠ (.slice (some ad126) x7_3.length co82 : Value).ownBlock) (.slice (some ad129) x11_3.length co84) y147) := ⟨by exact HQ89.out⟩
            have n2_ : Aside0 ((w88.setCell ⟨go72, ((rd x7_3 t124) : Int).toNat, none⟩ (.int .i64 (wrap64 ((rd (rd_L2 y137 (rd x7_3 t124)) (rd x7_3 t124)) + 1)))).heap[gb101]? = some (.cells #[.int .i64 a0_0, .int .i64 a0_1] 40 (0, 0))) := ⟨by refine blk_far ?_ (by have h_ := Kd.R_ne HL139_0.out BK101.out (by decide); intro e_; exact h_ (by rw [e_]; rfl)) _; exact BK101.out⟩
            have n3_ : Aside0 (Below w.heap.size w (w88.setCell ⟨go72, ((rd x7_3 t124) : Int).toNat, none⟩ (.int .i64 (wrap64 ((rd (rd_L2 y137 (rd x7_3 t124)) (rd x7_3 t124)) + 1))))) := ⟨by repeat ((with_reducible first | exact HB.out | refine below_set ?_ GB72.out))⟩
            (try clear HO_7); (try clear HO_11); (try clear BK101); (try clear HB)
            generalize (w88.setCell ⟨go72, ((rd x7_3 t124) : Int).toNat, none⟩ (.int .i64 (wrap64 ((rd (rd_L2 y137 (rd x7_3 t124)) (rd x7_3 t124)) + 1)))) = w91 at n0_ n1_ n2_ n3_ ⊢
            have HO_7 := n0_; have HO_11 := n1_; have BK101 := n2_; have HB := n3_; clear n0_ n1_ n2_ n3_
            have n0_ := A_ (Kd.R_drew HO_7.out)
            have n1_ := A_ (Kd.S_drew HO_11.out)
            have n2_ := A_ (blk_drew BK101.out); have n3_ := A_ (below_drew1 HB.out); clear HO_7 HO_11 BK101 HB; have HO_7 := n0_; have HO_11 := n1_; have BK101 := n2_; have HB := n3_; clear n0_ n1_ n2_ n3_
            (try (obtain ⟨As_, cs_, es_⟩ := Kd.R_slice HO_7.out; subst es_))
            have p148 : 0 ≤ (t123 : Int) := oD_
            have q148 : t123 < (x7_3.length : Int) := oD_
            obtain ⟨ad148, e148, hx148_0⟩ := Kd.at_int (Kd.R_reads' HO_7.out).2.2 t123 p148 q148
            obtain rfl : ad126 = ad148 := (by injection e148)
            replace p148 := eq_true p148; replace q148 := eq_true q148
            have p149 : 0 ≤ ((rd x7_3 t123) : Int) := oD_
            have q149 : (rd x7_3 t123) < (y147.length : Int) := (by have h_ : ((rd x7_3 t123) : Int) < ((x11_3.length : Int) : Int) := oD_; (have e_ := (Kd.S_reads' HO_11.out).1; omega))
            have ql149 : (((rd x7_3 t123) : Int) < ((x11_3.length : Int) : Int)) = True := eq_true (oD_)
            obtain ⟨ad149, A149_0, c149_0, e149, hx149_0, hl149_0, hi149_0⟩ := at_L2 (Kd.S_reads' HO_11.out).2.2 (rd x7_3 t123) p149 q149
            obtain rfl : ad129 = ad149 := (by injection e149)
            obtain ⟨ce149, hce149, hMe149, hcc149⟩ := Kd.S_get HO_11.out [] (rd x7_3 t123) p149 (by exact oD_)
            obtain ⟨ve149_0, rfl, ge149_0⟩ := hMe149
            have hv149_0 := hcc149 0 _ rfl
            rw [Nat.add_zero, show ((Kd.slice 3 (Kd.int .i64))).sz = 1 from rfl, Nat.mul_one] at hv149_0
            replace hv149_0 := Option.some.inj (hv149_0.symm.trans hx149_0)
            rw [hv149_0] at ge149_0
            have HL149_0 := A_ (show Kd.R (Kd.int .i64) 3 _ _ _ _ (rd_L2 y147 (rd x7_3 t123)) from ge149_0)
            clear hv149_0 ge149_0
            have HX149_0 := A_ hx149_0
            clear hcc149 hce149
            have HR149_0 := A_ hi149_0
            have HC149_0 := A_ hl149_0
            clear hi149_0 hl149_0; replace p149 := eq_true p149; replace q149 := eq_true q149
            have p150 : 0 ≤ (t124 : Int) := oD_
            have q150 : t124 < (x7_3.length : Int) := oD_
            obtain ⟨ad150, e150, hx150_0⟩ := Kd.at_int (Kd.R_reads' HO_7.out).2.2 t124 p150 q150
            obtain rfl : ad126 = ad150 := (by injection e150)
            replace p150 := eq_true p150; replace q150 := eq_true q150
            (try (obtain ⟨As_, cs_, es_⟩ := Kd.R_slice HO_7.out; subst es_))
            have p151 : 0 ≤ (t123 : Int) := oD_
            have q151 : t123 < (x7_3.length : Int) := oD_
            obtain ⟨ad151, e151, hx151_0⟩ := Kd.at_int (Kd.R_reads' HO_7.out).2.2 t123 p151 q151
            obtain rfl : ad126 = ad151 := (by injection e151)
            replace p151 := eq_true p151; replace q151 := eq_true q151
            have p152 : 0 ≤ ((rd x7_3 t123) : Int) := oD_
            have q152 : (rd x7_3 t123) < (y147.length : Int) := (by have h_ : ((rd x7_3 t123) : Int) < ((x11_3.length : Int) : Int) := oD_; (have e_ := (Kd.S_reads' HO_11.out).1; omega))
            have ql152 : (((rd x7_3 t123) : Int) < ((x11_3.length : Int) : Int)) = True := eq_true (oD_)
            obtain ⟨ad152, A152_0, c152_0, e152, hx152_0, hl152_0, hi152_0⟩ := at_L2 (Kd.S_reads' HO_11.out).2.2 (rd x7_3 t123) p152 q152
            obtain rfl : ad129 = ad152 := (by injection e152)
            obtain ⟨ce152, hce152, hMe152, hcc152⟩ := Kd.S_get HO_11.out [] (rd x7_3 t123) p152 (by exact oD_)
            obtain ⟨ve152_0, rfl, ge152_0⟩ := hMe152
            have hv152_0 := hcc152 0 _ rfl
            rw [Nat.add_zero, show ((Kd.slice 3 (Kd.int .i64))).sz = 1 from rfl, Nat.mul_one] at hv152_0
            replace hv152_0 := Option.some.inj (hv152_0.symm.trans hx152_0)
            rw [hv152_0] at ge152_0
            have HL152_0 := A_ (show Kd.R (Kd.int .i64) 3 _ _ _ _ (rd_L2 y147 (rd x7_3 t123)) from ge152_0)
            clear hv152_0 ge152_0
            have HX152_0 := A_ hx152_0
            clear hcc152 hce152
            have HR152_0 := A_ hi152_0
            have HC152_0 := A_ hl152_0
            clear hi152_0 hl152_0; replace p152 := eq_true p152; replace q152 := eq_true q152
            have ea_ := Option.some.inj (hx149_0.symm.trans hx152_0)
            injection ea_ with ea_ en_ ec_
            subst ea_; subst ec_; clear en_
            have p153 : 0 ≤ (t124 : Int) := oD_
            have q153 : t124 < (x7_3.length : Int) := oD_
            obtain ⟨ad153, e153, hx153_0⟩ := Kd.at_int (Kd.R_reads' HO_7.out).2.2 t124 p153 q153
            obtain rfl : ad126 = ad153 := (by injection e153)
            replace p153 := eq_true p153; replace q153 := eq_true q153
            have p154 : 0 ≤ ((rd x7_3 t124) : Int) := oD_
            have q154 : (rd x7_3 t124) < ((rd_L2 y147 (rd x7_3 t123)).length : Int) := oD_
            obtain ⟨ad154, e154, hx154_0⟩ := Kd.at_int HR152_0.out (rd x7_3 t124) p154 q154
            cases e154
            replace p154 := eq_true p154; replace q154 := eq_true q154
            have p74 : 0 ≤ ((rd x7_3 t124) : Int) := oD_
            have q74 : ((rd x7_3 t124) : Int) < (((rd_L2 y147 (rd x7_3 t123)).length : Int) : Int) := oD_
            obtain ⟨go74, co74, eo74, gb74, gl74, cl74, HG74⟩ := Kd.R_form HL149_0.out (by omega)
            (cases eo74)
            have GB74 := A_ gb74
            have GG74 := A_ HG74
            clear gb74 gl74 HG74
            (simp only [add_plain] at hx154_0)
            obtain ⟨hx74_0, hf74_0⟩ := Kd.R_celln 0 HL149_0.out ((rd x7_3 t124) : Int) p74 q74
            replace p74 := eq_true p74; replace q74 := eq_true q74
            have hq93 : ((rd x7_3 t123) : Int) < (x11_3.length : Int) := (by have h_ : ((rd x7_3 t123) : Int) < ((x11_3.length : Int) : Int) := oD_; exact h_)
            obtain ⟨oki93, ce93, hcl93, hM93, hcc93, hok93, hbk93⟩ := Kd.S_borrow HO_11.out [] ((rd x7_3 t123) : Int) (oD_) hq93
            obtain ⟨ve93_0, rfl, ge93_0⟩ := hM93
            have hv93 := hcc93 0 _ rfl
            rw [Nat.add_zero, show ((Kd.slice 3 (Kd.int .i64))).sz = 1 from rfl, Nat.mul_one] at hv93
            replace hv93 := Option.some.inj (hv93.symm.trans HX149_0.out)
            subst hv93; clear hcc93 hcl93
            replace ge93_0 := (show Kd.R (Kd.int .i64) 3 _ _ _ _ (rd_L2 y147 (rd x7_3 t123)) from ge93_0)
            have HP93 := Kd.R_putg ge93_0 ((rd x7_3 t124) : Int) (wrap64 ((rd (rd_L2 y147 (rd x7_3 t123)) (rd x7_3 t124)) - 1))
            rw [← Ny155.out] at HP93
            have HS93 := hbk93 HP93.2 (fun k_ e_ => by injection e_ with e_; subst e_; exact ge93_0.1 _ rfl) (x' := y155) (Kd.M_row HP93.1)
            rw [← Ny157.out] at HS93
            have HQ93 := A_ HS93
            clear HP93 HS93 hbk93 hok93
            refine start_ (n := 27) (S := fun w' => w'.cell? (ad126.add (t123).toNat) = some (.int .i64 (rd x7_3 t123)) ∧ w'.cell? (ad129.add ((rd x7_3 t123)).toNat) = some (.slice (some ⟨go74, 0, none⟩) (rd_L2 y147 (rd x7_3 t123)).length c149_0) ∧ w'.cell? (ad126.add (t124).toNat) = some (.int .i64 (rd x7_3 t124)) ∧ w'.cell? (ad126.add (t123).toNat) = some (.int .i64 (rd x7_3 t123)) ∧ w'.cell? (ad129.add ((rd x7_3 t123)).toNat) = some (.slice (some ⟨go74, 0, none⟩) (rd_L2 y147 (rd x7_3 t123)).length c149_0) ∧ w'.cell? (ad126.add (t124).toNat) = some (.int .i64 (rd x7_3 t124)) ∧ w'.cell? ⟨go74, ((rd x7_3 t124)).toNat, none⟩ = some (.int .i64 (rd (rd_L2 y147 (rd x7_3 t123)) (rd x7_3 t124)))) (ds := [26]) #[false, false, false, false, false, false, false, false, false, false, false, false, false, false, false, false, false, false, false, false, false, false, false, false, false, false, false] (by kernel_rfl) rfl rfl ⟨hx148_0, hx149_0, hx150_0, hx151_0, hx152_0, hx153_0, hx154_0⟩ (fun hHeld => ?_); refine with_tabW spec_l12Trees.tab27 spec_l12Trees.bits27 (fun HT_ HW_ => ?_)
            generalize w91.drew = w92 at HO_7 HO_11 BK101 HB GG74 HL149_0 HL152_0 HQ89 HQ93 HR149_0 HR152_0 HX149_0 HX152_0 hf74_0 hx148_0 hx149_0 hx150_0 hx151_0 hx152_0 hx153_0 hx154_0 hx74_0 hHeld ⊢; refine pv_ 0 151 HT_ ?_; refine pv_ 1 152 HT_ ?_; refine pv_ 2 153 HT_ ?_; refine pv_ 3 154 HT_ ?_; refine pv_ 7 158 HT_ ?_; refine pv_ 8 159 HT_ ?_; refine pv_ 9 160 HT_ ?_; refine pv_ 11 162 HT_ ?_; refine pv_ 12 163 HT_ ?_; refine pv_ 13 164 HT_ ?_; refine pv_ 14 165 HT_ ?_; refine pv_ 18 169 HT_ ?_; refine pv_ 19 170 HT_ ?_; refine pv_ 20 171 HT_ ?_; refine tv_ 4 155 rfl HT_ HW_ hHeld (by rintro w' ⟨s0, s1, s2, s3, s4, s5, s6⟩; go_simp; with_reducible rfl) ?_
            refine pv_ 5 156 HT_ ?_; refine tv_ 6 157 rfl HT_ HW_ hHeld (by rintro w' ⟨s0, s1, s2, s3, s4, s5, s6⟩; go_simp; with_reducible rfl) ?_
            refine tv_ 10 161 rfl HT_ HW_ hHeld (by rintro w' ⟨s0, s1, s2, s3, s4, s5, s6⟩; go_simp; with_reducible rfl) ?_
            refine tv_ 15 166 rfl HT_ HW_ hHeld (by rintro w' ⟨s0, s1, s2, s3, s4, s5, s6⟩; go_simp; with_reducible rfl) ?_
            refine pv_ 16 167 HT_ ?_; refine tv_ 17 168 rfl HT_ HW_ hHeld (by rintro w' ⟨s0, s1, s2, s3, s4, s5, s6⟩; go_simp; with_reducible rfl) ?_
            refine tv_ 21 172 rfl HT_ HW_ hHeld (by rintro w' ⟨s0, s1, s2, s3, s4, s5, s6⟩; go_simp; with_reducible rfl) ?_
            refine pv_ 22 173 HT_ ?_; refine tv_ 23 174 rfl HT_ HW_ hHeld (by rintro w' ⟨s0, s1, s2, s3, s4, s5, s6⟩; go_simp; with_reducible rfl) ?_
            refine pv_ 24 175 HT_ ?_; refine pv_ 25 176 HT_ ?_
            refine last_ (i := 26) (N := none) #[true, true, true, true, true, true, true, true, true, true, true, true, true, true, true, true, true, true, true, true, true, true, true, true, true, true, true] rfl rfl (one_of HT_.out (by kernel_rfl)) (by decide) (fun K hK => ?_)
            refine skip_ (w1 := ?_) (by rfl) rfl ?_ ?_
            rotate_left
            ·go_simp
             rfl
            refine hK.out _ _ ?_
            clear hK K
            refine done_ (done_of HT_.out (by kernel_rfl)) ?_
            try go_wp2
            have n0_ : Aside0 (Kd.R (Kd.int .i64) 3 (w92.setCell ⟨go74, ((rd x7_3 t124) : Int).toNat, none⟩ (.int .i64 (wrap64 ((rd (rd_L2 y147 (rd x7_3 t123)) (rd x7_3 t124)) - 1)))) w.heap.size (fun _ => True) (.slice (some ad126) x7_3.length co82) x7_3) := ⟨by exact Kd.R_mono (Kd.R_far (p := ⟨go74, ((rd x7_3 t124) : Int).toNat, none⟩) (Kd.R_far1 HO_7.out rfl ((HL149_0.out.1 _ rfl).1)) (fun _ hk => hk.2) (.int .i64 (wrap64 ((rd (rd_L2 y147 (rd x7_3 t123)) (rd x7_3 t124)) - 1)))) (fun _ hk => trivial)⟩
            have n1_ : Aside0 (Kd.S (Kd.slice 3 (Kd.int .i64)) 29 (w92.setCell ⟨go74, ((rd x7_3 t124) : Int).toNat, none⟩ (.int .i64 (wrap64 ((rd (rd_L2 y147 (rd x7_3 t123)) (rd x7_3 t124)) - 1)))) w.heap.size (fun k_ => some k_ ≠ (.slice (some ad126) x7_3.length co82 : Value).ownBlock) (.slice (some ad129) x11_3.length co84) y157) := ⟨by exact HQ93.out⟩
            have n2_ : Aside0 ((w92.setCell ⟨go74, ((rd x7_3 t124) : Int).toNat, none⟩ (.int .i64 (wrap64 ((rd (rd_L2 y147 (rd x7_3 t123)) (rd x7_3 t124)) - 1)))).heap[gb101]? = some (.cells #[.int .i64 a0_0, .int .i64 a0_1] 40 (0, 0))) := ⟨by refine blk_far ?_ (by have h_ := Kd.R_ne HL149_0.out BK101.out (by decide); intro e_; exact h_ (by rw [e_]; rfl)) _; exact BK101.out⟩
            have n3_ : Aside0 (Below w.heap.size w (w92.setCell ⟨go74, ((rd x7_3 t124) : Int).toNat, none⟩ (.int .i64 (wrap64 ((rd (rd_L2 y147 (rd x7_3 t123)) (rd x7_3 t124)) - 1))))) := ⟨by repeat ((with_reducible first | exact HB.out | refine below_set ?_ GB74.out))⟩
            (try clear HO_7); (try clear HO_11); (try clear BK101); (try clear HB)
            generalize (w92.setCell ⟨go74, ((rd x7_3 t124) : Int).toNat, none⟩ (.int .i64 (wrap64 ((rd (rd_L2 y147 (rd x7_3 t123)) (rd x7_3 t124)) - 1)))) = w95 at n0_ n1_ n2_ n3_ ⊢
            have HO_7 := n0_; have HO_11 := n1_; have BK101 := n2_; have HB := n3_; clear n0_ n1_ n2_ n3_
            have n0_ := A_ (Kd.R_drew HO_7.out)
            have n1_ := A_ (Kd.S_drew HO_11.out)
            have n2_ := A_ (blk_drew BK101.out); have n3_ := A_ (below_drew1 HB.out); clear HO_7 HO_11 BK101 HB; have HO_7 := n0_; have HO_11 := n1_; have BK101 := n2_; have HB := n3_; clear n0_ n1_ n2_ n3_
            have p158 : 0 ≤ (t124 : Int) := oD_
            have q158 : t124 < (x7_3.length : Int) := oD_
            obtain ⟨ad158, e158, hx158_0⟩ := Kd.at_int (Kd.R_reads' HO_7.out).2.2 t124 p158 q158
            obtain rfl : ad126 = ad158 := (by injection e158)
            replace p158 := eq_true p158; replace q158 := eq_true q158
            have p159 : 0 ≤ ((rd x7_3 t124) : Int) := oD_
            have q159 : (rd x7_3 t124) < (y157.length : Int) := (by have h_ : ((rd x7_3 t124) : Int) < ((x11_3.length : Int) : Int) := oD_; (have e_ := (Kd.S_reads' HO_11.out).1; omega))
            have ql159 : (((rd x7_3 t124) : Int) < ((x11_3.length : Int) : Int)) = True := eq_true (oD_)
            obtain ⟨ad159, A159_0, c159_0, e159, hx159_0, hl159_0, hi159_0⟩ := at_L2 (Kd.S_reads' HO_11.out).2.2 (rd x7_3 t124) p159 q159
            obtain rfl : ad129 = ad159 := (by injection e159)
            obtain ⟨ce159, hce159, hMe159, hcc159⟩ := Kd.S_get HO_11.out [] (rd x7_3 t124) p159 (by exact oD_)
            obtain ⟨ve159_0, rfl, ge159_0⟩ := hMe159
            have hv159_0 := hcc159 0 _ rfl
            rw [Nat.add_zero, show ((Kd.slice 3 (Kd.int .i64))).sz = 1 from rfl, Nat.mul_one] at hv159_0
            replace hv159_0 := Option.some.inj (hv159_0.symm.trans hx159_0)
            rw [hv159_0] at ge159_0
            have HL159_0 := A_ (show Kd.R (Kd.int .i64) 3 _ _ _ _ (rd_L2 y157 (rd x7_3 t124)) from ge159_0)
            clear hv159_0 ge159_0
            have HX159_0 := A_ hx159_0
            clear hcc159 hce159
            have HR159_0 := A_ hi159_0
            have HC159_0 := A_ hl159_0
            clear hi159_0 hl159_0; replace p159 := eq_true p159; replace q159 := eq_true q159
            (try (obtain ⟨As_, cs_, es_⟩ := Kd.R_slice HO_7.out; subst es_))
            have p160 : 0 ≤ (t123 : Int) := oD_
            have q160 : t123 < (x7_3.length : Int) := oD_
            obtain ⟨ad160, e160, hx160_0⟩ := Kd.at_int (Kd.R_reads' HO_7.out).2.2 t123 p160 q160
            obtain rfl : ad126 = ad160 := (by injection e160)
            replace p160 := eq_true p160; replace q160 := eq_true q160
            have p161 : 0 ≤ (t124 : Int) := oD_
            have q161 : t124 < (x7_3.length : Int) := oD_
            obtain ⟨ad161, e161, hx161_0⟩ := Kd.at_int (Kd.R_reads' HO_7.out).2.2 t124 p161 q161
            obtain rfl : ad126 = ad161 := (by injection e161)
            replace p161 := eq_true p161; replace q161 := eq_true q161
            have p162 : 0 ≤ ((rd x7_3 t124) : Int) := oD_
            have q162 : (rd x7_3 t124) < (y157.length : Int) := (by have h_ : ((rd x7_3 t124) : Int) < ((x11_3.length : Int) : Int) := oD_; (have e_ := (Kd.S_reads' HO_11.out).1; omega))
            have ql162 : (((rd x7_3 t124) : Int) < ((x11_3.length : Int) : Int)) = True := eq_true (oD_)
            obtain ⟨ad162, A162_0, c162_0, e162, hx162_0, hl162_0, hi162_0⟩ := at_L2 (Kd.S_reads' HO_11.out).2.2 (rd x7_3 t124) p162 q162
            obtain rfl : ad129 = ad162 := (by injection e162)
            obtain ⟨ce162, hce162, hMe162, hcc162⟩ := Kd.S_get HO_11.out [] (rd x7_3 t124) p162 (by exact oD_)
            obtain ⟨ve162_0, rfl, ge162_0⟩ := hMe162
            have hv162_0 := hcc162 0 _ rfl
            rw [Nat.add_zero, show ((Kd.slice 3 (Kd.int .i64))).sz = 1 from rfl, Nat.mul_one] at hv162_0
            replace hv162_0 := Option.some.inj (hv162_0.symm.trans hx162_0)
            rw [hv162_0] at ge162_0
            have HL162_0 := A_ (show Kd.R (Kd.int .i64) 3 _ _ _ _ (rd_L2 y157 (rd x7_3 t124)) from ge162_0)
            clear hv162_0 ge162_0
            have HX162_0 := A_ hx162_0
            clear hcc162 hce162
            have HR162_0 := A_ hi162_0
            have HC162_0 := A_ hl162_0
            clear hi162_0 hl162_0; replace p162 := eq_true p162; replace q162 := eq_true q162
            have ea_ := Option.some.inj (hx159_0.symm.trans hx162_0)
            injection ea_ with ea_ en_ ec_
            subst ea_; subst ec_; clear en_
            (try (obtain ⟨As_, cs_, es_⟩ := Kd.R_slice HO_7.out; subst es_))
            have p163 : 0 ≤ (t123 : Int) := oD_
            have q163 : t123 < (x7_3.length : Int) := oD_
            obtain ⟨ad163, e163, hx163_0⟩ := Kd.at_int (Kd.R_reads' HO_7.out).2.2 t123 p163 q163
            obtain rfl : ad126 = ad163 := (by injection e163)
            replace p163 := eq_true p163; replace q163 := eq_true q163
            have p164 : 0 ≤ ((rd x7_3 t123) : Int) := oD_
            have q164 : (rd x7_3 t123) < ((rd_L2 y157 (rd x7_3 t124)).length : Int) := oD_
            obtain ⟨ad164, e164, hx164_0⟩ := Kd.at_int HR162_0.out (rd x7_3 t123) p164 q164
            cases e164
            replace p164 := eq_true p164; replace q164 := eq_true q164
            have p76 : 0 ≤ ((rd x7_3 t123) : Int) := oD_
            have q76 : ((rd x7_3 t123) : Int) < (((rd_L2 y157 (rd x7_3 t124)).length : Int) : Int) := oD_
            obtain ⟨go76, co76, eo76, gb76, gl76, cl76, HG76⟩ := Kd.R_form HL159_0.out (by omega)
            (cases eo76)
            have GB76 := A_ gb76
            have GG76 := A_ HG76
            clear gb76 gl76 HG76
            (simp only [add_plain] at hx164_0)
            obtain ⟨hx76_0, hf76_0⟩ := Kd.R_celln 0 HL159_0.out ((rd x7_3 t123) : Int) p76 q76
            replace p76 := eq_true p76; replace q76 := eq_true q76
            have hq97 : ((rd x7_3 t124) : Int) < (x11_3.length : Int) := (by have h_ : ((rd x7_3 t124) : Int) < ((x11_3.length : Int) : Int) := oD_; exact h_)
            obtain ⟨oki97, ce97, hcl97, hM97, hcc97, hok97, hbk97⟩ := Kd.S_borrow HO_11.out [] ((rd x7_3 t124) : Int) (oD_) hq97
            obtain ⟨ve97_0, rfl, ge97_0⟩ := hM97
            have hv97 := hcc97 0 _ rfl
            rw [Nat.add_zero, show ((Kd.slice 3 (Kd.int .i64))).sz = 1 from rfl, Nat.mul_one] at hv97
            replace hv97 := Option.some.inj (hv97.symm.trans HX159_0.out)
            subst hv97; clear hcc97 hcl97
            replace ge97_0 := (show Kd.R (Kd.int .i64) 3 _ _ _ _ (rd_L2 y157 (rd x7_3 t124)) from ge97_0)
            have HP97 := Kd.R_putg ge97_0 ((rd x7_3 t123) : Int) (wrap64 ((rd (rd_L2 y157 (rd x7_3 t124)) (rd x7_3 t123)) - 1))
            rw [← Ny165.out] at HP97
            have HS97 := hbk97 HP97.2 (fun k_ e_ => by injection e_ with e_; subst e_; exact ge97_0.1 _ rfl) (x' := y165) (Kd.M_row HP97.1)
            rw [← Ny167.out] at HS97
            have HQ97 := A_ HS97
            clear HP97 HS97 hbk97 hok97
            refine start_ (n := 27) (S := fun w' => w'.cell? (ad126.add (t124).toNat) = some (.int .i64 (rd x7_3 t124)) ∧ w'.cell? (ad129.add ((rd x7_3 t124)).toNat) = some (.slice (some ⟨go76, 0, none⟩) (rd_L2 y157 (rd x7_3 t124)).length c159_0) ∧ w'.cell? (ad126.add (t123).toNat) = some (.int .i64 (rd x7_3 t123)) ∧ w'.cell? (ad126.add (t124).toNat) = some (.int .i64 (rd x7_3 t124)) ∧ w'.cell? (ad129.add ((rd x7_3 t124)).toNat) = some (.slice (some ⟨go76, 0, none⟩) (rd_L2 y157 (rd x7_3 t124)).length c159_0) ∧ w'.cell? (ad126.add (t123).toNat) = some (.int .i64 (rd x7_3 t123)) ∧ w'.cell? ⟨go76, ((rd x7_3 t123)).toNat, none⟩ = some (.int .i64 (rd (rd_L2 y157 (rd x7_3 t124)) (rd x7_3 t123)))) (ds := [26]) #[false, false, false, false, false, false, false, false, false, false, false, false, false, false, false, false, false, false, false, false, false, false, false, false, false, false, false] (by kernel_rfl) rfl rfl ⟨hx158_0, hx159_0, hx160_0, hx161_0, hx162_0, hx163_0, hx164_0⟩ (fun hHeld => ?_); refine with_tabW spec_l12Trees.tab28 spec_l12Trees.bits28 (fun HT_ HW_ => ?_)
            generalize w95.drew = w96 at HO_7 HO_11 BK101 HB GG76 HL159_0 HL162_0 HQ93 HQ97 HR159_0 HR162_0 HX159_0 HX162_0 hf76_0 hx158_0 hx159_0 hx160_0 hx161_0 hx162_0 hx163_0 hx164_0 hx76_0 hHeld ⊢; refine pv_ 0 177 HT_ ?_; refine pv_ 1 178 HT_ ?_; refine pv_ 2 179 HT_ ?_; refine pv_ 3 180 HT_ ?_; refine pv_ 7 184 HT_ ?_; refine pv_ 8 185 HT_ ?_; refine pv_ 9 186 HT_ ?_; refine pv_ 11 188 HT_ ?_; refine pv_ 12 189 HT_ ?_; refine pv_ 13 190 HT_ ?_; refine pv_ 14 191 HT_ ?_; refine pv_ 18 195 HT_ ?_; refine pv_ 19 196 HT_ ?_; refine pv_ 20 197 HT_ ?_; refine tv_ 4 181 rfl HT_ HW_ hHeld (by rintro w' ⟨s0, s1, s2, s3, s4, s5, s6⟩; go_simp; with_reducible rfl) ?_
            refine pv_ 5 182 HT_ ?_; refine tv_ 6 183 rfl HT_ HW_ hHeld (by rintro w' ⟨s0, s1, s2, s3, s4, s5, s6⟩; go_simp; with_reducible rfl) ?_
            refine tv_ 10 187 rfl HT_ HW_ hHeld (by rintro w' ⟨s0, s1, s2, s3, s4, s5, s6⟩; go_simp; with_reducible rfl) ?_
            refine tv_ 15 192 rfl HT_ HW_ hHeld (by rintro w' ⟨s0, s1, s2, s3, s4, s5, s6⟩; go_simp; with_reducible rfl) ?_
            refine pv_ 16 193 HT_ ?_; refine tv_ 17 194 rfl HT_ HW_ hHeld (by rintro w' ⟨s0, s1, s2, s3, s4, s5, s6⟩; go_simp; with_reducible rfl) ?_
            refine tv_ 21 198 rfl HT_ HW_ hHeld (by rintro w' ⟨s0, s1, s2, s3, s4, s5, s6⟩; go_simp; with_reducible rfl) ?_
            refine pv_ 22 199 HT_ ?_; refine tv_ 23 200 rfl HT_ HW_ hHeld (by rintro w' ⟨s0, s1, s2, s3, s4, s5, s6⟩; go_simp; with_reducible rfl) ?_
            refine pv_ 24 201 HT_ ?_; refine pv_ 25 202 HT_ ?_
            refine last_ (i := 26) (N := none) #[true, true, true, true, true, true, true, true, true, true, true, true, true, true, true, true, true, true, true, true, true, true, true, true, true, true, true] rfl rfl (one_of HT_.out (by kernel_rfl)) (by decide) (fun K hK => ?_)
            refine skip_ (w1 := ?_) (by rfl) rfl ?_ ?_
            rotate_left
            ·go_simp
             rfl
            refine hK.out _ _ ?_
            clear hK K
            refine done_ (done_of HT_.out (by kernel_rfl)) ?_
            try go_wp2
            go_roundg k3
            case measure => have := HK1.out; have := HK2.out; have := HK3.out; omega
            case rel => exact ⟨(x7_3), (y167), (wrap64 (x13_3 + 1)), (by rfl), H', ⟨by have := HK1.out; have := HK2.out; have := HK3.out; omega⟩, ⟨by exact Kd.R_mono (Kd.R_far (p := ⟨go76, ((rd x7_3 t123) : Int).toNat, none⟩) (Kd.R_far1 HO_7.out rfl ((HL159_0.out.1 _ rfl).1)) (fun _ hk => hk.2) (.int .i64 (wrap64 ((rd (rd_L2 y157 (rd x7_3 t124)) (rd x7_3 t123)) - 1)))) (fun _ hk => trivial)⟩, ⟨by exact HQ97.out⟩, ⟨by refine blk_far ?_ (by have h_ := Kd.R_ne HL159_0.out BK101.out (by decide); intro e_; exact h_ (by rw [e_]; rfl)) _; exact BK101.out⟩, ⟨by repeat ((with_reducible first | exact HB.out | refine below_set ?_ GB76.out))⟩⟩
         ·rw [if_neg c45] at H
          have c45b0 : decide (x13_3 < t121) = false := decide_eq_false c45
          clear c45
          obtain ⟨t122, A990, H⟩ := oB_ H
          (try dsimp only at H); have A99 := A_ A990; clear A990
          obtain rfl := Option.some.inj H
          obtain ⟨hcz100_0, hcz100_1⟩ := kk2_ BK101.1
          have hfz100_0 := bf_ BK101.out 0
          have hfz100_1 := bf_ BK101.out 1
          have H : (spec_l12Tail.l0 k3 x8_1 x11_3 (([] : List (List Int))) 1) = some t122 := A99.out
          obtain ⟨y101, hy101⟩ : ∃ y_ : List (List Int), y_ = (([] : List (List Int))) := ⟨_, rfl⟩
          replace H : (spec_l12Tail.l0 k3 x8_1 x11_3 y101 1) = some t122 := by rw [hy101]; exact H
          have Ny101 := A_ hy101
          clear hy101
          have H' := A_ H
          clear H
          go_wp2_with (first | ((with_reducible refine gate_callee (f := 32) rfl ?_); refine gl_ 75 Try.func32 #[.agg #[.int .i64 a0_0, .int .i64 a0_1]] ?_; (with_reducible refine (spec_CountGaps.calls a0_0 a0_1 t121 _ A44.out).mono ?_); rintro e w101 ⟨rfl, hb⟩; refine ⟨_, rfl, ?_⟩; have n0_ := A_ (Kd.R_below HO_7.out hb); have n1_ := A_ (Kd.S_below HO_11.out hb); have n2_ := A_ (blk_below BK101.out hb); have n3_ := A_ (bs_ HB.1 hb); clear HO_7 HO_11 BK101 HB; have HO_7 := n0_; have HO_11 := n1_; have BK101 := n2_; have HB := n3_; clear n0_ n1_ n2_ n3_; (try clear hb); (try clear hk); obtain ⟨Ao102, co102, eo102⟩ := Kd.S_slice HO_11.out; subst eo102) | ((with_reducible refine gate_dst (N := 203) rfl ?_); have HO0 := A_ (show Kd.V (Kd.slice 3 (Kd.int .i64)) 29 _ w.heap.size (fun k_ => (True ∨ w.heap.size ≤ k_)) (.slice Ao102 x11_3.length co102) x11_3 from Kd.V_mono (Kd.S_V HO_11.out) (fun k_ hk => .inl trivial)); refine Kd.N_lit (Kd.slice 3 (Kd.int .i64)) _ 29 ?hg (N' := 203) ?hd (xs := ([] : List (List Int))) (inner := []) (ok := (fun k_ => (True ∨ w.heap.size ≤ k_))) (okp := (fun k_ => (True ∨ w.heap.size ≤ k_))) ?hr ?hp (fun _ hk => hk) (.inr (below_size HB.out)) (Below.refl _ _) (Nat.le_refl _) (by simp) ?_; (case hd => rfl); (case hg => rfl); (case hr => (go_simp; done)); (case hp => exact (Reps.none _ _)); intro v102 w3 ho4 hb hg_ hnew_; clear hg_ hnew_; (rw [← Ny101.out] at ho4); have n0_ := A_ (Kd.V_elder' HO0.out (Kd.N_base ho4) hb); have n1_ := A_ (Kd.N_lower ho4 (below_size HB.out)); have n2_ := A_ (bs_ HB.1 hb); clear HO0 HB; have HO0 := n0_; have HO103 := n1_; have HB := n2_; clear n0_ n1_ n2_ hb ho4))
          go_loopg [16, 17] k3 (fun kq v16 v17 w' => ∃ (x16_1 : List (List Int)) (x17_1 : Int), v17 = .int .i64 x17_1 ∧ Aside0 (spec_l12Tail.l0 kq x8_1 x11_3 x16_1 x17_1 = some t122) ∧ Aside0 (kq ≤ k3) ∧ Aside0 (Kd.V (Kd.slice 3 (Kd.int .i64)) 29 w' w.heap.size (fun k_ => (True ∨ w.heap.size ≤ k_) ∧ some k_ ≠ (v16 : Value).ownBlock) (.slice Ao102 x11_3.length co102) x11_3) ∧ Aside0 (Kd.N (Kd.slice 3 (Kd.int .i64)) 29 w' w.heap.size (fun k_ => (True ∨ w.heap.size ≤ k_)) v16 x16_1) ∧ Aside0 (Below w.heap.size w w'))
          case atStart => exact ⟨(y101), (1), (by rfl), H', ⟨Nat.le_refl _⟩, ⟨by exact HO0.out⟩, ⟨by exact HO103.out⟩, ⟨by repeat ((with_reducible exact HB.out))⟩⟩
          case round =>
           clear H'; try clear c2; try clear p2
           obtain ⟨x16_1, x17_1, rfl, HA, HK1, HO_11, HO_16, HB⟩ := hrel
           cases gk with
           | zero => exact absurd HA.out (by simp [spec_l12Tail.l0])
           | succ k1 =>
            have H := HA.out
            clear HA
            simp only [spec_l12Tail.l0] at H
            by_cases c5 : x17_1 < x8_1
            ·rw [if_pos c5] at H
             have c5b0 : decide (x17_1 < x8_1) = true := decide_eq_true c5
             clear c5
             replace H := iN_ H; obtain ⟨c6, H⟩ := H
             have c6b0 : decide (0 ≤ x17_1) = true := decide_eq_true c6
             clear c6
             replace H := iN_ H; obtain ⟨c7, H⟩ := H
             have c7b0 : decide (x17_1 < (x11_3.length : Int)) = true := decide_eq_true c7
             clear c7
             replace H := iN_ H; obtain ⟨c8, H⟩ := H
             have c8b0 := eq_true c8
             have c8b1 : decide (1 ≤ ((rd_L2 x11_3 x17_1).length : Int)) = true := decide_eq_true c8
             clear c8
             obtain ⟨y105, hy105⟩ : ∃ y_ : List Int, y_ = ((rd_L2 x11_3 x17_1).drop 1) := ⟨_, rfl⟩
             replace H : (if x16_1.length < 5864062014805 then (spec_l12Tail.l0 k1 x8_1 x11_3 (x16_1 ++ [y105]) (wrap64 (x17_1 + 1))) else (none)) = some t122 := by (rw [hy105]; with_reducible exact H)
             have Ny105 := A_ hy105
             clear hy105
             replace H := iN_ H; obtain ⟨c9, H⟩ := H
             have LMc9 := A_ c9
             clear c9
             obtain ⟨y110, hy110⟩ : ∃ y_ : List (List Int), y_ = (x16_1 ++ [y105]) := ⟨_, rfl⟩
             replace H : (spec_l12Tail.l0 k1 x8_1 x11_3 y110 (wrap64 (x17_1 + 1))) = some t122 := by (rw [hy110]; with_reducible exact H)
             have Ny110 := A_ hy110
             clear hy110
             have H' := A_ H
             clear H
             have p104 : 0 ≤ (x17_1 : Int) := oD_
             have q104 : x17_1 < (x11_3.length : Int) := oD_
             obtain ⟨ad104, A104_0, c104_0, e104, hx104_0, hl104_0, hi104_0⟩ := at_L2 (Kd.V_reads' HO_11.out).2.2 x17_1 p104 q104
             cases e104
             obtain ⟨ce104, hce104, hMe104, hcc104⟩ := Kd.V_get HO_11.out [] x17_1 p104 (by exact q104)
             obtain ⟨ua104_0, uc104_0, rfl, ul104_0, ge104_0⟩ := Kd.FK_slice_open hMe104
             have hv104_0 := hcc104 0 _ rfl
             rw [Nat.add_zero, show ((Kd.slice 3 (Kd.int .i64))).sz = 1 from rfl, Nat.mul_one] at hv104_0
             replace hv104_0 := Option.some.inj (hv104_0.symm.trans hx104_0)
             injection hv104_0 with hva_ hvn_ hvc_
             rw [hva_] at ge104_0
             rw [hvc_] at ul104_0
             have HL104_0 := A_ (show Kd.V (Kd.int .i64) 3 _ w.heap.size _ _ (rd_L2 x11_3 x17_1) from Kd.V_mk ul104_0 ge104_0)
             clear hva_ hvn_ hvc_ ge104_0 ul104_0 hcc104 hce104
             have HR104_0 := A_ hi104_0
             have HC104_0 := A_ hl104_0
             clear hi104_0 hl104_0; replace p104 := eq_true p104; replace q104 := eq_true q104
             have q10 : (1 : Int) ≤ (((rd_L2 x11_3 x17_1).length : Int) : Int) := oD_
             obtain ⟨i010, hi010, _, hsz10, _⟩ := info_parts info3
             have hroom10 : (rd_L2 x11_3 x17_1).length ≤ c104_0 := HC104_0.out
             have hC10 : Kd.F (Kd.int .i64) _ _ A104_0 (rd_L2 x11_3 x17_1).length (rd_L2 x11_3 x17_1) := (Kd.V_at (base := w.heap.size) HL104_0.out).2.2
             have hcut10 := cut_from (P := Try.prog) 29 3 .i64 Try.underlying29 hi010 1 hsz10 A104_0 (rd_L2 x11_3 x17_1).length c104_0 1 (by omega) q10
             have hr10 := Kd.F_cut (m := (1 : Int).toNat) (c := c104_0) hC10 (by omega) hroom10
             obtain ⟨A10, hA10⟩ : ∃ A1, A1 = (if c104_0 = (1 : Int).toNat then A104_0 else (A104_0 : Option Addr).map (·.add ((1 : Int).toNat * 1))) := ⟨_, rfl⟩
             obtain ⟨c10, hc10⟩ : ∃ c1, c1 = c104_0 - (1 : Int).toNat := ⟨_, rfl⟩
             have hy10 : y105.length = (rd_L2 x11_3 x17_1).length - (1 : Int).toNat := (by rw [Ny105.out, List.length_drop] <;> omega)
             rw [show (rd_L2 x11_3 x17_1).drop (1 : Int).toNat = y105 from Ny105.out.symm] at hr10
             replace hr10 : Kd.F (Kd.int .i64) _ _ A10 y105.length y105 := (by rw [hA10]; exact hr10)
             rw [← hy10, ← hA10, ← hc10] at hcut10
             have HO109 := A_ (show Kd.V (Kd.int .i64) 3 _ w.heap.size _ (.slice A10 y105.length c10) y105 from Kd.V_mk (by rw [hy10, hc10]; exact Nat.sub_le_sub_right hroom10 _) hr10)
             have HC109 := A_ (show y105.length ≤ c10 from by rw [hy10, hc10]; exact Nat.sub_le_sub_right hroom10 _)
             clear hr10 hC10 hroom10 hi010 hsz10 hc10
             have KY10 := A_ hy10
             have KA10 := A_ hA10
             clear hy10 hA10; replace q10 := eq_true q10
             go_wp2_with (((with_reducible refine gate_builtin (b := .append) (xs := #[.tmp 209, .tmp 215]) rfl ?_); at_builtin; refine Kd.N_append (Kd.slice 3 (Kd.int .i64)) (w0 := w) w.heap.size rfl (.tmp 209) (.tmp 215) 24 29 (.slice none 0 0) 24 rfl Try.underlying24 info29 rfl (by decide) (by omega) u16 x16_1 y105 [.slice A10 y105.length c10] (fun k_ => (True ∨ w.heap.size ≤ k_)) (fun k_ => ((fun k_ => (True ∨ w.heap.size ≤ k_))) k_ ∧ some k_ ≠ (u16 : Value).ownBlock) rfl rfl ?aP (fun _ hk => hk) ?aF ?aO ?aB ?aS ?aL ?_; (case aP => exact (Kd.FK_slice_mk (Kd.V_reads' (Kd.V_mono (ok' := (fun k_ => ((fun k_ => (True ∨ w.heap.size ≤ k_))) k_ ∧ some k_ ≠ (u16 : Value).ownBlock)) (HO109.out) (fun k_ hk => ⟨hk.1, hk.2⟩))).2.1 (Kd.V_F (Kd.V_mono (ok' := (fun k_ => ((fun k_ => (True ∨ w.heap.size ≤ k_))) k_ ∧ some k_ ≠ (u16 : Value).ownBlock)) (HO109.out) (fun k_ hk => ⟨hk.1, hk.2⟩))))); (case aB => exact HB.out); (case aF => exact (fun k_ hk => (.inr (Nat.le_trans (below_size HB.out) hk)))); (case aO => exact HO_16.out); (case aS => exact (below_size HB.out)); (case aL => have := LMc9.out; omega); intro v111 w11 ho hb hg hat; rw [← Ny110.out] at ho; have n0_ := A_ (Kd.V_afterv (ok := (fun k_ => (True ∨ w.heap.size ≤ k_))) HO_11.out hg hat); have n1_ := A_ (Kd.V_afterv (ok := (fun k_ => (True ∨ w.heap.size ≤ k_))) HL104_0.out hg hat); have n2_ := A_ (Kd.V_afterv (ok := (fun k_ => (True ∨ w.heap.size ≤ k_))) HO109.out hg hat); have n3_ := A_ (hb); have n4_ := A_ (ho); clear HO_11 HL104_0 HO109 HB HO_16; have HO_11 := n0_; have HL104_0 := n1_; have HO109 := n2_; have HB := n3_; have HO112 := n4_; clear n0_ n1_ n2_ n3_ n4_ ho hb hg hat))
             go_roundg k1
             case measure => have := HK1.out; omega
             case rel => exact ⟨(y110), (wrap64 (x17_1 + 1)), (by rfl), H', ⟨by have := HK1.out; omega⟩, ⟨by exact HO_11.out⟩, ⟨by exact HO112.out⟩, ⟨by repeat ((with_reducible exact HB.out))⟩⟩
            ·rw [if_neg c5] at H
             have c5b0 : decide (x17_1 < x8_1) = false := decide_eq_false c5
             clear c5
             obtain ⟨t113, A120, H⟩ := oB_ H
             (try dsimp only at H); have A12 := A_ A120; clear A120
             obtain rfl := Option.some.inj H
             obtain ⟨Ao13, co13, eo13⟩ := Kd.N_slice HO_16.out
             subst eo13
             go_wp2_with (((with_reducible refine gate_callee (f := 86) rfl ?_); refine gl_ 218 Try.func86 #[.slice Ao13 x16_1.length co13] ?_; (with_reducible refine (spec_l11Trees.calls k1 _ _ x16_1 t113 _ ?side1 ?side2 A12.out).mono ?_); (case side1 => repeat (exact (Kd.N_reads' HO_16.out).2.2)); (case side2 => exact (Kd.N_reads' HO_16.out).2.1); rintro e w14 ⟨rfl, hb⟩; refine ⟨_, rfl, ?_⟩; have n0_ := A_ (Kd.V_below HO_11.out hb); have n1_ := A_ (Kd.N_below HO_16.out hb); have n2_ := A_ (bs_ HB.1 hb); clear HO_11 HO_16 HB; have HO_11 := n0_; have HO_16 := n1_; have HB := n2_; clear n0_ n1_ n2_; (try clear hb); (try clear hk)))
             go_ret
             exact ⟨by rfl, by repeat ((with_reducible exact HB.out))⟩

end Go.Proofs.Ytoohcdfokejkdaa.P
namespace Go.Proofs.Ytoohcdfokejkdaa.P
open Go.RowKit Go.Proofs.YtoohcdfokejkdaaW.PrintWords Go.Proofs.YtoohcdfokejkdaaW.PrintLast Go.Proofs.YtoohcdfokejkdaaW.PrintMore
attribute [local go_sem] max2_int min2_int max_two min_two max_three min_three max_four min_four   -- for this text's walks alone
set_option linter.unusedVariables false
set_option linter.unusedSimpArgs false

mutual
def spec_CountFixed.j0 : Nat → Int → Int → Int → Bool → Int → Int → Option (Int)
 | 0, _, _, _, _, _, _ => none
 | k + 1, x1, x2, x7, x41, x102000, x102001 => if x41 = true then (some 0) else ((spec_CountCells.f x102000 x102001).bind fun t106 => (if 0 ≤ t106 then (if (t106 : Int).toNat ≤ 35184372088832 then (spec_CountFixed.l0 k x1 x2 x7 (List.replicate (t106 : Int).toNat 0) 0 x102000 x102001) else (none)) else (none)))
def spec_CountFixed.l0 : Nat → Int → Int → Int → List Int → Int → Int → Int → Option (Int)
 | 0, _, _, _, _, _, _, _ => none
 | k + 1, x1, x2, x7, x8, x9, x102000, x102001 => if x9 < (x8.length : Int) then (if 0 ≤ x9 then (spec_CountFixed.l0 k x1 x2 x7 (x8.set (x9 : Int).toNat x9) (wrap64 (x9 + 1)) x102000 x102001) else (none)) else (spec_CountFixed.l1 k x1 x2 x7 x8 0 x102000 x102001)
def spec_CountFixed.l1 : Nat → Int → Int → Int → List Int → Int → Int → Int → Option (Int)
 | 0, _, _, _, _, _, _, _ => none
 | k + 1, x1, x2, x7, x8, x10, x102000, x102001 => if x10 < x7 then ((spec_l03Bit.f x1 x10).bind fun t112 => (if t112 = true then ((spec_EndsOf.f x102000 x102001 x10).bind fun bt113 => (if 0 ≤ bt113.1 then (if bt113.1 < (x8.length : Int) then (if 0 ≤ bt113.2 then (if bt113.2 < (x8.length : Int) then (if (rd x8 bt113.1) = (rd x8 bt113.2) then (some 0) else (spec_CountFixed.l2 k x1 x2 x7 x8 x10 bt113.1 (rd x8 bt113.2) 0 x102000 x102001)) else (none)) else (none)) else (none)) else (none))) else (spec_CountFixed.l1 k x1 x2 x7 x8 (wrap64 (x10 + 1)) x102000 x102001))) else ((spec_l12Trees.f k x102000 x102001 (Go.bits .or .i64 x1 x2) x8).bind fun t111 => (some t111))
def spec_CountFixed.l2 : Nat → Int → Int → Int → List Int → Int → Int → Int → Int → Int → Int → Option (Int)
 | 0, _, _, _, _, _, _, _, _, _, _ => none
 | k + 1, x1, x2, x7, x8, x10, x11, x13, x14, x102000, x102001 => if x14 < (x8.length : Int) then (if 0 ≤ x14 then (if (rd x8 x14) = x13 then (if 0 ≤ x11 then (if x11 < (x8.length : Int) then (spec_CountFixed.l2 k x1 x2 x7 (x8.set (x14 : Int).toNat (rd x8 x11)) x10 x11 x13 (wrap64 (x14 + 1)) x102000 x102001) else (none)) else (none)) else (spec_CountFixed.l2 k x1 x2 x7 x8 x10 x11 x13 (wrap64 (x14 + 1)) x102000 x102001)) else (none)) else (spec_CountFixed.l1 k x1 x2 x7 x8 (wrap64 (x10 + 1)) x102000 x102001)
end
def spec_CountFixed.f (k : Nat) (a0_0 : Int) (a0_1 : Int) (a1 : Int) (a2 : Int) : Option (Int) := (spec_CountGaps.f a0_0 a0_1).bind fun t102 => ((spec_GridOk.f a0_0 a0_1).bind fun t103 => (if t103 = true then (if 0 ≤ t102 then ((spec_l01In.f a1 0 (wrap64 ((shl .i64 1 t102) - 1))).bind fun t104 => (if t104 = true then ((spec_l01In.f a2 0 (wrap64 ((shl .i64 1 t102) - 1))).bind fun t105 => (if t105 = true then (spec_CountFixed.j0 k a1 a2 t102 ((Go.bits .and .i64 a1 a2) != 0) a0_0 a0_1) else (spec_CountFixed.j0 k a1 a2 t102 true a0_0 a0_1))) else (spec_CountFixed.j0 k a1 a2 t102 true a0_0 a0_1))) else (none)) else (spec_CountFixed.j0 k a1 a2 t102 true a0_0 a0_1)))
set_option maxHeartbeats 8000000 in
set_option maxRecDepth 100000 in
theorem spec_CountFixed.calls (k : Nat) (a0_0 : Int) (a0_1 : Int) (a1 : Int) (a2 : Int) (r : Int) (w : World) (h : spec_CountFixed.f k a0_0 a0_1 a1 a2 = some r) :
  Calls Try.prog 37 #[.agg #[.int .i64 a0_0, .int .i64 a0_1], .int .i64 a1, .int .i64 a2] w fun e w' => e = .returned (.int .i64 r) ∧ Below w.heap.size w w' := by
 have hu40 := Try.underlying40
 have HB := A_ (Below.refl w.heap.size w)
 have H : ((spec_CountGaps.f a0_0 a0_1).bind fun t102 => ((spec_GridOk.f a0_0 a0_1).bind fun t103 => (if t103 = true then (if 0 ≤ t102 then ((spec_l01In.f a1 0 (wrap64 ((shl .i64 1 t102) - 1))).bind fun t104 => (if t104 = true then ((spec_l01In.f a2 0 (wrap64 ((shl .i64 1 t102) - 1))).bind fun t105 => (if t105 = true then (spec_CountFixed.j0 k a1 a2 t102 ((Go.bits .and .i64 a1 a2) != 0) a0_0 a0_1) else (spec_CountFixed.j0 k a1 a2 t102 true a0_0 a0_1))) else (spec_CountFixed.j0 k a1 a2 t102 true a0_0 a0_1))) else (none)) else (spec_CountFixed.j0 k a1 a2 t102 true a0_0 a0_1)))) = some r := h
 clear h
 obtain ⟨t102, A40, H⟩ := oB_ H
 (try dsimp only at H); have A4 := A_ A40; clear A40
 have HC5 := A_ H
 clear H
 go_enter Try.func37, Try.ntmps37
 go_upto_region 2 with (first | ((with_reducible refine gate_dst (N := 3) rfl ?_); refine box_event ?hg (N := 3) ?hd (cs := #[.int .i64 a0_0, .int .i64 a0_1]) (t := 40) ?hr ?_; (case hd => rfl); (case hg => rfl); (case hr => first | (go_simp; done) | (go_simp; rfl)); intro gb101 hg w6 hbox hb; have n0_ := A_ (below_step (by repeat first | exact HB.1 | apply bA_ | apply bB_ | apply bC_) hb); have n1_ := A_ (hbox); have n2_ := A_ ((by rw [hg]; exact (below_size (by repeat first | exact HB.1 | apply bA_ | apply bB_ | apply bC_)) : w.heap.size ≤ gb101)); have n3_ := n2_; clear HB; have HB := n0_; have BK101 := n1_; have GW101 := n2_; have GE101 := n3_; clear n0_ n1_ n2_ n3_ hb hbox hg; obtain ⟨hcz7_0, hcz7_1⟩ := kk2_ BK101.1; have hfz7_0 := bf_ BK101.out 0; have hfz7_1 := bf_ BK101.out 1) | (go_at_call 32; (with_reducible refine (spec_CountGaps.calls a0_0 a0_1 t102 _ A4.out).mono ?_); rintro e w8 ⟨rfl, hb⟩; have n0_ := A_ (blk_below (g := gb101) (o := .cells #[.int .i64 a0_0, .int .i64 a0_1] 40 (0, 0)) (by (with_reducible repeat first | refine cA_ ?_ _ | refine cB_ ?_ | refine cC_ ?_ _); exact BK101.1) hb); have n1_ := A_ (below_step (by repeat first | exact HB.1 | apply bA_ | apply bB_ | apply bC_ | refine below_set ?_ GE101.out) hb); clear BK101 HB; have BK101 := n0_; have HB := n1_; clear n0_ n1_; (try clear hb); (try clear hk)))
 repeat (go_quiet (fail); go_upto_region 2 with (first | ((with_reducible refine gate_dst (N := 3) rfl ?_); refine box_event ?hg (N := 3) ?hd (cs := #[.int .i64 a0_0, .int .i64 a0_1]) (t := 40) ?hr ?_; (case hd => rfl); (case hg => rfl); (case hr => first | (go_simp; done) | (go_simp; rfl)); intro gb101 hg w6 hbox hb; have n0_ := A_ (below_step (by repeat first | exact HB.1 | apply bA_ | apply bB_ | apply bC_) hb); have n1_ := A_ (hbox); have n2_ := A_ ((by rw [hg]; exact (below_size (by repeat first | exact HB.1 | apply bA_ | apply bB_ | apply bC_)) : w.heap.size ≤ gb101)); have n3_ := n2_; clear HB; have HB := n0_; have BK101 := n1_; have GW101 := n2_; have GE101 := n3_; clear n0_ n1_ n2_ n3_ hb hbox hg; obtain ⟨hcz7_0, hcz7_1⟩ := kk2_ BK101.1; have hfz7_0 := bf_ BK101.out 0; have hfz7_1 := bf_ BK101.out 1) | (go_at_call 32; (with_reducible refine (spec_CountGaps.calls a0_0 a0_1 t102 _ A4.out).mono ?_); rintro e w8 ⟨rfl, hb⟩; have n0_ := A_ (blk_below (g := gb101) (o := .cells #[.int .i64 a0_0, .int .i64 a0_1] 40 (0, 0)) (by (with_reducible repeat first | refine cA_ ?_ _ | refine cB_ ?_ | refine cC_ ?_ _); exact BK101.1) hb); have n1_ := A_ (below_step (by repeat first | exact HB.1 | apply bA_ | apply bB_ | apply bC_ | refine below_set ?_ GE101.out) hb); clear BK101 HB; have BK101 := n0_; have HB := n1_; clear n0_ n1_; (try clear hb); (try clear hk))))
 (try simp only [Act.put, List.setIfInBounds_toArray, List.set_cons_zero, List.set_cons_succ])
 go_cut [41] (fun v41 wc => ∃ (kq : Nat) (x41_4 : Bool), v41 = .bool x41_4 ∧ Aside0 (spec_CountFixed.j0 kq a1 a2 t102 x41_4 a0_0 a0_1 = some r) ∧ Aside0 (kq ≤ k) ∧ Aside0 (wc.heap[gb101]? = some (.cells #[.int .i64 a0_0, .int .i64 a0_1] 40 (0, 0))) ∧ Aside0 (Below w.heap.size w wc))
 case first =>
  have H := HC5.out
  clear HC5
  obtain ⟨t103, A90, H⟩ := oB_ H
  (try dsimp only at H); have A9 := A_ A90; clear A90
  by_cases c10 : t103 = true
  ·subst c10
   rw [if_pos rfl] at H
   replace H := iN_ H; obtain ⟨c11, H⟩ := H
   have c11b0 := eq_true c11
   have c11b1 : decide (0 ≤ t102) = true := decide_eq_true c11
   clear c11
   obtain ⟨ji12, hji12⟩ : ∃ j_ : Int, (shl .i64 1 t102) = j_ := ⟨_, rfl⟩
   replace H : ((spec_l01In.f a1 0 (wrap64 ((ji12) - 1))).bind fun t104 => (if t104 = true then ((spec_l01In.f a2 0 (wrap64 ((ji12) - 1))).bind fun t105 => (if t105 = true then (spec_CountFixed.j0 k a1 a2 t102 ((Go.bits .and .i64 a1 a2) != 0) a0_0 a0_1) else (spec_CountFixed.j0 k a1 a2 t102 true a0_0 a0_1))) else (spec_CountFixed.j0 k a1 a2 t102 true a0_0 a0_1))) = some r := by first | (rw [hji12] at H; exact H) | (simp only [hji12] at H ⊢; exact H)
   (try rw [hji12] at A9)
   have hji12_ : (IntKind.i64.wrap (1 * 2 ^ min t102.toNat 64)) = ji12 := hji12
   have hji12z : t102 ≤ 64 → (IntKind.i64.wrap (1 * 2 ^ t102.toNat)) = ji12 := shl_small hji12
   have hji12u : (IntKind.i64.wrap (2 ^ min t102.toNat 64)) = ji12 := by have h_ := hji12_; rw [Int.one_mul] at h_; exact h_
   have hji12v : t102 ≤ 64 → (IntKind.i64.wrap (2 ^ t102.toNat)) = ji12 := fun hle_ => by have h_ := hji12z hle_; rw [Int.one_mul] at h_; exact h_
   have hji12y : (wrap64 (1 * 2 ^ min t102.toNat 64)) = ji12 := (i64_w _).symm.trans hji12_
   have hji12x : t102 ≤ 64 → (wrap64 (1 * 2 ^ t102.toNat)) = ji12 := fun h_ => (i64_w _).symm.trans (hji12z h_)
   obtain ⟨t104, A130, H⟩ := oB_ H
   (try dsimp only at H); have A13 := A_ A130; clear A130
   by_cases c14 : t104 = true
   ·subst c14
    rw [if_pos rfl] at H
    have c15b0 := eq_true (of_decide_eq_true (by first | (with_reducible assumption) | assumption) : 0 ≤ t102)
    obtain ⟨t105, A160, H⟩ := oB_ H
    (try dsimp only at H); have A16 := A_ A160; clear A160
    by_cases c17 : t105 = true
    ·subst c17
     rw [if_pos rfl] at H
     have H' := A_ H
     clear H
     obtain ⟨hcz18_0, hcz18_1⟩ := kk2_ BK101.1
     have hfz18_0 := bf_ BK101.out 0
     have hfz18_1 := bf_ BK101.out 1
     go_wp2_with (first | (go_at_call 74; (with_reducible refine (spec_GridOk.calls a0_0 a0_1 true _ A9.out).mono ?_); rintro e w19 ⟨rfl, hb⟩; have n0_ := A_ (blk_below (g := gb101) (o := .cells #[.int .i64 a0_0, .int .i64 a0_1] 40 (0, 0)) (by (with_reducible repeat first | refine cA_ ?_ _ | refine cB_ ?_ | refine cC_ ?_ _); exact BK101.1) hb); have n1_ := A_ (below_step (by repeat first | exact HB.1 | apply bA_ | apply bB_ | apply bC_ | refine below_set ?_ GE101.out) hb); clear BK101 HB; have BK101 := n0_; have HB := n1_; clear n0_ n1_; (try clear hb); (try clear hk)) | (go_at_call 61; (with_reducible refine (spec_l01In.calls a1 0 (wrap64 ((ji12) - 1)) true _ A13.out).mono ?_); rintro e w' ⟨rfl, ⟨nd, rfl⟩⟩; (try first | exact ⟨rfl, _, World.drewN_drewN _ _ _⟩ | exact ⟨rfl, _, Eq.trans (World.drewN_drewN _ _ _) (congrArg (World.drewN _) (Nat.add_assoc _ _ _))⟩)) | (go_at_call 61; (with_reducible refine (spec_l01In.calls a2 0 (wrap64 ((ji12) - 1)) true _ A16.out).mono ?_); rintro e w' ⟨rfl, ⟨nd, rfl⟩⟩; (try first | exact ⟨rfl, _, World.drewN_drewN _ _ _⟩ | exact ⟨rfl, _, Eq.trans (World.drewN_drewN _ _ _) (congrArg (World.drewN _) (Nat.add_assoc _ _ _))⟩)))
     repeat (go_quiet (fail); try go_wp2_with (fail))
     go_meet
     case rel => exact ⟨_, (((Go.bits .and .i64 a1 a2) != 0)), (by first | rfl | (simp; done) | (simp [*]; done)), H', ⟨by first | omega | exact Nat.le_refl _⟩, ⟨by (with_reducible repeat (first | refine blk_drewN ?_ _ | refine blk_drew ?_ | refine blk_alloc ?_ _)); exact BK101.out⟩, ⟨by repeat (first | (with_reducible first | exact HB.out | apply below_alloc | apply pw_below_drewN | apply below_drew1 | refine below_set ?_ GE101.out) | exact HB.out)⟩⟩
    ·replace c17 := Bool.eq_false_iff.mpr c17
     subst c17
     have H1 : (spec_CountFixed.j0 k a1 a2 t102 true a0_0 a0_1) = some r := by rw [if_neg (show ¬ (false = true) by decide)] at H; exact H
     clear H
     have H := H1
     clear H1
     have H' := A_ H
     clear H
     obtain ⟨hcz20_0, hcz20_1⟩ := kk2_ BK101.1
     have hfz20_0 := bf_ BK101.out 0
     have hfz20_1 := bf_ BK101.out 1
     go_wp2_with (first | (go_at_call 74; (with_reducible refine (spec_GridOk.calls a0_0 a0_1 true _ A9.out).mono ?_); rintro e w21 ⟨rfl, hb⟩; have n0_ := A_ (blk_below (g := gb101) (o := .cells #[.int .i64 a0_0, .int .i64 a0_1] 40 (0, 0)) (by (with_reducible repeat first | refine cA_ ?_ _ | refine cB_ ?_ | refine cC_ ?_ _); exact BK101.1) hb); have n1_ := A_ (below_step (by repeat first | exact HB.1 | apply bA_ | apply bB_ | apply bC_ | refine below_set ?_ GE101.out) hb); clear BK101 HB; have BK101 := n0_; have HB := n1_; clear n0_ n1_; (try clear hb); (try clear hk)) | (go_at_call 61; (with_reducible refine (spec_l01In.calls a1 0 (wrap64 ((ji12) - 1)) true _ A13.out).mono ?_); rintro e w' ⟨rfl, ⟨nd, rfl⟩⟩; (try first | exact ⟨rfl, _, World.drewN_drewN _ _ _⟩ | exact ⟨rfl, _, Eq.trans (World.drewN_drewN _ _ _) (congrArg (World.drewN _) (Nat.add_assoc _ _ _))⟩)) | (go_at_call 61; (with_reducible refine (spec_l01In.calls a2 0 (wrap64 ((ji12) - 1)) false _ A16.out).mono ?_); rintro e w' ⟨rfl, ⟨nd, rfl⟩⟩; (try first | exact ⟨rfl, _, World.drewN_drewN _ _ _⟩ | exact ⟨rfl, _, Eq.trans (World.drewN_drewN _ _ _) (congrArg (World.drewN _) (Nat.add_assoc _ _ _))⟩)))
     repeat (go_quiet (fail); try go_wp2_with (fail))
     go_meet
     case rel => exact ⟨_, (true), (by first | rfl | (simp; done) | (simp [*]; done)), H', ⟨by first | omega | exact Nat.le_refl _⟩, ⟨by (with_reducible repeat (first | refine blk_drewN ?_ _ | refine blk_drew ?_ | refine blk_alloc ?_ _)); exact BK101.out⟩, ⟨by repeat (first | (with_reducible first | exact HB.out | apply below_alloc | apply pw_below_drewN | apply below_drew1 | refine below_set ?_ GE101.out) | exact HB.out)⟩⟩
   ·replace c14 := Bool.eq_false_iff.mpr c14
    subst c14
    have H1 : (spec_CountFixed.j0 k a1 a2 t102 true a0_0 a0_1) = some r := by rw [if_neg (show ¬ (false = true) by decide)] at H; exact H
    clear H
    have H := H1
    clear H1
    have H' := A_ H
    clear H
    obtain ⟨hcz22_0, hcz22_1⟩ := kk2_ BK101.1
    have hfz22_0 := bf_ BK101.out 0
    have hfz22_1 := bf_ BK101.out 1
    go_wp2_with (first | (go_at_call 74; (with_reducible refine (spec_GridOk.calls a0_0 a0_1 true _ A9.out).mono ?_); rintro e w23 ⟨rfl, hb⟩; have n0_ := A_ (blk_below (g := gb101) (o := .cells #[.int .i64 a0_0, .int .i64 a0_1] 40 (0, 0)) (by (with_reducible repeat first | refine cA_ ?_ _ | refine cB_ ?_ | refine cC_ ?_ _); exact BK101.1) hb); have n1_ := A_ (below_step (by repeat first | exact HB.1 | apply bA_ | apply bB_ | apply bC_ | refine below_set ?_ GE101.out) hb); clear BK101 HB; have BK101 := n0_; have HB := n1_; clear n0_ n1_; (try clear hb); (try clear hk)) | (go_at_call 61; (with_reducible refine (spec_l01In.calls a1 0 (wrap64 ((ji12) - 1)) false _ A13.out).mono ?_); rintro e w' ⟨rfl, ⟨nd, rfl⟩⟩; (try first | exact ⟨rfl, _, World.drewN_drewN _ _ _⟩ | exact ⟨rfl, _, Eq.trans (World.drewN_drewN _ _ _) (congrArg (World.drewN _) (Nat.add_assoc _ _ _))⟩)))
    repeat (go_quiet (fail); try go_wp2_with (fail))
    go_meet
    case rel => exact ⟨_, (true), (by first | rfl | (simp; done) | (simp [*]; done)), H', ⟨by first | omega | exact Nat.le_refl _⟩, ⟨by (with_reducible repeat (first | refine blk_drewN ?_ _ | refine blk_drew ?_ | refine blk_alloc ?_ _)); exact BK101.out⟩, ⟨by repeat (first | (with_reducible first | exact HB.out | apply below_alloc | apply pw_below_drewN | apply below_drew1 | refine below_set ?_ GE101.out) | exact HB.out)⟩⟩
  ·replace c10 := Bool.eq_false_iff.mpr c10
   subst c10
   have H1 : (spec_CountFixed.j0 k a1 a2 t102 true a0_0 a0_1) = some r := by rw [if_neg (show ¬ (false = true) by decide)] at H; exact H
   clear H
   have H := H1
   clear H1
   have H' := A_ H
   clear H
   obtain ⟨hcz24_0, hcz24_1⟩ := kk2_ BK101.1
   have hfz24_0 := bf_ BK101.out 0
   have hfz24_1 := bf_ BK101.out 1
   go_wp2_with (first | (go_at_call 74; (with_reducible refine (spec_GridOk.calls a0_0 a0_1 false _ A9.out).mono ?_); rintro e w25 ⟨rfl, hb⟩; have n0_ := A_ (blk_below (g := gb101) (o := .cells #[.int .i64 a0_0, .int .i64 a0_1] 40 (0, 0)) (by (with_reducible repeat first | refine cA_ ?_ _ | refine cB_ ?_ | refine cC_ ?_ _); exact BK101.1) hb); have n1_ := A_ (below_step (by repeat first | exact HB.1 | apply bA_ | apply bB_ | apply bC_ | refine below_set ?_ GE101.out) hb); clear BK101 HB; have BK101 := n0_; have HB := n1_; clear n0_ n1_; (try clear hb); (try clear hk)))
   repeat (go_quiet (fail); try go_wp2_with (fail))
   go_meet
   case rel => exact ⟨_, (true), (by first | rfl | (simp; done) | (simp [*]; done)), H', ⟨by first | omega | exact Nat.le_refl _⟩, ⟨by (with_reducible repeat (first | refine blk_drewN ?_ _ | refine blk_drew ?_ | refine blk_alloc ?_ _)); exact BK101.out⟩, ⟨by repeat (first | (with_reducible first | exact HB.out | apply below_alloc | apply pw_below_drewN | apply below_drew1 | refine below_set ?_ GE101.out) | exact HB.out)⟩⟩
 case rest =>
  clear HC5; try clear c1; try clear p2; try clear c3; try clear p6; try clear c10; try clear c11; try clear c11b0; try clear c11b1; try clear c14; try clear c15; try clear c15b0; try clear c17; try clear hcz18_0; try clear hcz18_1; try clear hcz20_0; try clear hcz20_1; try clear hcz22_0; try clear hcz22_1; try clear hcz24_0; try clear hcz24_1; try clear hcz7_0; try clear hcz7_1; try clear hfz18_0; try clear hfz18_1; try clear hfz20_0; try clear hfz20_1; try clear hfz22_0; try clear hfz22_1; try clear hfz24_0; try clear hfz24_1; try clear hfz7_0; try clear hfz7_1
  obtain ⟨kq, x41_4, rfl, HA, HJ4, BK101, HB⟩ := hcut
  cases kq with
  | zero => exact absurd HA.out (by simp [spec_CountFixed.j0])
  | succ kj4 =>
   have H := HA.out
   clear HA
   simp only [spec_CountFixed.j0] at H
   by_cases c26 : x41_4 = true
   ·subst c26
    rw [if_pos rfl] at H
    obtain rfl := Option.some.inj H
    go_wp2
    repeat (go_quiet (fail); try go_wp2)
    go_ret
    exact ⟨by first | rfl | (simp [errW_none, errW_some] <;> rfl) | (simp [*, errW_none, errW_some] <;> rfl), by repeat (first | (with_reducible first | exact HB.out | apply below_alloc | apply pw_below_drewN | apply below_drew1 | refine below_set ?_ GE101.out) | exact HB.out)⟩
   ·replace c26 := Bool.eq_false_iff.mpr c26
    subst c26
    have H1 : ((spec_CountCells.f a0_0 a0_1).bind fun t106 => (if 0 ≤ t106 then (if (t106 : Int).toNat ≤ 35184372088832 then (spec_CountFixed.l0 kj4 a1 a2 t102 (List.replicate (t106 : Int).toNat 0) 0 a0_0 a0_1) else (none)) else (none))) = some r := by rw [if_neg (show ¬ (false = true) by decide)] at H; exact H
    clear H
    have H := H1
    clear H1
    obtain ⟨t106, A270, H⟩ := oB_ H
    (try dsimp only at H); have A27 := A_ A270; clear A270
    replace H := iN_ H; obtain ⟨c28, H⟩ := H
    have c28b0 := eq_true c28
    have c28b1 : decide (0 ≤ t106) = true := decide_eq_true c28
    clear c28
    replace H := iN_ H; obtain ⟨c29, H⟩ := H
    have c29b0 := eq_true c29
    have c29b1 : decide ((t106 : Int).toNat ≤ 35184372088832) = true := decide_eq_true c29
    clear c29
    obtain ⟨y107, hy107⟩ : ∃ y_ : List Int, y_ = (List.replicate (t106 : Int).toNat 0) := ⟨_, rfl⟩
    replace H : (spec_CountFixed.l0 kj4 a1 a2 t102 y107 0 a0_0 a0_1) = some r := by first | (rw [hy107]; with_reducible exact H) | (have H2_ := (Option.bind_some _ _).symm.trans H; rw [hy107]; with_reducible exact H2_) | (have H2_ := (Option.bind_some _ _).symm.trans H; with_reducible exact H2_) | with_reducible exact H | (rw [hy107]; exact H) | exact H
    have Ny107 := A_ hy107
    clear hy107
    have H' := A_ H
    clear H
    obtain ⟨hcz30_0, hcz30_1⟩ := kk2_ BK101.1
    have hfz30_0 := bf_ BK101.out 0
    have hfz30_1 := bf_ BK101.out 1
    go_wp2_with (first | (go_at_call 36; (with_reducible refine (spec_CountCells.calls a0_0 a0_1 t106 _ A27.out).mono ?_); rintro e w31 ⟨rfl, hb⟩; have n0_ := A_ (blk_below (g := gb101) (o := .cells #[.int .i64 a0_0, .int .i64 a0_1] 40 (0, 0)) (by (with_reducible repeat first | refine cA_ ?_ _ | refine cB_ ?_ | refine cC_ ?_ _); exact BK101.1) hb); have n1_ := A_ (below_step (by repeat first | exact HB.1 | apply bA_ | apply bB_ | apply bC_ | refine below_set ?_ GE101.out) hb); clear BK101 HB; have BK101 := n0_; have HB := n1_; clear n0_ n1_; (try clear hb); (try clear hk)) | ((with_reducible refine gate_dst (N := 44) rfl ?_); refine Kd.R_make (Kd.int .i64) _ 3 rfl (N := 44) rfl 29 _ _ rfl t106 rfl rfl Try.underlying29 (.int .i64 0) 8 info3 rfl (by decide) (by omega) 0 (ok := fun _ => True) (okp := fun _ => True) rfl (fun _ hk => hk) trivial (of_decide_eq_true (by first | (with_reducible assumption) | assumption)) (Nat.le_trans (Nat.mul_le_mul_right _ (of_decide_eq_true (by first | (with_reducible assumption) | assumption) : t106.toNat ≤ 35184372088832)) (by omega)) (Below.refl _ _) (Nat.le_refl _) ?_; intro v108 w32 ho33 hb hg_ hnew_; clear hg_ hnew_; (first | rw [← Ny107.out] at ho33 | (simp only [Int.reduceToNat] at ho33; rw [← Ny107.out] at ho33)); have n0_ := A_ (Kd.R_lower ho33 (below_size (by repeat first | exact HB.1 | apply bA_ | apply bB_ | apply bC_ | refine below_set ?_ GE101.out))); have n1_ := A_ (blk_below (g := gb101) (o := .cells #[.int .i64 a0_0, .int .i64 a0_1] 40 (0, 0)) (by (with_reducible repeat first | refine cA_ ?_ _ | refine cB_ ?_ | refine cC_ ?_ _); exact BK101.1) hb); have n2_ := A_ (below_step (by repeat first | exact HB.1 | apply bA_ | apply bB_ | apply bC_ | refine below_set ?_ GE101.out) hb); clear BK101 HB; have HO109 := n0_; have BK101 := n1_; have HB := n2_; clear n0_ n1_ n2_ hb ho33))
    repeat (go_quiet (fail); try go_wp2_with (fail))
    go_loopg [9] kj4 (fun kq v9 w' => ∃ (x8_2 : List Int) (x9_2 : Int), v9 = .int .i64 x9_2 ∧ Aside0 (spec_CountFixed.l0 kq a1 a2 t102 x8_2 x9_2 a0_0 a0_1 = some r) ∧ Aside0 (kq ≤ kj4) ∧ Aside0 (Kd.R (Kd.int .i64) 3 w' w.heap.size (fun _ => True) v108 x8_2) ∧ Aside0 (w'.heap[gb101]? = some (.cells #[.int .i64 a0_0, .int .i64 a0_1] 40 (0, 0))) ∧ Aside0 (Below w.heap.size w w'))
    case atStart => exact ⟨(y107), (0), (by first | rfl | (simp; done) | (simp [*]; done)), H', ⟨Nat.le_refl _⟩, ⟨by (with_reducible repeat (first | apply Kd.R_alloc | apply Kd.R_drewN | apply Kd.R_drew)); exact HO109.out⟩, ⟨by (with_reducible repeat (first | refine blk_drewN ?_ _ | refine blk_drew ?_ | refine blk_alloc ?_ _)); exact BK101.out⟩, ⟨by repeat (first | (with_reducible first | exact HB.out | apply below_alloc | apply pw_below_drewN | apply below_drew1 | refine below_set ?_ GE101.out) | exact HB.out)⟩⟩
    case round =>
     clear H'; try clear c1; try clear c2; try clear p2; try clear c3; try clear p6; try clear c10; try clear c11; try clear c11b0; try clear c11b1; try clear c14; try clear c15; try clear c15b0; try clear c17; try clear c26; try clear c28; try clear c28b0; try clear c28b1; try clear c29; try clear c29b0; try clear c29b1; try clear hcz18_0; try clear hcz18_1; try clear hcz20_0; try clear hcz20_1; try clear hcz22_0; try clear hcz22_1; try clear hcz24_0; try clear hcz24_1; try clear hcz30_0; try clear hcz30_1; try clear hcz7_0; try clear hcz7_1; try clear hfz18_0; try clear hfz18_1; try clear hfz20_0; try clear hfz20_1; try clear hfz22_0; try clear hfz22_1; try clear hfz24_0; try clear hfz24_1; try clear hfz30_0; try clear hfz30_1; try clear hfz7_0; try clear hfz7_1; try clear p2; try clear p6
     obtain ⟨x8_2, x9_2, rfl, HA, HK2, HO_8, BK101, HB⟩ := hrel
     cases gk with
     | zero => exact absurd HA.out (by simp [spec_CountFixed.l0])
     | succ k2 =>
      have H := HA.out
      clear HA
      simp only [spec_CountFixed.l0] at H
      by_cases c34 : x9_2 < (x8_2.length : Int)
      ·rw [if_pos c34] at H
       have c34b0 : decide (x9_2 < (x8_2.length : Int)) = true := decide_eq_true c34
       clear c34
       replace H := iN_ H; obtain ⟨c35, H⟩ := H
       have c35b0 : decide (0 ≤ x9_2) = true := decide_eq_true c35
       clear c35
       obtain ⟨y110, hy110⟩ : ∃ y_ : List Int, y_ = (x8_2.set (x9_2 : Int).toNat x9_2) := ⟨_, rfl⟩
       replace H : (spec_CountFixed.l0 k2 a1 a2 t102 y110 (wrap64 (x9_2 + 1)) a0_0 a0_1) = some r := by first | (rw [hy110]; with_reducible exact H) | (have H2_ := (Option.bind_some _ _).symm.trans H; rw [hy110]; with_reducible exact H2_) | (have H2_ := (Option.bind_some _ _).symm.trans H; with_reducible exact H2_) | with_reducible exact H | (rw [hy110]; exact H) | exact H
       have Ny110 := A_ hy110
       clear hy110
       have H' := A_ H
       clear H
       obtain ⟨Ao37, co37, eo37⟩ := Kd.R_slice HO_8.out
       subst eo37
       have p36 : 0 ≤ (x9_2 : Int) := of_decide_eq_true (by first | (with_reducible assumption) | assumption)
       have q36 : (x9_2 : Int) < ((x8_2.length : Int) : Int) := of_decide_eq_true (by first | (with_reducible assumption) | assumption)
       obtain ⟨go36, co36, eo36, gb36, gl36, cl36, HG36⟩ := Kd.R_form HO_8.out (by omega)
       (first | cases eo36 | (injection eo36 with ea_ en_ ec_; (first | subst ea_ | (injection ea_ with ea_; subst ea_)); subst ec_; clear en_))
       have GB36 := A_ gb36
       have GG36 := A_ HG36
       clear gb36 gl36 HG36
       obtain ⟨hx36_0, hf36_0⟩ := Kd.R_celln 0 HO_8.out (x9_2 : Int) p36 q36
       replace p36 := eq_true p36; replace q36 := eq_true q36
       have HP38 := Kd.R_putg HO_8.out (x9_2 : Int) x9_2
       go_wp2_with (first | ((with_reducible refine gate_store (t := 3) (p := 54) rfl ?_); (try (rw [drewN_self wr]; generalize hq_ : World.drewN wr _ = wr; have n0_ := A_ (Kd.R_at hq_ HO_8.out); have n1_ := A_ (blk_at hq_ BK101.out); have n2_ := A_ (below_at hq_ HB.out); clear hq_ HO_8 BK101 HB; have HO_8 := n0_; have BK101 := n1_; have HB := n2_; clear n0_ n1_ n2_; (try (have HP38 := Kd.R_putg HO_8.out (x9_2 : Int) x9_2)))); refine store_event (t := 3) (p := 54) (v := ?vo_w39) (w1 := (wr.setCell ⟨go36, (x9_2 : Int).toNat, none⟩ (.int .i64 x9_2))) ?hg ?ho ?hn ?hr ?_; (case ho => rfl); (case hg => rfl); (case hn => rfl); (case hr => first | (go_simp; done) | (go_simp; rfl)); intro w39 hw; have hg : wr.grownBy w39 (some go36) := (by rw [hw]; exact HP38.2); have hp_ : Kd.R (Kd.int .i64) 3 w39 w.heap.size (fun _ => True) (.slice (some ⟨go36, 0, none⟩) x8_2.length co37) y110 := (by rw [hw, Ny110.out]; exact HP38.1); clear HP38; have n0_ := A_ (hp_); have n1_ := A_ (blk_grown (g := gb101) (o := .cells #[.int .i64 a0_0, .int .i64 a0_1] 40 (0, 0)) (by (with_reducible repeat first | refine cA_ ?_ _ | refine cB_ ?_ | refine cC_ ?_ _); exact BK101.1) hg (Kd.R_ne HO_8.out BK101.out (by decide))); have n2_ := A_ ((by rw [hw]; exact below_set (HB.out) GB36.out : Below w.heap.size w w39)); clear HO_8 BK101 HB; have HO_8 := n0_; have BK101 := n1_; have HB := n2_; clear n0_ n1_ n2_ hg hw hp_))
       repeat (go_quiet (fail); try go_wp2_with (fail))
       go_roundg k2
       case measure => have := HJ4.out; have := HK2.out; omega
       case rel => exact ⟨(y110), (wrap64 (x9_2 + 1)), (by first | rfl | (simp; done) | (simp [*]; done)), H', ⟨by have := HJ4.out; have := HK2.out; omega⟩, ⟨by (with_reducible repeat (first | apply Kd.R_alloc | apply Kd.R_drewN | apply Kd.R_drew)); exact HO_8.out⟩, ⟨by (with_reducible repeat (first | refine blk_drewN ?_ _ | refine blk_drew ?_ | refine blk_alloc ?_ _)); exact BK101.out⟩, ⟨by repeat (first | (with_reducible first | exact HB.out | apply below_alloc | apply pw_below_drewN | apply below_drew1 | refine below_set ?_ GE101.out) | exact HB.out)⟩⟩
      ·rw [if_neg c34] at H
       have c34b0 : decide (x9_2 < (x8_2.length : Int)) = false := decide_eq_false c34
       clear c34
       have H' := A_ H
       clear H
       obtain ⟨Ao40, co40, eo40⟩ := Kd.R_slice HO_8.out
       subst eo40
       go_wp2
       repeat (go_quiet (fail); try go_wp2)
       go_loopg [10] k2 (fun kq v10 w' => ∃ (x8_3 : List Int) (x10_3 : Int), v10 = .int .i64 x10_3 ∧ Aside0 (spec_CountFixed.l1 kq a1 a2 t102 x8_3 x10_3 a0_0 a0_1 = some r) ∧ Aside0 (kq ≤ k2) ∧ Aside0 (Kd.R (Kd.int .i64) 3 w' w.heap.size (fun _ => True) (.slice Ao40 x8_2.length co40) x8_3) ∧ Aside0 (w'.heap[gb101]? = some (.cells #[.int .i64 a0_0, .int .i64 a0_1] 40 (0, 0))) ∧ Aside0 (Below w.heap.size w w'))
       case atStart => exact ⟨(x8_2), (0), (by first | rfl | (simp; done) | (simp [*]; done)), H', ⟨Nat.le_refl _⟩, ⟨by (with_reducible repeat (first | apply Kd.R_alloc | apply Kd.R_drewN | apply Kd.R_drew)); exact HO_8.out⟩, ⟨by (with_reducible repeat (first | refine blk_drewN ?_ _ | refine blk_drew ?_ | refine blk_alloc ?_ _)); exact BK101.out⟩, ⟨by repeat (first | (with_reducible first | exact HB.out | apply below_alloc | apply pw_below_drewN | apply below_drew1 | refine below_set ?_ GE101.out) | exact HB.out)⟩⟩
       case round =>
        clear H'; try clear c1; try clear c2; try clear p2; try clear c3; try clear p3; try clear q3; try clear hx3; try clear hf3; try clear p6; try clear c10; try clear c11; try clear c11b0; try clear c11b1; try clear c14; try clear c15; try clear c15b0; try clear c17; try clear c26; try clear c28; try clear c28b0; try clear c28b1; try clear c29; try clear c29b0; try clear c29b1; try clear c34; try clear c34b0; try clear c35; try clear c35b0; try clear p36; try clear q36; try clear hx36; try clear hf36; try clear c37; try clear hcz18_0; try clear hcz18_1; try clear hcz20_0; try clear hcz20_1; try clear hcz22_0; try clear hcz22_1; try clear hcz24_0; try clear hcz24_1; try clear hcz30_0; try clear hcz30_1; try clear hcz7_0; try clear hcz7_1; try clear hfz18_0; try clear hfz18_1; try clear hfz20_0; try clear hfz20_1; try clear hfz22_0; try clear hfz22_1; try clear hfz24_0; try clear hfz24_1; try clear hfz30_0; try clear hfz30_1; try clear hfz7_0; try clear hfz7_1; try clear hx36_0; try clear p2; try clear p36; try clear p6; try clear q36
        obtain ⟨x8_3, x10_3, rfl, HA, HK3, HO_8, BK101, HB⟩ := hrel
        have hl8_3 := (Kd.R_reads' HO_8.out).1
        rw [hl8_3] at HO_8
        (try simp only [hl8_3])
        (try simp only [hl8_3] at BK101)
        cases gk with
        | zero => exact absurd HA.out (by simp [spec_CountFixed.l1])
        | succ k3 =>
         have H := HA.out
         clear HA
         simp only [spec_CountFixed.l1] at H
         by_cases c41 : x10_3 < t102
         ·rw [if_pos c41] at H
          have c41b0 : decide (x10_3 < t102) = true := decide_eq_true c41
          clear c41
          obtain ⟨t112, A420, H⟩ := oB_ H
          (try dsimp only at H); have A42 := A_ A420; clear A420
          by_cases c43 : t112 = true
          ·subst c43
           rw [if_pos rfl] at H
           obtain ⟨⟨t113, t114⟩, A440, H⟩ := oB_ H
           (try dsimp only at H); have A44 := A_ A440; clear A440
           replace H := iN_ H; obtain ⟨c45, H⟩ := H
           have c45b0 : decide (0 ≤ t113) = true := decide_eq_true c45
           clear c45
           replace H := iN_ H; obtain ⟨c46, H⟩ := H
           have c46b0 : decide (t113 < (x8_3.length : Int)) = true := decide_eq_true c46
           clear c46
           replace H := iN_ H; obtain ⟨c47, H⟩ := H
           have c47b0 : decide (0 ≤ t114) = true := decide_eq_true c47
           clear c47
           replace H := iN_ H; obtain ⟨c48, H⟩ := H
           have c48b0 : decide (t114 < (x8_3.length : Int)) = true := decide_eq_true c48
           clear c48
           by_cases c49 : (rd x8_3 t113) = (rd x8_3 t114)
           ·rw [if_pos c49] at H
            have c49b0 : ((rd x8_3 t113) == (rd x8_3 t114)) = true := beq_iff_eq.mpr c49
            have c49b1 : ((rd x8_3 t113) != (rd x8_3 t114)) = false := bne_eq_false_iff_eq.mpr c49
            clear c49
            obtain rfl := Option.some.inj H
            go_wp2_with (first | (go_at_call 83; (with_reducible refine (spec_l03Bit.calls a1 x10_3 true _ A42.out).mono ?_); rintro e w' ⟨rfl, ⟨nd, rfl⟩⟩; (try first | exact ⟨rfl, _, World.drewN_drewN _ _ _⟩ | exact ⟨rfl, _, Eq.trans (World.drewN_drewN _ _ _) (congrArg (World.drewN _) (Nat.add_assoc _ _ _))⟩); obtain ⟨hcz50_0, hcz50_1⟩ := kk2_ BK101.1; have hfz50_0 := bf_ BK101.out 0; have hfz50_1 := bf_ BK101.out 1) | (go_at_call 84; (with_reducible refine (spec_EndsOf.calls a0_0 a0_1 x10_3 t113 t114 _ A44.out).mono ?_); rintro e w51 ⟨rfl, hb⟩; have n0_ := A_ (Kd.R_below (by (with_reducible repeat (first | apply Kd.R_alloc | apply Kd.R_drewN | apply Kd.R_drew)); exact HO_8.out) hb); have n1_ := A_ (blk_below (g := gb101) (o := .cells #[.int .i64 a0_0, .int .i64 a0_1] 40 (0, 0)) (by (with_reducible repeat first | refine cA_ ?_ _ | refine cB_ ?_ | refine cC_ ?_ _); exact BK101.1) hb); have n2_ := A_ (below_step (by repeat first | exact HB.1 | apply bA_ | apply bB_ | apply bC_ | refine below_set ?_ GE101.out) hb); clear HO_8 BK101 HB; have HO_8 := n0_; have BK101 := n1_; have HB := n2_; clear n0_ n1_ n2_; (try clear hb); (try clear hk); have p115 : 0 ≤ (t113 : Int) := of_decide_eq_true (by first | (with_reducible assumption) | assumption); have q115 : t113 < (x8_3.length : Int) := of_decide_eq_true (by first | (with_reducible assumption) | assumption); obtain ⟨ad115, e115, hx115_0⟩ := Kd.at_int (Kd.R_reads' HO_8.out).2.2 t113 p115 q115; cases e115; replace p115 := eq_true p115; replace q115 := eq_true q115; have p116 : 0 ≤ (t114 : Int) := of_decide_eq_true (by first | (with_reducible assumption) | assumption); have q116 : t114 < (x8_3.length : Int) := of_decide_eq_true (by first | (with_reducible assumption) | assumption); obtain ⟨ad116, e116, hx116_0⟩ := Kd.at_int (Kd.R_reads' HO_8.out).2.2 t114 p116 q116; obtain rfl : ad115 = ad116 := (by injection e116); replace p116 := eq_true p116; replace q116 := eq_true q116))
            repeat (go_quiet (fail); try go_wp2_with (fail))
            go_ret
            exact ⟨by first | rfl | (simp [errW_none, errW_some] <;> rfl) | (simp [*, errW_none, errW_some] <;> rfl), by repeat (first | (with_reducible first | exact HB.out | apply below_alloc | apply pw_below_drewN | apply below_drew1 | refine below_set ?_ GE101.out) | exact HB.out)⟩
           ·rw [if_neg c49] at H
            have c49b0 : ((rd x8_3 t113) == (rd x8_3 t114)) = false := beq_eq_false_iff_ne.mpr c49
            have c49b1 : ((rd x8_3 t113) != (rd x8_3 t114)) = true := bne_iff_ne.mpr c49
            have H' := A_ H
            clear H
            go_wp2_with (first | (go_at_call 83; (with_reducible refine (spec_l03Bit.calls a1 x10_3 true _ A42.out).mono ?_); rintro e w' ⟨rfl, ⟨nd, rfl⟩⟩; (try first | exact ⟨rfl, _, World.drewN_drewN _ _ _⟩ | exact ⟨rfl, _, Eq.trans (World.drewN_drewN _ _ _) (congrArg (World.drewN _) (Nat.add_assoc _ _ _))⟩); obtain ⟨hcz52_0, hcz52_1⟩ := kk2_ BK101.1; have hfz52_0 := bf_ BK101.out 0; have hfz52_1 := bf_ BK101.out 1) | (go_at_call 84; (with_reducible refine (spec_EndsOf.calls a0_0 a0_1 x10_3 t113 t114 _ A44.out).mono ?_); rintro e w53 ⟨rfl, hb⟩; have n0_ := A_ (Kd.R_below (by (with_reducible repeat (first | apply Kd.R_alloc | apply Kd.R_drewN | apply Kd.R_drew)); exact HO_8.out) hb); have n1_ := A_ (blk_below (g := gb101) (o := .cells #[.int .i64 a0_0, .int .i64 a0_1] 40 (0, 0)) (by (with_reducible repeat first | refine cA_ ?_ _ | refine cB_ ?_ | refine cC_ ?_ _); exact BK101.1) hb); have n2_ := A_ (below_step (by repeat first | exact HB.1 | apply bA_ | apply bB_ | apply bC_ | refine below_set ?_ GE101.out) hb); clear HO_8 BK101 HB; have HO_8 := n0_; have BK101 := n1_; have HB := n2_; clear n0_ n1_ n2_; (try clear hb); (try clear hk); have p115 : 0 ≤ (t113 : Int) := of_decide_eq_true (by first | (with_reducible assumption) | assumption); have q115 : t113 < (x8_3.length : Int) := of_decide_eq_true (by first | (with_reducible assumption) | assumption); obtain ⟨ad115, e115, hx115_0⟩ := Kd.at_int (Kd.R_reads' HO_8.out).2.2 t113 p115 q115; cases e115; replace p115 := eq_true p115; replace q115 := eq_true q115; have p116 : 0 ≤ (t114 : Int) := of_decide_eq_true (by first | (with_reducible assumption) | assumption); have q116 : t114 < (x8_3.length : Int) := of_decide_eq_true (by first | (with_reducible assumption) | assumption); obtain ⟨ad116, e116, hx116_0⟩ := Kd.at_int (Kd.R_reads' HO_8.out).2.2 t114 p116 q116; obtain rfl : ad115 = ad116 := (by injection e116); replace p116 := eq_true p116; replace q116 := eq_true q116; have p117 : 0 ≤ (t114 : Int) := of_decide_eq_true (by first | (with_reducible assumption) | assumption); have q117 : t114 < (x8_3.length : Int) := of_decide_eq_true (by first | (with_reducible assumption) | assumption); obtain ⟨ad117, e117, hx117_0⟩ := Kd.at_int (Kd.R_reads' HO_8.out).2.2 t114 p117 q117; obtain rfl : ad115 = ad117 := (by injection e117); replace p117 := eq_true p117; replace q117 := eq_true q117))
            repeat (go_quiet (fail); try go_wp2_with (fail))
            go_loopg [14] k3 (fun kq v14 w' => ∃ (x8_4 : List Int) (x14_4 : Int), v14 = .int .i64 x14_4 ∧ Aside0 (spec_CountFixed.l2 kq a1 a2 t102 x8_4 x10_3 t113 (rd x8_3 t114) x14_4 a0_0 a0_1 = some r) ∧ Aside0 (kq ≤ k3) ∧ Aside0 (Kd.R (Kd.int .i64) 3 w' w.heap.size (fun _ => True) (.slice (some ad115) x8_3.length co40) x8_4) ∧ Aside0 (w'.heap[gb101]? = some (.cells #[.int .i64 a0_0, .int .i64 a0_1] 40 (0, 0))) ∧ Aside0 (Below w.heap.size w w'))
            case atStart => exact ⟨(x8_3), (0), (by first | rfl | (simp; done) | (simp [*]; done)), H', ⟨Nat.le_refl _⟩, ⟨by (try simp only [hl8_3]); (with_reducible repeat (first | apply Kd.R_alloc | apply Kd.R_drewN | apply Kd.R_drew)); exact HO_8.out⟩, ⟨by (try simp only [hl8_3]); (with_reducible repeat (first | refine blk_drewN ?_ _ | refine blk_drew ?_ | refine blk_alloc ?_ _)); exact BK101.out⟩, ⟨by repeat (first | (with_reducible first | exact HB.out | apply below_alloc | apply pw_below_drewN | apply below_drew1 | refine below_set ?_ GE101.out) | exact HB.out)⟩⟩
            case round =>
             clear H'; try clear c1; try clear p1; try clear q1; try clear hx1; try clear c2; try clear p2; try clear c3; try clear p3; try clear q3; try clear hx3; try clear hf3; try clear c4; try clear p6; try clear c10; try clear c11; try clear c11b0; try clear c11b1; try clear p11; try clear q11; try clear hx11; try clear c14; try clear c15; try clear c15b0; try clear c17; try clear c26; try clear c28; try clear c28b0; try clear c28b1; try clear c29; try clear c29b0; try clear c29b1; try clear c34; try clear c34b0; try clear c35; try clear c35b0; try clear p36; try clear q36; try clear hx36; try clear hf36; try clear c37; try clear c41; try clear c41b0; try clear c43; try clear c45; try clear c45b0; try clear c46; try clear c46b0; try clear c47; try clear c47b0; try clear c48; try clear c48b0; try clear c49; try clear c49b0; try clear c49b1; try clear hcz18_0; try clear hcz18_1; try clear hcz20_0; try clear hcz20_1; try clear hcz22_0; try clear hcz22_1; try clear hcz24_0; try clear hcz24_1; try clear hcz30_0; try clear hcz30_1; try clear hcz50_0; try clear hcz50_1; try clear hcz52_0; try clear hcz52_1; try clear hcz7_0; try clear hcz7_1; try clear hfz18_0; try clear hfz18_1; try clear hfz20_0; try clear hfz20_1; try clear hfz22_0; try clear hfz22_1; try clear hfz24_0; try clear hfz24_1; try clear hfz30_0; try clear hfz30_1; try clear hfz50_0; try clear hfz50_1; try clear hfz52_0; try clear hfz52_1; try clear hfz7_0; try clear hfz7_1; try clear hx115_0; try clear hx116_0; try clear hx117_0; try clear hx36_0; try clear p115; try clear p116; try clear p117; try clear p2; try clear p3; try clear p36; try clear p6; try clear q115; try clear q116; try clear q117; try clear q3; try clear q36
             obtain ⟨x8_4, x14_4, rfl, HA, HK4, HO_8, BK101, HB⟩ := hrel
             have hl8_4 := (Kd.R_reads' HO_8.out).1
             rw [hl8_4] at HO_8
             (try simp only [hl8_4])
             (try simp only [hl8_4] at BK101)
             cases gk with
             | zero => exact absurd HA.out (by simp [spec_CountFixed.l2])
             | succ k4 =>
              have H := HA.out
              clear HA
              simp only [spec_CountFixed.l2] at H
              by_cases c54 : x14_4 < (x8_4.length : Int)
              ·rw [if_pos c54] at H
               have c54b0 : decide (x14_4 < (x8_4.length : Int)) = true := decide_eq_true c54
               clear c54
               replace H := iN_ H; obtain ⟨c55, H⟩ := H
               have c55b0 : decide (0 ≤ x14_4) = true := decide_eq_true c55
               clear c55
               by_cases c56 : (rd x8_4 x14_4) = (rd x8_3 t114)
               ·rw [if_pos c56] at H
                have c56b0 : ((rd x8_4 x14_4) == (rd x8_3 t114)) = true := beq_iff_eq.mpr c56
                have c56b1 : ((rd x8_4 x14_4) != (rd x8_3 t114)) = false := bne_eq_false_iff_eq.mpr c56
                clear c56
                replace H := iN_ H; obtain ⟨c57, H⟩ := H
                have c57b0 : decide (0 ≤ t113) = true := decide_eq_true c57
                clear c57
                replace H := iN_ H; obtain ⟨c58, H⟩ := H
                have c58b0 : decide (t113 < (x8_4.length : Int)) = true := decide_eq_true c58
                clear c58
                obtain ⟨y120, hy120⟩ : ∃ y_ : List Int, y_ = (x8_4.set (x14_4 : Int).toNat (rd x8_4 t113)) := ⟨_, rfl⟩
                replace H : (spec_CountFixed.l2 k4 a1 a2 t102 y120 x10_3 t113 (rd x8_3 t114) (wrap64 (x14_4 + 1)) a0_0 a0_1) = some r := by first | (rw [hy120]; with_reducible exact H) | (have H2_ := (Option.bind_some _ _).symm.trans H; rw [hy120]; with_reducible exact H2_) | (have H2_ := (Option.bind_some _ _).symm.trans H; with_reducible exact H2_) | with_reducible exact H | (rw [hy120]; exact H) | exact H
                have Ny120 := A_ hy120
                clear hy120
                have H' := A_ H
                clear H
                have p118 : 0 ≤ (x14_4 : Int) := of_decide_eq_true (by first | (with_reducible assumption) | assumption)
                have q118 : x14_4 < (x8_4.length : Int) := of_decide_eq_true (by first | (with_reducible assumption) | assumption)
                obtain ⟨ad118, e118, hx118_0⟩ := Kd.at_int (Kd.R_reads' HO_8.out).2.2 x14_4 p118 q118
                obtain rfl : ad115 = ad118 := (by injection e118)
                replace p118 := eq_true p118; replace q118 := eq_true q118
                have p119 : 0 ≤ (t113 : Int) := of_decide_eq_true (by first | (with_reducible assumption) | assumption)
                have q119 : t113 < (x8_4.length : Int) := of_decide_eq_true (by first | (with_reducible assumption) | assumption)
                obtain ⟨ad119, e119, hx119_0⟩ := Kd.at_int (Kd.R_reads' HO_8.out).2.2 t113 p119 q119
                obtain rfl : ad115 = ad119 := (by injection e119)
                replace p119 := eq_true p119; replace q119 := eq_true q119
                have p59 : 0 ≤ (x14_4 : Int) := of_decide_eq_true (by first | (with_reducible assumption) | assumption)
                have q59 : (x14_4 : Int) < ((x8_4.length : Int) : Int) := of_decide_eq_true (by first | (with_reducible assumption) | assumption)
                obtain ⟨go59, co59, eo59, gb59, gl59, cl59, HG59⟩ := Kd.R_form HO_8.out (by omega)
                (first | cases eo59 | (injection eo59 with ea_ en_ ec_; (first | subst ea_ | (injection ea_ with ea_; subst ea_)); subst ec_; clear en_))
                have GB59 := A_ gb59
                have GG59 := A_ HG59
                clear gb59 gl59 HG59
                (first | simp only [add_plain] at hx115_0 | skip)
                (first | simp only [add_plain] at hx116_0 | skip)
                (first | simp only [add_plain] at hx117_0 | skip)
                (first | simp only [add_plain] at hx118_0 | skip)
                (first | simp only [add_plain] at hx119_0 | skip)
                obtain ⟨hx59_0, hf59_0⟩ := Kd.R_celln 0 HO_8.out (x14_4 : Int) p59 q59
                replace p59 := eq_true p59; replace q59 := eq_true q59
                have HP60 := Kd.R_putg HO_8.out (x14_4 : Int) (rd x8_4 t113)
                go_wp2_with (first | ((with_reducible refine gate_store (t := 3) (p := 101) rfl ?_); (try (rw [drewN_self wr]; generalize hq_ : World.drewN wr _ = wr; have n0_ := A_ (Kd.R_at hq_ HO_8.out); have n1_ := A_ (blk_at hq_ BK101.out); have n2_ := A_ (below_at hq_ HB.out); clear hq_ HO_8 BK101 HB; have HO_8 := n0_; have BK101 := n1_; have HB := n2_; clear n0_ n1_ n2_; (try (have HP60 := Kd.R_putg HO_8.out (x14_4 : Int) (rd x8_4 t113))))); refine store_event (t := 3) (p := 101) (v := ?vo_w61) (w1 := (wr.setCell ⟨go59, (x14_4 : Int).toNat, none⟩ (.int .i64 (rd x8_4 t113)))) ?hg ?ho ?hn ?hr ?_; (case ho => rfl); (case hg => rfl); (case hn => rfl); (case hr => first | (go_simp; done) | (go_simp; rfl)); intro w61 hw; have hg : wr.grownBy w61 (some go59) := (by rw [hw]; exact HP60.2); have hp_ : Kd.R (Kd.int .i64) 3 w61 w.heap.size (fun _ => True) (.slice (some ⟨go59, 0, none⟩) x8_4.length co40) y120 := (by rw [hw, Ny120.out]; exact HP60.1); clear HP60; have n0_ := A_ (hp_); have n1_ := A_ (blk_grown (g := gb101) (o := .cells #[.int .i64 a0_0, .int .i64 a0_1] 40 (0, 0)) (by (with_reducible repeat first | refine cA_ ?_ _ | refine cB_ ?_ | refine cC_ ?_ _); exact BK101.1) hg (Kd.R_ne HO_8.out BK101.out (by decide))); have n2_ := A_ ((by rw [hw]; exact below_set (HB.out) GB59.out : Below w.heap.size w w61)); clear HO_8 BK101 HB; have HO_8 := n0_; have BK101 := n1_; have HB := n2_; clear n0_ n1_ n2_ hg hw hp_))
                repeat (go_quiet (fail); try go_wp2_with (fail))
                (try rw [show (⟨go59, (t114 : Int).toNat, none⟩ : Addr) = (⟨go59, 0, none⟩ : Addr).add (t114 : Int).toNat from by simp [Addr.add]])
                (try rw [show (⟨go59, (t113 : Int).toNat, none⟩ : Addr) = (⟨go59, 0, none⟩ : Addr).add (t113 : Int).toNat from by simp [Addr.add]])
                (try simp only [← hl8_4])
                go_roundg k4
                case measure => have := HJ4.out; have := HK2.out; have := HK3.out; have := HK4.out; omega
                case rel => exact ⟨(y120), (wrap64 (x14_4 + 1)), (by first | rfl | (simp; done) | (simp [*]; done)), H', ⟨by have := HJ4.out; have := HK2.out; have := HK3.out; have := HK4.out; omega⟩, ⟨by (try simp only [hl8_3]); (try simp only [hl8_4]); (with_reducible repeat (first | apply Kd.R_alloc | apply Kd.R_drewN | apply Kd.R_drew)); exact HO_8.out⟩, ⟨by (try simp only [hl8_3]); (try simp only [hl8_4]); (with_reducible repeat (first | refine blk_drewN ?_ _ | refine blk_drew ?_ | refine blk_alloc ?_ _)); exact BK101.out⟩, ⟨by repeat (first | (with_reducible first | exact HB.out | apply below_alloc | apply pw_below_drewN | apply below_drew1 | refine below_set ?_ GE101.out) | exact HB.out)⟩⟩
               ·rw [if_neg c56] at H
                have c56b0 : ((rd x8_4 x14_4) == (rd x8_3 t114)) = false := beq_eq_false_iff_ne.mpr c56
                have c56b1 : ((rd x8_4 x14_4) != (rd x8_3 t114)) = true := bne_iff_ne.mpr c56
                have H' := A_ H
                clear H
                have p118 : 0 ≤ (x14_4 : Int) := of_decide_eq_true (by first | (with_reducible assumption) | assumption)
                have q118 : x14_4 < (x8_4.length : Int) := of_decide_eq_true (by first | (with_reducible assumption) | assumption)
                obtain ⟨ad118, e118, hx118_0⟩ := Kd.at_int (Kd.R_reads' HO_8.out).2.2 x14_4 p118 q118
                obtain rfl : ad115 = ad118 := (by injection e118)
                replace p118 := eq_true p118; replace q118 := eq_true q118
                go_wp2
                repeat (go_quiet (fail); try go_wp2)
                (try simp only [← hl8_4])
                go_roundg k4
                case measure => have := HJ4.out; have := HK2.out; have := HK3.out; have := HK4.out; omega
                case rel => exact ⟨(x8_4), (wrap64 (x14_4 + 1)), (by first | rfl | (simp; done) | (simp [*]; done)), H', ⟨by have := HJ4.out; have := HK2.out; have := HK3.out; have := HK4.out; omega⟩, ⟨by (try simp only [hl8_3]); (try simp only [hl8_4]); (with_reducible repeat (first | apply Kd.R_alloc | apply Kd.R_drewN | apply Kd.R_drew)); exact HO_8.out⟩, ⟨by (try simp only [hl8_3]); (try simp only [hl8_4]); (with_reducible repeat (first | refine blk_drewN ?_ _ | refine blk_drew ?_ | refine blk_alloc ?_ _)); exact BK101.out⟩, ⟨by repeat (first | (with_reducible first | exact HB.out | apply below_alloc | apply pw_below_drewN | apply below_drew1 | refine below_set ?_ GE101.out) | exact HB.out)⟩⟩
              ·rw [if_neg c54] at H
               have c54b0 : decide (x14_4 < (x8_4.length : Int)) = false := decide_eq_false c54
               clear c54
               have H' := A_ H
               clear H
               go_wp2
               repeat (go_quiet (fail); try go_wp2)
               (try simp only [← hl8_3, ← hl8_4])
               go_roundg k4
               case measure => have := HJ4.out; have := HK2.out; have := HK3.out; have := HK4.out; omega
               case rel => exact ⟨(x8_4), (wrap64 (x10_3 + 1)), (by first | rfl | (simp; done) | (simp [*]; done)), H', ⟨by have := HJ4.out; have := HK2.out; have := HK3.out; have := HK4.out; omega⟩, ⟨by (try simp only [hl8_3]); (try simp only [hl8_4]); (with_reducible repeat (first | apply Kd.R_alloc | apply Kd.R_drewN | apply Kd.R_drew)); exact HO_8.out⟩, ⟨by (try simp only [hl8_3]); (try simp only [hl8_4]); (with_reducible repeat (first | refine blk_drewN ?_ _ | refine blk_drew ?_ | refine blk_alloc ?_ _)); exact BK101.out⟩, ⟨by repeat (first | (with_reducible first | exact HB.out | apply below_alloc | apply pw_below_drewN | apply below_drew1 | refine below_set ?_ GE101.out) | exact HB.out)⟩⟩
          ·replace c43 := Bool.eq_false_iff.mpr c43
           subst c43
           have H1 : (spec_CountFixed.l1 k3 a1 a2 t102 x8_3 (wrap64 (x10_3 + 1)) a0_0 a0_1) = some r := by rw [if_neg (show ¬ (false = true) by decide)] at H; exact H
           clear H
           have H := H1
           clear H1
           have H' := A_ H
           clear H
           go_wp2_with (first | (go_at_call 83; (with_reducible refine (spec_l03Bit.calls a1 x10_3 false _ A42.out).mono ?_); rintro e w' ⟨rfl, ⟨nd, rfl⟩⟩; (try first | exact ⟨rfl, _, World.drewN_drewN _ _ _⟩ | exact ⟨rfl, _, Eq.trans (World.drewN_drewN _ _ _) (congrArg (World.drewN _) (Nat.add_assoc _ _ _))⟩)))
           repeat (go_quiet (fail); try go_wp2_with (fail))
           (try simp only [← hl8_3])
           go_roundg k3
           case measure => have := HJ4.out; have := HK2.out; have := HK3.out; omega
           case rel => exact ⟨(x8_3), (wrap64 (x10_3 + 1)), (by first | rfl | (simp; done) | (simp [*]; done)), H', ⟨by have := HJ4.out; have := HK2.out; have := HK3.out; omega⟩, ⟨by (try simp only [hl8_3]); (with_reducible repeat (first | apply Kd.R_alloc | apply Kd.R_drewN | apply Kd.R_drew)); exact HO_8.out⟩, ⟨by (try simp only [hl8_3]); (with_reducible repeat (first | refine blk_drewN ?_ _ | refine blk_drew ?_ | refine blk_alloc ?_ _)); exact BK101.out⟩, ⟨by repeat (first | (with_reducible first | exact HB.out | apply below_alloc | apply pw_below_drewN | apply below_drew1 | refine below_set ?_ GE101.out) | exact HB.out)⟩⟩
         ·rw [if_neg c41] at H
          have c41b0 : decide (x10_3 < t102) = false := decide_eq_false c41
          clear c41
          obtain ⟨t111, A620, H⟩ := oB_ H
          (try dsimp only at H); have A62 := A_ A620; clear A620
          obtain rfl := Option.some.inj H
          obtain ⟨hcz63_0, hcz63_1⟩ := kk2_ BK101.1
          have hfz63_0 := bf_ BK101.out 0
          have hfz63_1 := bf_ BK101.out 1
          go_wp2_with (first | (go_at_call 85; (with_reducible refine (spec_l12Trees.calls k3 a0_0 a0_1 (Go.bits .or .i64 a1 a2) _ _ x8_3 t111 _ ?side1 ?side2 A62.out).mono ?_); (case side1 => repeat (first | exact (Kd.R_reads' HO_8.out).2.2 | (with_reducible refine Kd.C_alloc ?_ _) | (with_reducible refine Kd.C_drewN ?_ _) | (with_reducible refine Kd.C_drew ?_))); (case side2 => exact (Kd.R_reads' HO_8.out).2.1); rintro e w64 ⟨rfl, hb⟩; have n0_ := A_ (Kd.R_below (by (with_reducible repeat (first | apply Kd.R_alloc | apply Kd.R_drewN | apply Kd.R_drew)); exact HO_8.out) hb); have n1_ := A_ (blk_below (g := gb101) (o := .cells #[.int .i64 a0_0, .int .i64 a0_1] 40 (0, 0)) (by (with_reducible repeat first | refine cA_ ?_ _ | refine cB_ ?_ | refine cC_ ?_ _); exact BK101.1) hb); have n2_ := A_ (below_step (by repeat first | exact HB.1 | apply bA_ | apply bB_ | apply bC_ | refine below_set ?_ GE101.out) hb); clear HO_8 BK101 HB; have HO_8 := n0_; have BK101 := n1_; have HB := n2_; clear n0_ n1_ n2_; (try clear hb); (try clear hk)))
          repeat (go_quiet (fail); try go_wp2_with (fail))
          go_ret
          exact ⟨by first | rfl | (simp [errW_none, errW_some] <;> rfl) | (simp [*, errW_none, errW_some] <;> rfl), by repeat (first | (with_reducible first | exact HB.out | apply below_alloc | apply pw_below_drewN | apply below_drew1 | refine below_set ?_ GE101.out) | exact HB.out)⟩

end Go.Proofs.Ytoohcdfokejkdaa.P
namespace Go.Proofs.Ytoohcdfokejkdaa.P
open Go.RowKit Go.Proofs.YtoohcdfokejkdaaW.PrintWords Go.Proofs.YtoohcdfokejkdaaW.PrintLast Go.Proofs.YtoohcdfokejkdaaW.PrintMore
attribute [local go_sem] max2_int min2_int max_two min_two max_three min_three max_four min_four   -- for this text's walks alone
set_option linter.unusedVariables false
set_option linter.unusedSimpArgs false

def spec_CountAll.f (k : Nat) (a0_0 : Int) (a0_1 : Int) : Option (Int) := (spec_CountFixed.f k a0_0 a0_1 0 0).bind fun t102 => (some t102)
set_option maxHeartbeats 8000000 in
set_option maxRecDepth 100000 in
theorem spec_CountAll.calls (k : Nat) (a0_0 : Int) (a0_1 : Int) (r : Int) (w : World) (h : spec_CountAll.f k a0_0 a0_1 = some r) :
  Calls Try.prog 39 #[.agg #[.int .i64 a0_0, .int .i64 a0_1]] w fun e w' => e = .returned (.int .i64 r) ∧ Below w.heap.size w w' := by
 have hu40 := Try.underlying40
 have HB := A_ (Below.refl w.heap.size w)
 have H : ((spec_CountFixed.f k a0_0 a0_1 0 0).bind fun t102 => (some t102)) = some r := h
 clear h
 obtain ⟨t102, A20, H⟩ := oB_ H
 (try dsimp only at H); have A2 := A_ A20; clear A20
 obtain rfl := Option.some.inj H
 go_enter Try.func39, Try.ntmps39
 go_wp2_with (first | ((with_reducible refine gate_dst (N := 1) rfl ?_); refine be_ 1 #[.int .i64 a0_0, .int .i64 a0_1] 40 ?_; intro gb101 hg w3 hbox hb; have n0_ := A_ (bs_ HB.1 hb); have n1_ := A_ (hbox); have n2_ := A_ (bS_ HB.out hg); have n3_ := A_ (bS_ HB.out hg); clear HB; have HB := n0_; have BK101 := n1_; have GW101 := n2_; have GE101 := n3_; clear n0_ n1_ n2_ n3_ hb hbox hg; obtain ⟨hcz4_0, hcz4_1⟩ := kk2_ BK101.1; have hfz4_0 := bf_ BK101.out 0; have hfz4_1 := bf_ BK101.out 1) | ((with_reducible refine gate_callee (f := 37) rfl ?_); refine gl_ 4 Try.func37 #[.agg #[.int .i64 a0_0, .int .i64 a0_1], .int .i64 0, .int .i64 0] ?_; (with_reducible refine (spec_CountFixed.calls k a0_0 a0_1 0 0 t102 _ A2.out).mono ?_); rintro e w5 ⟨rfl, hb⟩; refine ⟨_, rfl, ?_⟩; have n0_ := A_ (blk_below BK101.out hb); have n1_ := A_ (bs_ HB.1 hb); clear BK101 HB; have BK101 := n0_; have HB := n1_; clear n0_ n1_; (try clear hb); (try clear hk)))
 go_ret
 exact ⟨by rfl, by repeat ((with_reducible exact HB.out))⟩

def spec_MazeAt.l0 : Nat → Int → Int → Int → Int → Int → Int → Option (Int × Int × Int × Bool)
 | 0, _, _, _, _, _, _ => none
 | k + 1, x1, x6, x7, x8, x102000, x102001 => (spec_CountGaps.f x102000 x102001).bind fun t105 => (if x8 < t105 then (if 0 ≤ x8 then ((spec_CountFixed.f k x102000 x102001 x6 (Go.bits .or .i64 x7 (shl .i64 1 x8))).bind fun t106 => (if x1 < t106 then (spec_MazeAt.l0 k x1 x6 (Go.bits .or .i64 x7 (shl .i64 1 x8)) (wrap64 (x8 + 1)) x102000 x102001) else (spec_MazeAt.l0 k (wrap64 (x1 - t106)) (Go.bits .or .i64 x6 (shl .i64 1 x8)) x7 (wrap64 (x8 + 1)) x102000 x102001))) else (none)) else (some (x102000, x102001, x6, true)))
def spec_MazeAt.f (k : Nat) (a0_0 : Int) (a0_1 : Int) (a1 : Int) : Option (Int × Int × Int × Bool) := (spec_CountAll.f k a0_0 a0_1).bind fun t103 => ((spec_l01In.f a1 0 (wrap64 (t103 - 1))).bind fun t104 => (if t104 = true then (spec_MazeAt.l0 k a1 0 0 0 a0_0 a0_1) else (some (0, 0, 0, false))))
def spec_MazeAt.T8 : Bool × List (List Nat × List Nat) := (true, [([], []), ([], []), ([], []), ([], []), ([3], [3]), ([2, 4], [2, 4]), ([0, 1, 5], [0, 1, 5]), ([6, 6, 0, 1, 2, 3, 4, 5, 6], [6])])
def spec_MazeAt.B8 : List Nat := [0, 0, 0, 0, 8, 28, 63, 127]
theorem spec_MazeAt.tab8 : rtab .any (opsOf Try.f47 8) = spec_MazeAt.T8 := by kernel_rfl
theorem spec_MazeAt.bits8 : waitsOk spec_MazeAt.T8.2 spec_MazeAt.B8 = true := by kernel_rfl
set_option maxHeartbeats 8000000 in
set_option maxRecDepth 100000 in
theorem spec_MazeAt.calls (k : Nat) (a0_0 : Int) (a0_1 : Int) (a1 : Int) (r1 : Int) (r2 : Int) (r3 : Int) (r4 : Bool) (w : World) (h : spec_MazeAt.f k a0_0 a0_1 a1 = some (r1, r2, r3, r4)) :
  Calls Try.prog 47 #[.agg #[.int .i64 a0_0, .int .i64 a0_1], .int .i64 a1] w fun e w' => e = .returned (.tuple #[.agg #[.int .i64 r1, .int .i64 r2, .int .i64 r3], .bool r4]) ∧ Below w.heap.size w w' := by
 have hu40 := Try.underlying40
 have hu42 := Try.underlying42
 have HB := A_ (Below.refl w.heap.size w)
 have H : ((spec_CountAll.f k a0_0 a0_1).bind fun t103 => ((spec_l01In.f a1 0 (wrap64 (t103 - 1))).bind fun t104 => (if t104 = true then (spec_MazeAt.l0 k a1 0 0 0 a0_0 a0_1) else (some (0, 0, 0, false))))) = some (r1, r2, r3, r4) := h
 clear h
 obtain ⟨t103, A30, H⟩ := oB_ H
 (try dsimp only at H); have A3 := A_ A30; clear A30
 obtain ⟨t104, A40, H⟩ := oB_ H
 (try dsimp only at H); have A4 := A_ A40; clear A40
 by_cases c5 : t104 = true
 ·subst c5
  rw [if_pos rfl] at H
  have H' := A_ H
  clear H
  go_enter Try.func47, Try.ntmps47
  go_wp2_with (first | ((with_reducible refine gate_dst (N := 2) rfl ?_); refine be_ 2 #[.int .i64 a0_0, .int .i64 a0_1] 40 ?_; intro gb101 hg w6 hbox hb; have n0_ := A_ (bs_ HB.1 hb); have n1_ := A_ (hbox); have n2_ := A_ (bS_ HB.out hg); have n3_ := A_ (bS_ HB.out hg); clear HB; have HB := n0_; have BK101 := n1_; have GW101 := n2_; have GE101 := n3_; clear n0_ n1_ n2_ n3_ hb hbox hg) | ((with_reducible refine gate_dst (N := 4) rfl ?_); refine be_ 4 #[.int .i64 0, .int .i64 0, .int .i64 0] 42 ?_; intro gb102 hg w7 hbox hb; have n0_ := A_ (blk_below BK101.out hb); have n1_ := A_ (bs_ HB.1 hb); have n2_ := A_ (hbox); have n3_ := A_ (bS_ HB.out hg); have n4_ := A_ (bS_ HB.out hg); have n5_ := A_ ((by rw [hg]; exact Nat.ne_of_lt (blk_lt (g := gb101) (o := .cells #[.int .i64 a0_0, .int .i64 a0_1] 40 (0, 0)) BK101.out) : gb101 ≠ gb102)); have n6_ := A_ ((by rw [hg]; exact Nat.ne_of_gt (blk_lt (g := gb101) (o := .cells #[.int .i64 a0_0, .int .i64 a0_1] 40 (0, 0)) BK101.out) : gb102 ≠ gb101)); clear BK101 HB; have BK101 := n0_; have HB := n1_; have BK102 := n2_; have GW102 := n3_; have GE102 := n4_; have NB101_102 := n5_; have NB102_101 := n6_; clear n0_ n1_ n2_ n3_ n4_ n5_ n6_ hb hbox hg; have hnb8 := NB101_102.out; have hnc8 := NB102_101.out; obtain ⟨hcz9_0, hcz9_1⟩ := kk2_ BK101.1; have hfz9_0 := bf_ BK101.out 0; have hfz9_1 := bf_ BK101.out 1) | ((with_reducible refine gate_callee (f := 39) rfl ?_); refine gl_ 12 Try.func39 #[.agg #[.int .i64 a0_0, .int .i64 a0_1]] ?_; (with_reducible refine (spec_CountAll.calls k a0_0 a0_1 t103 _ A3.out).mono ?_); rintro e w10 ⟨rfl, hb⟩; refine ⟨_, rfl, ?_⟩; have n0_ := A_ (blk_below BK101.out hb); have n1_ := A_ (blk_below BK102.out hb); have n2_ := A_ (bs_ HB.1 hb); clear BK101 BK102 HB; have BK101 := n0_; have BK102 := n1_; have HB := n2_; clear n0_ n1_ n2_; (try clear hb); (try clear hk)) | ((with_reducible refine gate_callee (f := 61) rfl ?_); refine gl_ 14 Try.func61 #[.int .i64 a1, .int .i64 0, .int .i64 (wrap64 (t103 - 1))] ?_; (with_reducible refine (spec_l01In.calls a1 0 (wrap64 (t103 - 1)) true _ A4.out).mono ?_); rintro e w' ⟨rfl, ⟨nd, rfl⟩⟩; refine ⟨_, rfl, ?_⟩))
  go_loopg [1, 6, 7, 8] k (fun kq v1 v6 v7 v8 w' => ∃ (x1_1 : Int) (x6_1 : Int) (x7_1 : Int) (x8_1 : Int), v1 = .int .i64 x1_1 ∧ v6 = .int .i64 x6_1 ∧ v7 = .int .i64 x7_1 ∧ v8 = .int .i64 x8_1 ∧ Aside0 (spec_MazeAt.l0 kq x1_1 x6_1 x7_1 x8_1 a0_0 a0_1 = some (r1, r2, r3, r4)) ∧ Aside0 (kq ≤ k) ∧ Aside0 (w'.heap[gb101]? = some (.cells #[.int .i64 a0_0, .int .i64 a0_1] 40 (0, 0))) ∧ Aside0 (w'.heap[gb102]? = some (.cells #[.int .i64 0, .int .i64 0, .int .i64 0] 42 (0, 0))) ∧ Aside0 (Below w.heap.size w w'))
  case atStart => exact ⟨(a1), (0), (0), (0), (by rfl), (by rfl), (by rfl), (by rfl), H', ⟨Nat.le_refl _⟩, ⟨by (with_reducible repeat (refine blk_drewN ?_ _)); exact BK101.out⟩, ⟨by (with_reducible repeat (refine blk_drewN ?_ _)); exact BK102.out⟩, ⟨by repeat ((with_reducible first | exact HB.out | apply pw_below_drewN))⟩⟩
  case round =>
   clear H'; try clear p2; try clear c3; try clear c4; try clear c5; try clear c6; try clear p6; try clear c8; try clear hcz9_0; try clear hcz9_1; try clear hfz9_0; try clear hfz9_1
   obtain ⟨x1_1, x6_1, x7_1, x8_1, rfl, rfl, rfl, rfl, HA, HK1, BK101, BK102, HB⟩ := hrel
   cases gk with
   | zero => exact absurd HA.out (by simp [spec_MazeAt.l0])
   | succ k1 =>
    have H := HA.out
    clear HA
    simp only [spec_MazeAt.l0] at H
    obtain ⟨t105, A110, H⟩ := oB_ H
    (try dsimp only at H); have A11 := A_ A110; clear A110
    by_cases c12 : x8_1 < t105
    ·rw [if_pos c12] at H
     have c12b0 : decide (x8_1 < t105) = true := decide_eq_true c12
     clear c12
     replace H := iN_ H; obtain ⟨c13, H⟩ := H
     have c13b0 := eq_true c13
     have c13b1 : decide (0 ≤ x8_1) = true := decide_eq_true c13
     clear c13
     obtain ⟨ji14, hji14⟩ : ∃ j_ : Int, (shl .i64 1 x8_1) = j_ := ⟨_, rfl⟩
     replace H : ((spec_CountFixed.f k1 a0_0 a0_1 x6_1 (Go.bits .or .i64 x7_1 (ji14))).bind fun t106 => (if x1_1 < t106 then (spec_MazeAt.l0 k1 x1_1 x6_1 (Go.bits .or .i64 x7_1 (ji14)) (wrap64 (x8_1 + 1)) a0_0 a0_1) else (spec_MazeAt.l0 k1 (wrap64 (x1_1 - t106)) (Go.bits .or .i64 x6_1 (ji14)) x7_1 (wrap64 (x8_1 + 1)) a0_0 a0_1))) = some (r1, r2, r3, r4) := by (rw [hji14] at H; exact H)
     (try rw [hji14] at A11)
     have hji14_ : (IntKind.i64.wrap (1 * 2 ^ min x8_1.toNat 64)) = ji14 := hji14
     have hji14z : x8_1 ≤ 64 → (IntKind.i64.wrap (1 * 2 ^ x8_1.toNat)) = ji14 := shl_small hji14
     have hji14u : (IntKind.i64.wrap (2 ^ min x8_1.toNat 64)) = ji14 := by have h_ := hji14_; rw [Int.one_mul] at h_; exact h_
     have hji14v : x8_1 ≤ 64 → (IntKind.i64.wrap (2 ^ x8_1.toNat)) = ji14 := fun hle_ => by have h_ := hji14z hle_; rw [Int.one_mul] at h_; exact h_
     have hji14y : (wrap64 (1 * 2 ^ min x8_1.toNat 64)) = ji14 := (i64_w _).symm.trans hji14_
     have hji14x : x8_1 ≤ 64 → (wrap64 (1 * 2 ^ x8_1.toNat)) = ji14 := fun h_ => (i64_w _).symm.trans (hji14z h_)
     obtain ⟨t106, A150, H⟩ := oB_ H
     (try dsimp only at H); have A15 := A_ A150; clear A150
     by_cases c16 : x1_1 < t106
     ·rw [if_pos c16] at H
      have c16b0 : decide (x1_1 < t106) = true := decide_eq_true c16
      clear c16
      have c17b0 := eq_true (oD_ : 0 ≤ x8_1)
      have H' := A_ H
      clear H
      have hnb18 := NB101_102.out
      have hnc18 := NB102_101.out
      obtain ⟨hcz19_0, hcz19_1⟩ := kk2_ BK101.1
      have hfz19_0 := bf_ BK101.out 0
      have hfz19_1 := bf_ BK101.out 1
      try go_wp2_with (((with_reducible refine gate_callee (f := 32) rfl ?_); refine gl_ 19 Try.func32 #[.agg #[.int .i64 a0_0, .int .i64 a0_1]] ?_; (with_reducible refine (spec_CountGaps.calls a0_0 a0_1 t105 _ A11.out).mono ?_); rintro e w20 ⟨rfl, hb⟩; refine ⟨_, rfl, ?_⟩; have n0_ := A_ (blk_below BK101.out hb); have n1_ := A_ (blk_below BK102.out hb); have n2_ := A_ (bs_ HB.1 hb); clear BK101 BK102 HB; have BK101 := n0_; have BK102 := n1_; have HB := n2_; clear n0_ n1_ n2_; (try clear hb); (try clear hk)))
      have n0_ := A_ (blk_drew BK101.out); have n1_ := A_ (blk_drew BK102.out); have n2_ := A_ (below_drew1 HB.out); clear BK101 BK102 HB; have BK101 := n0_; have BK102 := n1_; have HB := n2_; clear n0_ n1_ n2_
      refine start_ (n := 8) (S := fun w' => w'.cell? ⟨gb101, 0, none⟩ = some (.int .i64 a0_0) ∧ w'.cell? ⟨gb101, 1, none⟩ = some (.int .i64 a0_1)) (ds := []) #[false, false, false, false, false, false, false, false] (by kernel_rfl) rfl rfl ⟨(blk_cell BK101.out 0).trans rfl, (blk_cell BK101.out 1).trans rfl⟩ (fun hHeld => ?_); refine with_tabW spec_MazeAt.tab8 spec_MazeAt.bits8 (fun HT_ HW_ => ?_)
      generalize w20.drew = w21 at BK101 BK102 HB hHeld ⊢; refine pv_ 1 24 HT_ ?_; refine pv_ 2 25 HT_ ?_; refine pv_ 3 26 HT_ ?_; refine pv_ 4 27 HT_ ?_; refine pv_ 5 28 HT_ ?_; refine tv_ 0 23 rfl HT_ HW_ hHeld (by rintro w' ⟨s0, s1⟩; go_simp; with_reducible rfl) ?_
      refine on_ 6 (some 29) rfl rfl HT_ (by kernel_rfl) (by decide) (fun K hK => ?_)
      refine gs_ Try.func37 #[.agg #[.int .i64 a0_0, .int .i64 a0_1], .int .i64 x6_1, .int .i64 (Go.bits .or .i64 x7_1 (ji14))] ?_
      with_reducible refine (spec_CountFixed.calls k1 a0_0 a0_1 x6_1 (Go.bits .or .i64 x7_1 (ji14)) t106 _ A15.out).mono ?_
      rintro e w22 ⟨rfl, hb⟩
      refine ⟨_, rfl, ?_⟩
      have n0_ := A_ (blk_below BK101.out hb)
      have n1_ := A_ (blk_below BK102.out hb)
      have n2_ := A_ (bs_ HB.1 hb)
      clear BK101 BK102 HB; have BK101 := n0_; have BK102 := n1_; have HB := n2_; clear n0_ n1_ n2_; (try clear hb); (try clear hk)
      refine hK.out _ _ ⟨(blk_cell BK101.out 0).trans rfl, (blk_cell BK101.out 1).trans rfl⟩ (fun hHeld => ?_)
      clear hK K
      refine norm_ (a' := ?_) ?_ ?_; rotate_left; (show Act.put _ (some 29) _ = _; simp only [P6_]; rfl)
      refine pv_ 7 9 HT_ ?_
      refine done_ (done_of HT_.out (by kernel_rfl)) ?_
      try go_wp2
      go_roundg k1
      case measure => have := HK1.out; omega
      case rel => exact ⟨(x1_1), (x6_1), (Go.bits .or .i64 x7_1 (ji14)), (wrap64 (x8_1 + 1)), (by rfl), (by rfl), (by rfl), (by rfl), H', ⟨by have := HK1.out; omega⟩, ⟨by exact BK101.out⟩, ⟨by exact BK102.out⟩, ⟨by repeat ((with_reducible exact HB.out))⟩⟩
     ·rw [if_neg c16] at H
      have c16b0 : decide (x1_1 < t106) = false := decide_eq_false c16
      clear c16
      have c23b0 := eq_true (oD_ : 0 ≤ x8_1)
      have H' := A_ H
      clear H
      have hnb24 := NB101_102.out
      have hnc24 := NB102_101.out
      obtain ⟨hcz25_0, hcz25_1⟩ := kk2_ BK101.1
      have hfz25_0 := bf_ BK101.out 0
      have hfz25_1 := bf_ BK101.out 1
      try go_wp2_with (((with_reducible refine gate_callee (f := 32) rfl ?_); refine gl_ 19 Try.func32 #[.agg #[.int .i64 a0_0, .int .i64 a0_1]] ?_; (with_reducible refine (spec_CountGaps.calls a0_0 a0_1 t105 _ A11.out).mono ?_); rintro e w26 ⟨rfl, hb⟩; refine ⟨_, rfl, ?_⟩; have n0_ := A_ (blk_below BK101.out hb); have n1_ := A_ (blk_below BK102.out hb); have n2_ := A_ (bs_ HB.1 hb); clear BK101 BK102 HB; have BK101 := n0_; have BK102 := n1_; have HB := n2_; clear n0_ n1_ n2_; (try clear hb); (try clear hk)))
      have n0_ := A_ (blk_drew BK101.out); have n1_ := A_ (blk_drew BK102.out); have n2_ := A_ (below_drew1 HB.out); clear BK101 BK102 HB; have BK101 := n0_; have BK102 := n1_; have HB := n2_; clear n0_ n1_ n2_
      refine start_ (n := 8) (S := fun w' => w'.cell? ⟨gb101, 0, none⟩ = some (.int .i64 a0_0) ∧ w'.cell? ⟨gb101, 1, none⟩ = some (.int .i64 a0_1)) (ds := []) #[false, false, false, false, false, false, false, false] (by kernel_rfl) rfl rfl ⟨(blk_cell BK101.out 0).trans rfl, (blk_cell BK101.out 1).trans rfl⟩ (fun hHeld => ?_); refine with_tabW spec_MazeAt.tab8 spec_MazeAt.bits8 (fun HT_ HW_ => ?_)
      generalize w26.drew = w27 at BK101 BK102 HB hHeld ⊢; refine pv_ 1 24 HT_ ?_; refine pv_ 2 25 HT_ ?_; refine pv_ 3 26 HT_ ?_; refine pv_ 4 27 HT_ ?_; refine pv_ 5 28 HT_ ?_; refine tv_ 0 23 rfl HT_ HW_ hHeld (by rintro w' ⟨s0, s1⟩; go_simp; with_reducible rfl) ?_
      refine on_ 6 (some 29) rfl rfl HT_ (by kernel_rfl) (by decide) (fun K hK => ?_)
      refine gs_ Try.func37 #[.agg #[.int .i64 a0_0, .int .i64 a0_1], .int .i64 x6_1, .int .i64 (Go.bits .or .i64 x7_1 (ji14))] ?_
      with_reducible refine (spec_CountFixed.calls k1 a0_0 a0_1 x6_1 (Go.bits .or .i64 x7_1 (ji14)) t106 _ A15.out).mono ?_
      rintro e w28 ⟨rfl, hb⟩
      refine ⟨_, rfl, ?_⟩
      have n0_ := A_ (blk_below BK101.out hb)
      have n1_ := A_ (blk_below BK102.out hb)
      have n2_ := A_ (bs_ HB.1 hb)
      clear BK101 BK102 HB; have BK101 := n0_; have BK102 := n1_; have HB := n2_; clear n0_ n1_ n2_; (try clear hb); (try clear hk)
      refine hK.out _ _ ⟨(blk_cell BK101.out 0).trans rfl, (blk_cell BK101.out 1).trans rfl⟩ (fun hHeld => ?_)
      clear hK K
      refine norm_ (a' := ?_) ?_ ?_; rotate_left; (show Act.put _ (some 29) _ = _; simp only [P6_]; rfl)
      refine pv_ 7 9 HT_ ?_
      refine done_ (done_of HT_.out (by kernel_rfl)) ?_
      try go_wp2
      go_roundg k1
      case measure => have := HK1.out; omega
      case rel => exact ⟨(wrap64 (x1_1 - t106)), (Go.bits .or .i64 x6_1 (ji14)), (x7_1), (wrap64 (x8_1 + 1)), (by rfl), (by rfl), (by rfl), (by rfl), H', ⟨by have := HK1.out; omega⟩, ⟨by exact BK101.out⟩, ⟨by exact BK102.out⟩, ⟨by repeat ((with_reducible exact HB.out))⟩⟩
    ·rw [if_neg c12] at H
     have c12b0 : decide (x8_1 < t105) = false := decide_eq_false c12
     clear c12
     simp only [Option.some.injEq, Prod.mk.injEq] at H
     obtain ⟨rfl, rfl, rfl, rfl⟩ := H
     have hnb29 := NB101_102.out
     have hnc29 := NB102_101.out
     obtain ⟨hcz30_0, hcz30_1⟩ := kk2_ BK101.1
     have hfz30_0 := bf_ BK101.out 0
     have hfz30_1 := bf_ BK101.out 1
     go_wp2_with (((with_reducible refine gate_callee (f := 32) rfl ?_); refine gl_ 19 Try.func32 #[.agg #[.int .i64 a0_0, .int .i64 a0_1]] ?_; (with_reducible refine (spec_CountGaps.calls a0_0 a0_1 t105 _ A11.out).mono ?_); rintro e w31 ⟨rfl, hb⟩; refine ⟨_, rfl, ?_⟩; have n0_ := A_ (blk_below BK101.out hb); have n1_ := A_ (blk_below BK102.out hb); have n2_ := A_ (bs_ HB.1 hb); clear BK101 BK102 HB; have BK101 := n0_; have BK102 := n1_; have HB := n2_; clear n0_ n1_ n2_; (try clear hb); (try clear hk); obtain ⟨hcz32_0, hcz32_1⟩ := kk2_ BK101.1; have hfz32_0 := bf_ BK101.out 0; have hfz32_1 := bf_ BK101.out 1; obtain ⟨hcz33_0, hcz33_1, hcz33_2⟩ := kk3_ BK102.1; have hfz33_0 := bf_ BK102.out 0; have hfz33_1 := bf_ BK102.out 1; have hfz33_2 := bf_ BK102.out 2))
     refine bodyPost_ret (results_ct rfl _ _ gb102 42 #[.int .i64 a0_0, .int .i64 a0_1, .int .i64 x6_1] (0, 0) _ rfl (by refine blk_put (cs := #[.int .i64 a0_0, .int .i64 a0_1, .int .i64 0]) ?_ 2 _ rfl; refine blk_put (cs := #[.int .i64 a0_0, .int .i64 0, .int .i64 0]) ?_ 1 _ rfl; refine blk_put (cs := #[.int .i64 0, .int .i64 0, .int .i64 0]) ?_ 0 _ rfl; exact BK102.out) Try.underlying42 rfl (by kernel_rfl)) rfl ?_
     exact ⟨by rfl, by repeat ((with_reducible first | exact HB.out | refine below_set ?_ GE102.out))⟩
 ·replace c5 := Bool.eq_false_iff.mpr c5
  subst c5
  have H1 : (some (0, 0, 0, false)) = some (r1, r2, r3, r4) := by rw [if_neg (show ¬ (false = true) by decide)] at H; exact H
  clear H
  have H := H1
  clear H1
  simp only [Option.some.injEq, Prod.mk.injEq] at H
  obtain ⟨rfl, rfl, rfl, rfl⟩ := H
  go_enter Try.func47, Try.ntmps47
  go_wp2_with (first | ((with_reducible refine gate_dst (N := 2) rfl ?_); refine be_ 2 #[.int .i64 a0_0, .int .i64 a0_1] 40 ?_; intro gb101 hg w34 hbox hb; have n0_ := A_ (bs_ HB.1 hb); have n1_ := A_ (hbox); have n2_ := A_ (bS_ HB.out hg); have n3_ := A_ (bS_ HB.out hg); clear HB; have HB := n0_; have BK101 := n1_; have GW101 := n2_; have GE101 := n3_; clear n0_ n1_ n2_ n3_ hb hbox hg) | ((with_reducible refine gate_dst (N := 4) rfl ?_); refine be_ 4 #[.int .i64 0, .int .i64 0, .int .i64 0] 42 ?_; intro gb102 hg w35 hbox hb; have n0_ := A_ (blk_below BK101.out hb); have n1_ := A_ (bs_ HB.1 hb); have n2_ := A_ (hbox); have n3_ := A_ (bS_ HB.out hg); have n4_ := A_ (bS_ HB.out hg); have n5_ := A_ ((by rw [hg]; exact Nat.ne_of_lt (blk_lt (g := gb101) (o := .cells #[.int .i64 a0_0, .int .i64 a0_1] 40 (0, 0)) BK101.out) : gb101 ≠ gb102)); have n6_ := A_ ((by rw [hg]; exact Nat.ne_of_gt (blk_lt (g := gb101) (o := .cells #[.int .i64 a0_0, .int .i64 a0_1] 40 (0, 0)) BK101.out) : gb102 ≠ gb101)); clear BK101 HB; have BK101 := n0_; have HB := n1_; have BK102 := n2_; have GW102 := n3_; have GE102 := n4_; have NB101_102 := n5_; have NB102_101 := n6_; clear n0_ n1_ n2_ n3_ n4_ n5_ n6_ hb hbox hg; have hnb36 := NB101_102.out; have hnc36 := NB102_101.out; obtain ⟨hcz37_0, hcz37_1⟩ := kk2_ BK101.1; have hfz37_0 := bf_ BK101.out 0; have hfz37_1 := bf_ BK101.out 1) | ((with_reducible refine gate_callee (f := 39) rfl ?_); refine gl_ 12 Try.func39 #[.agg #[.int .i64 a0_0, .int .i64 a0_1]] ?_; (with_reducible refine (spec_CountAll.calls k a0_0 a0_1 t103 _ A3.out).mono ?_); rintro e w38 ⟨rfl, hb⟩; refine ⟨_, rfl, ?_⟩; have n0_ := A_ (blk_below BK101.out hb); have n1_ := A_ (blk_below BK102.out hb); have n2_ := A_ (bs_ HB.1 hb); clear BK101 BK102 HB; have BK101 := n0_; have BK102 := n1_; have HB := n2_; clear n0_ n1_ n2_; (try clear hb); (try clear hk)) | ((with_reducible refine gate_callee (f := 61) rfl ?_); refine gl_ 14 Try.func61 #[.int .i64 a1, .int .i64 0, .int .i64 (wrap64 (t103 - 1))] ?_; (with_reducible refine (spec_l01In.calls a1 0 (wrap64 (t103 - 1)) false _ A4.out).mono ?_); rintro e w' ⟨rfl, ⟨nd, rfl⟩⟩; refine ⟨_, rfl, ?_⟩; (try (rw [drewN_self w38]; generalize hq_ : World.drewN w38 _ = w38; have n0_ : Aside0 (w38.heap[gb101]? = some (.cells #[.int .i64 a0_0, .int .i64 a0_1] 40 (0, 0))) := ⟨by rw [← hq_]; exact (by (with_reducible repeat (refine blk_drewN ?_ _)); exact BK101.out)⟩; have n1_ : Aside0 (w38.heap[gb102]? = some (.cells #[.int .i64 0, .int .i64 0, .int .i64 0] 42 (0, 0))) := ⟨by rw [← hq_]; exact (by (with_reducible repeat (refine blk_drewN ?_ _)); exact BK102.out)⟩; have n2_ : Aside0 (Below w.heap.size w w38) := ⟨by rw [← hq_]; exact (by repeat ((with_reducible first | exact HB.out | apply pw_below_drewN)))⟩; clear BK101 BK102 HB hq_; have BK101 := n0_; have BK102 := n1_; have HB := n2_; clear n0_ n1_ n2_)); obtain ⟨hcz39_0, hcz39_1, hcz39_2⟩ := kk3_ BK102.1; have hfz39_0 := bf_ BK102.out 0; have hfz39_1 := bf_ BK102.out 1; have hfz39_2 := bf_ BK102.out 2))
  refine bodyPost_ret (results_ct rfl _ _ gb102 42 #[.int .i64 0, .int .i64 0, .int .i64 0] (0, 0) _ rfl (by refine blk_put (cs := #[.int .i64 0, .int .i64 0, .int .i64 0]) ?_ 2 _ rfl; refine blk_put (cs := #[.int .i64 0, .int .i64 0, .int .i64 0]) ?_ 1 _ rfl; refine blk_put (cs := #[.int .i64 0, .int .i64 0, .int .i64 0]) ?_ 0 _ rfl; exact BK102.out) Try.underlying42 rfl (by kernel_rfl)) rfl ?_
  exact ⟨by rfl, by repeat ((with_reducible first | exact HB.out | refine below_set ?_ GE102.out))⟩

def spec_MazeOk.f (a0_0 : Int) (a0_1 : Int) (a0_2 : Int) : Option (Bool) := (spec_GridOk.f a0_0 a0_1).bind fun t102 => (if t102 = true then ((spec_CountGaps.f a0_0 a0_1).bind fun t103 => (if 0 ≤ t103 then ((spec_l01In.f a0_2 0 (wrap64 ((shl .i64 1 t103) - 1))).bind fun t104 => (some t104)) else (none))) else (some false))
def spec_MazeOk.T1 : Bool × List (List Nat × List Nat) := (true, [([], []), ([0], [0]), ([1], [1]), ([2, 2], [2]), ([3], [3]), ([4, 3], [3, 4]), ([3], [3]), ([6, 3], [3, 6]), ([7, 3, 3], [3, 7]), ([8, 3], [3, 8]), ([9, 3], [3, 9]), ([5, 10, 8, 3], [3, 5, 10]), ([3, 11], [3, 11]), ([12, 11, 0, 1, 2, 3, 4, 5, 6, 7, 8, 9, 10, 11, 12], [12])])
def spec_MazeOk.B1 : List Nat := [0, 1, 3, 7, 15, 31, 15, 79, 207, 463, 975, 2047, 4095, 8191]
theorem spec_MazeOk.tab1 : rtab .any (opsOf Try.f66 1) = spec_MazeOk.T1 := by kernel_rfl
theorem spec_MazeOk.bits1 : waitsOk spec_MazeOk.T1.2 spec_MazeOk.B1 = true := by kernel_rfl
set_option maxHeartbeats 8000000 in
set_option maxRecDepth 100000 in
theorem spec_MazeOk.calls (a0_0 : Int) (a0_1 : Int) (a0_2 : Int) (r : Bool) (w : World) (h : spec_MazeOk.f a0_0 a0_1 a0_2 = some r) :
  Calls Try.prog 66 #[.agg #[.int .i64 a0_0, .int .i64 a0_1, .int .i64 a0_2]] w fun e w' => e = .returned (.bool r) ∧ Below w.heap.size w w' := by
 have hu42 := Try.underlying42
 have hu40 := Try.underlying40
 have HB := A_ (Below.refl w.heap.size w)
 have H : ((spec_GridOk.f a0_0 a0_1).bind fun t102 => (if t102 = true then ((spec_CountGaps.f a0_0 a0_1).bind fun t103 => (if 0 ≤ t103 then ((spec_l01In.f a0_2 0 (wrap64 ((shl .i64 1 t103) - 1))).bind fun t104 => (some t104)) else (none))) else (some false))) = some r := h
 clear h
 obtain ⟨t102, A20, H⟩ := oB_ H
 (try dsimp only at H); have A2 := A_ A20; clear A20
 by_cases c3 : t102 = true
 ·subst c3
  rw [if_pos rfl] at H
  obtain ⟨t103, A40, H⟩ := oB_ H
  (try dsimp only at H); have A4 := A_ A40; clear A40
  replace H := iN_ H; obtain ⟨c5, H⟩ := H
  have c5b0 := eq_true c5
  have c5b1 : decide (0 ≤ t103) = true := decide_eq_true c5
  clear c5
  obtain ⟨ji6, hji6⟩ : ∃ j_ : Int, (shl .i64 1 t103) = j_ := ⟨_, rfl⟩
  replace H : ((spec_l01In.f a0_2 0 (wrap64 ((ji6) - 1))).bind fun t104 => (some t104)) = some r := by (rw [hji6] at H; exact H)
  (try rw [hji6] at A2)
  (try rw [hji6] at A4)
  have hji6_ : (IntKind.i64.wrap (1 * 2 ^ min t103.toNat 64)) = ji6 := hji6
  have hji6z : t103 ≤ 64 → (IntKind.i64.wrap (1 * 2 ^ t103.toNat)) = ji6 := shl_small hji6
  have hji6u : (IntKind.i64.wrap (2 ^ min t103.toNat 64)) = ji6 := by have h_ := hji6_; rw [Int.one_mul] at h_; exact h_
  have hji6v : t103 ≤ 64 → (IntKind.i64.wrap (2 ^ t103.toNat)) = ji6 := fun hle_ => by have h_ := hji6z hle_; rw [Int.one_mul] at h_; exact h_
  have hji6y : (wrap64 (1 * 2 ^ min t103.toNat 64)) = ji6 := (i64_w _).symm.trans hji6_
  have hji6x : t103 ≤ 64 → (wrap64 (1 * 2 ^ t103.toNat)) = ji6 := fun h_ => (i64_w _).symm.trans (hji6z h_)
  obtain ⟨t104, A70, H⟩ := oB_ H
  (try dsimp only at H); have A7 := A_ A70; clear A70
  obtain rfl := Option.some.inj H
  go_enter Try.func66, Try.ntmps66
  try go_wp2_with (((with_reducible refine gate_dst (N := 1) rfl ?_); refine be_ 1 #[.int .i64 a0_0, .int .i64 a0_1, .int .i64 a0_2] 42 ?_; intro gb101 hg w8 hbox hb; have n0_ := A_ (bs_ HB.1 hb); have n1_ := A_ (hbox); have n2_ := A_ (bS_ HB.out hg); have n3_ := A_ (bS_ HB.out hg); clear HB; have HB := n0_; have BK101 := n1_; have GW101 := n2_; have GE101 := n3_; clear n0_ n1_ n2_ n3_ hb hbox hg)); have n0_ := A_ (blk_drew BK101.out); have n1_ := A_ (below_drew1 HB.out); clear BK101 HB; have BK101 := n0_; have HB := n1_; clear n0_ n1_
  refine start_ (n := 14) (S := fun w' => w'.cell? ⟨gb101, 0, none⟩ = some (.int .i64 a0_0) ∧ w'.cell? ⟨gb101, 1, none⟩ = some (.int .i64 a0_1) ∧ w'.cell? ⟨gb101, 2, none⟩ = some (.int .i64 a0_2)) (ds := []) #[false, false, false, false, false, false, false, false, false, false, false, false, false, false] (by kernel_rfl) rfl rfl ⟨(blk_cell BK101.out 0).trans rfl, (blk_cell BK101.out 1).trans rfl, (blk_cell BK101.out 2).trans rfl⟩ (fun hHeld => ?_); refine with_tabW spec_MazeOk.tab1 spec_MazeOk.bits1 (fun HT_ HW_ => ?_)
  generalize w8.drew = w9 at BK101 HB hHeld ⊢; refine pv_ 0 3 HT_ ?_; refine tv_ 1 4 rfl HT_ HW_ hHeld (by rintro w' ⟨s0, s1, s2⟩; go_simp; with_reducible rfl) ?_
  refine on_ 2 (some 5) rfl rfl HT_ (by kernel_rfl) (by decide) (fun K hK => ?_)
  refine gs_ Try.func74 #[.agg #[.int .i64 a0_0, .int .i64 a0_1]] ?_
  with_reducible refine (spec_GridOk.calls a0_0 a0_1 true _ A2.out).mono ?_
  rintro e w10 ⟨rfl, hb⟩
  refine ⟨_, rfl, ?_⟩
  have n0_ := A_ (blk_below BK101.out hb)
  have n1_ := A_ (bs_ HB.1 hb)
  clear BK101 HB; have BK101 := n0_; have HB := n1_; clear n0_ n1_; (try clear hb); (try clear hk)
  refine hK.out _ _ ⟨(blk_cell BK101.out 0).trans rfl, (blk_cell BK101.out 1).trans rfl, (blk_cell BK101.out 2).trans rfl⟩ (fun hHeld => ?_)
  clear hK K
  refine norm_ (a' := ?_) ?_ ?_; rotate_left; (show Act.put _ (some 5) _ = _; simp only [P6_]; rfl)
  refine pv_ 3 6 HT_ ?_; refine pv_ 4 7 HT_ ?_; refine pv_ 6 9 HT_ ?_; refine tv_ 5 8 rfl HT_ HW_ hHeld (by rintro w' ⟨s0, s1, s2⟩; go_simp; with_reducible rfl) ?_
  refine tv_ 7 10 rfl HT_ HW_ hHeld (by rintro w' ⟨s0, s1, s2⟩; go_simp; with_reducible rfl) ?_
  refine on_ 8 (some 11) rfl rfl HT_ (by kernel_rfl) (by decide) (fun K hK => ?_)
  refine gs_ Try.func32 #[.agg #[.int .i64 a0_0, .int .i64 a0_1]] ?_
  with_reducible refine (spec_CountGaps.calls a0_0 a0_1 t103 _ A4.out).mono ?_
  rintro e w11 ⟨rfl, hb⟩
  refine ⟨_, rfl, ?_⟩
  have n0_ := A_ (blk_below BK101.out hb)
  have n1_ := A_ (bs_ HB.1 hb)
  clear BK101 HB; have BK101 := n0_; have HB := n1_; clear n0_ n1_; (try clear hb); (try clear hk)
  refine hK.out _ _ ⟨(blk_cell BK101.out 0).trans rfl, (blk_cell BK101.out 1).trans rfl, (blk_cell BK101.out 2).trans rfl⟩ (fun hHeld => ?_)
  clear hK K
  refine norm_ (a' := ?_) ?_ ?_; rotate_left; (show Act.put _ (some 11) _ = _; simp only [P6_]; rfl)
  refine pv_ 9 12 HT_ ?_; refine pv_ 10 13 HT_ ?_
  refine on_ 11 (some 14) rfl rfl HT_ (by kernel_rfl) (by decide) (fun K hK => ?_)
  refine gs_ Try.func61 #[.int .i64 a0_2, .int .i64 0, .int .i64 (wrap64 ((ji6) - 1))] ?_
  with_reducible refine (spec_l01In.calls a0_2 0 (wrap64 ((ji6) - 1)) t104 _ A7.out).mono ?_
  rintro e w' ⟨rfl, ⟨nd, rfl⟩⟩
  refine ⟨_, rfl, ?_⟩
  refine hK.out _ _ ⟨(blk_cell BK101.out 0).trans rfl, (blk_cell BK101.out 1).trans rfl, (blk_cell BK101.out 2).trans rfl⟩ (fun hHeld => ?_)
  clear hK K
  refine norm_ (a' := ?_) ?_ ?_; rotate_left; (show Act.put _ (some 14) _ = _; simp only [P6_]; rfl)
  refine pv_ 12 15 HT_ ?_; refine pv_ 13 2 HT_ ?_
  refine done_ (done_of HT_.out (by kernel_rfl)) ?_
  try go_wp2
  go_ret
  exact ⟨by rfl, by repeat ((with_reducible first | exact HB.out | apply pw_below_drewN))⟩
 ·replace c3 := Bool.eq_false_iff.mpr c3
  subst c3
  have H1 : (some false) = some r := by rw [if_neg (show ¬ (false = true) by decide)] at H; exact H
  clear H
  have H := H1
  clear H1
  obtain rfl := Option.some.inj H
  go_enter Try.func66, Try.ntmps66
  try go_wp2_with (((with_reducible refine gate_dst (N := 1) rfl ?_); refine be_ 1 #[.int .i64 a0_0, .int .i64 a0_1, .int .i64 a0_2] 42 ?_; intro gb101 hg w12 hbox hb; have n0_ := A_ (bs_ HB.1 hb); have n1_ := A_ (hbox); have n2_ := A_ (bS_ HB.out hg); have n3_ := A_ (bS_ HB.out hg); clear HB; have HB := n0_; have BK101 := n1_; have GW101 := n2_; have GE101 := n3_; clear n0_ n1_ n2_ n3_ hb hbox hg)); have n0_ := A_ (blk_drew BK101.out); have n1_ := A_ (below_drew1 HB.out); clear BK101 HB; have BK101 := n0_; have HB := n1_; clear n0_ n1_
  refine start_ (n := 14) (S := fun w' => w'.cell? ⟨gb101, 0, none⟩ = some (.int .i64 a0_0) ∧ w'.cell? ⟨gb101, 1, none⟩ = some (.int .i64 a0_1) ∧ w'.cell? ⟨gb101, 2, none⟩ = some (.int .i64 a0_2)) (ds := []) #[false, false, false, false, false, false, false, false, false, false, false, false, false, false] (by kernel_rfl) rfl rfl ⟨(blk_cell BK101.out 0).trans rfl, (blk_cell BK101.out 1).trans rfl, (blk_cell BK101.out 2).trans rfl⟩ (fun hHeld => ?_); refine with_tabW spec_MazeOk.tab1 spec_MazeOk.bits1 (fun HT_ HW_ => ?_)
  generalize w12.drew = w13 at BK101 HB hHeld ⊢; refine pv_ 0 3 HT_ ?_; refine tv_ 1 4 rfl HT_ HW_ hHeld (by rintro w' ⟨s0, s1, s2⟩; go_simp; with_reducible rfl) ?_
  refine on_ 2 (some 5) rfl rfl HT_ (by kernel_rfl) (by decide) (fun K hK => ?_)
  refine gs_ Try.func74 #[.agg #[.int .i64 a0_0, .int .i64 a0_1]] ?_
  with_reducible refine (spec_GridOk.calls a0_0 a0_1 false _ A2.out).mono ?_
  rintro e w14 ⟨rfl, hb⟩
  refine ⟨_, rfl, ?_⟩
  have n0_ := A_ (blk_below BK101.out hb)
  have n1_ := A_ (bs_ HB.1 hb)
  clear BK101 HB; have BK101 := n0_; have HB := n1_; clear n0_ n1_; (try clear hb); (try clear hk)
  refine hK.out _ _ ⟨(blk_cell BK101.out 0).trans rfl, (blk_cell BK101.out 1).trans rfl, (blk_cell BK101.out 2).trans rfl⟩ (fun hHeld => ?_)
  clear hK K
  refine norm_ (a' := ?_) ?_ ?_; rotate_left; (show Act.put _ (some 5) _ = _; simp only [P6_]; rfl)
  refine pv_ 3 6 HT_ ?_; refine pw_ 4 7 HT_ ?_; refine pw_ 5 8 HT_ ?_; refine pw_ 6 9 HT_ ?_; refine pw_ 7 10 HT_ ?_; refine pw_ 8 11 HT_ ?_; refine pw_ 9 12 HT_ ?_; refine pw_ 10 13 HT_ ?_; refine pw_ 11 14 HT_ ?_; refine pv_ 12 15 HT_ ?_; refine pv_ 13 2 HT_ ?_
  refine done_ (done_of HT_.out (by kernel_rfl)) ?_
  try go_wp2
  go_ret
  exact ⟨by rfl, by repeat ((with_reducible exact HB.out))⟩

end Go.Proofs.Ytoohcdfokejkdaa.P
namespace Go.Proofs.Ytoohcdfokejkdaa.P
open Go.RowKit Go.Proofs.YtoohcdfokejkdaaW.PrintWords Go.Proofs.YtoohcdfokejkdaaW.PrintLast Go.Proofs.YtoohcdfokejkdaaW.PrintMore
attribute [local go_sem] max2_int min2_int max_two min_two max_three min_three max_four min_four   -- for this text's walks alone
set_option linter.unusedVariables false
set_option linter.unusedSimpArgs false

mutual
def spec_CountPassages.l0 : Nat → Int → Int → Int → Int → Int → Option (Int)
 | 0, _, _, _, _, _ => none
 | k + 1, x3, x4, x102000, x102001, x102002 => (spec_CountGaps.f x102000 x102001).bind fun t102 => (if x4 < t102 then ((spec_MazeOk.f x102000 x102001 x102002).bind fun t103 => (spec_CountPassages.j1 k x3 x4 t103 x102000 x102001 x102002)) else (spec_CountPassages.j1 k x3 x4 false x102000 x102001 x102002))
def spec_CountPassages.j1 : Nat → Int → Int → Bool → Int → Int → Int → Option (Int)
 | 0, _, _, _, _, _, _ => none
 | k + 1, x3, x4, x13, x102000, x102001, x102002 => if x13 = true then ((spec_l03Bit.f x102002 x4).bind fun t104 => (if t104 = true then (spec_CountPassages.l0 k (wrap64 (x3 + 1)) (wrap64 (x4 + 1)) x102000 x102001 x102002) else (spec_CountPassages.l0 k x3 (wrap64 (x4 + 1)) x102000 x102001 x102002))) else (some x3)
end
def spec_CountPassages.f (k : Nat) (a0_0 : Int) (a0_1 : Int) (a0_2 : Int) : Option (Int) := spec_CountPassages.l0 k 0 0 a0_0 a0_1 a0_2
set_option maxHeartbeats 8000000 in
set_option maxRecDepth 100000 in
theorem spec_CountPassages.calls (k : Nat) (a0_0 : Int) (a0_1 : Int) (a0_2 : Int) (r : Int) (w : World) (h : spec_CountPassages.f k a0_0 a0_1 a0_2 = some r) :
  Calls Try.prog 114 #[.agg #[.int .i64 a0_0, .int .i64 a0_1, .int .i64 a0_2]] w fun e w' => e = .returned (.int .i64 r) ∧ Below w.heap.size w w' := by
 have hu42 := Try.underlying42
 have hu40 := Try.underlying40
 have HB := A_ (Below.refl w.heap.size w)
 have H : (spec_CountPassages.l0 k 0 0 a0_0 a0_1 a0_2) = some r := h
 clear h
 have H' := A_ H
 clear H
 go_enter Try.func114, Try.ntmps114
 go_wp2_with (((with_reducible refine gate_dst (N := 1) rfl ?_); refine be_ 1 #[.int .i64 a0_0, .int .i64 a0_1, .int .i64 a0_2] 42 ?_; intro gb101 hg w2 hbox hb; have n0_ := A_ (bs_ HB.1 hb); have n1_ := A_ (hbox); have n2_ := A_ (bS_ HB.out hg); have n3_ := A_ (bS_ HB.out hg); clear HB; have HB := n0_; have BK101 := n1_; have GW101 := n2_; have GE101 := n3_; clear n0_ n1_ n2_ n3_ hb hbox hg))
 go_loopg [3, 4] k (fun kq v3 v4 w' => ∃ (x3_1 : Int) (x4_1 : Int), v3 = .int .i64 x3_1 ∧ v4 = .int .i64 x4_1 ∧ Aside0 (spec_CountPassages.l0 kq x3_1 x4_1 a0_0 a0_1 a0_2 = some r) ∧ Aside0 (kq ≤ k) ∧ Aside0 (w'.heap[gb101]? = some (.cells #[.int .i64 a0_0, .int .i64 a0_1, .int .i64 a0_2] 42 (0, 0))) ∧ Aside0 (Below w.heap.size w w'))
 case atStart => exact ⟨(0), (0), (by rfl), (by rfl), H', ⟨Nat.le_refl _⟩, ⟨by exact BK101.out⟩, ⟨by repeat ((with_reducible exact HB.out))⟩⟩
 case round =>
  clear H'; try clear c1; try clear p2
  obtain ⟨x3_1, x4_1, rfl, rfl, HA, HK1, BK101, HB⟩ := hrel
  cases gk with
  | zero => exact absurd HA.out (by simp [spec_CountPassages.l0])
  | succ k1 =>
   have H := HA.out
   clear HA
   simp only [spec_CountPassages.l0] at H
   have HC3 := A_ H
   clear H
   go_upto_region 3 with (fail)
   go_cut [13] (fun v13 wc => ∃ (kq : Nat) (x13_2 : Bool), v13 = .bool x13_2 ∧ Aside0 (spec_CountPassages.j1 kq x3_1 x4_1 x13_2 a0_0 a0_1 a0_2 = some r) ∧ Aside0 (kq ≤ k1) ∧ Aside0 (wc.heap[gb101]? = some (.cells #[.int .i64 a0_0, .int .i64 a0_1, .int .i64 a0_2] 42 (0, 0))) ∧ Aside0 (Below w.heap.size w wc))
   case first =>
    have H := HC3.out
    clear HC3
    obtain ⟨t102, A40, H⟩ := oB_ H
    (try dsimp only at H); have A4 := A_ A40; clear A40
    by_cases c5 : x4_1 < t102
    ·rw [if_pos c5] at H
     have c5b0 : decide (x4_1 < t102) = true := decide_eq_true c5
     clear c5
     (skip)
     obtain ⟨t103, A60, H⟩ := oB_ H
     (try dsimp only at H); have A6 := A_ A60; clear A60
     have H' := A_ H
     clear H
     obtain ⟨hcz7_0, hcz7_1, hcz7_2⟩ := kk3_ BK101.1
     have hfz7_0 := bf_ BK101.out 0
     have hfz7_1 := bf_ BK101.out 1
     have hfz7_2 := bf_ BK101.out 2
     go_wp2_with (first | ((with_reducible refine gate_callee (f := 32) rfl ?_); refine gl_ 8 Try.func32 #[.agg #[.int .i64 a0_0, .int .i64 a0_1]] ?_; (with_reducible refine (spec_CountGaps.calls a0_0 a0_1 t102 _ A4.out).mono ?_); rintro e w8 ⟨rfl, hb⟩; refine ⟨_, rfl, ?_⟩; have n0_ := A_ (blk_below BK101.out hb); have n1_ := A_ (bs_ HB.1 hb); clear BK101 HB; have BK101 := n0_; have HB := n1_; clear n0_ n1_; (try clear hb); (try clear hk); obtain ⟨hcz9_0, hcz9_1, hcz9_2⟩ := kk3_ BK101.1; have hfz9_0 := bf_ BK101.out 0; have hfz9_1 := bf_ BK101.out 1; have hfz9_2 := bf_ BK101.out 2) | (go_at_call 66; (with_reducible refine (spec_MazeOk.calls a0_0 a0_1 a0_2 t103 _ A6.out).mono ?_); rintro e w10 ⟨rfl, hb⟩; have n0_ := A_ (blk_below BK101.out hb); have n1_ := A_ (bs_ HB.1 hb); clear BK101 HB; have BK101 := n0_; have HB := n1_; clear n0_ n1_; (try clear hb); (try clear hk)))
     go_meet
     case rel => exact ⟨_, (t103), (by rfl), H', ⟨by have := HK1.out; omega⟩, ⟨by exact BK101.out⟩, ⟨by repeat ((with_reducible exact HB.out))⟩⟩
    ·rw [if_neg c5] at H
     have c5b0 : decide (x4_1 < t102) = false := decide_eq_false c5
     clear c5
     (skip)
     have H' := A_ H
     clear H
     obtain ⟨hcz11_0, hcz11_1, hcz11_2⟩ := kk3_ BK101.1
     have hfz11_0 := bf_ BK101.out 0
     have hfz11_1 := bf_ BK101.out 1
     have hfz11_2 := bf_ BK101.out 2
     go_wp2_with (((with_reducible refine gate_callee (f := 32) rfl ?_); refine gl_ 8 Try.func32 #[.agg #[.int .i64 a0_0, .int .i64 a0_1]] ?_; (with_reducible refine (spec_CountGaps.calls a0_0 a0_1 t102 _ A4.out).mono ?_); rintro e w12 ⟨rfl, hb⟩; refine ⟨_, rfl, ?_⟩; have n0_ := A_ (blk_below BK101.out hb); have n1_ := A_ (bs_ HB.1 hb); clear BK101 HB; have BK101 := n0_; have HB := n1_; clear n0_ n1_; (try clear hb); (try clear hk)))
     go_meet
     case rel => exact ⟨_, (false), (by rfl), H', ⟨by have := HK1.out; omega⟩, ⟨by exact BK101.out⟩, ⟨by repeat ((with_reducible exact HB.out))⟩⟩
   case rest =>
    clear HC3; try clear c1; try clear p2; try clear c3; try clear c5; try clear c5b0; try clear c11; try clear hcz11_0; try clear hcz11_1; try clear hcz11_2; try clear hcz7_0; try clear hcz7_1; try clear hcz7_2; try clear hcz9_0; try clear hcz9_1; try clear hcz9_2; try clear hfz11_0; try clear hfz11_1; try clear hfz11_2; try clear hfz7_0; try clear hfz7_1; try clear hfz7_2; try clear hfz9_0; try clear hfz9_1; try clear hfz9_2; try clear p2
    obtain ⟨kq, x13_2, rfl, HA, HJ2, BK101, HB⟩ := hcut
    cases kq with
    | zero => exact absurd HA.out (by simp [spec_CountPassages.j1])
    | succ kj2 =>
     have H := HA.out
     clear HA
     simp only [spec_CountPassages.j1] at H
     by_cases c13 : x13_2 = true
     ·subst c13
      rw [if_pos rfl] at H
      obtain ⟨t104, A140, H⟩ := oB_ H
      (try dsimp only at H); have A14 := A_ A140; clear A140
      by_cases c15 : t104 = true
      ·subst c15
       rw [if_pos rfl] at H
       have H' := A_ H
       clear H
       obtain ⟨hcz16_0, hcz16_1, hcz16_2⟩ := kk3_ BK101.1
       have hfz16_0 := bf_ BK101.out 0
       have hfz16_1 := bf_ BK101.out 1
       have hfz16_2 := bf_ BK101.out 2
       go_wp2_with (((with_reducible refine gate_callee (f := 83) rfl ?_); refine gl_ 19 Try.func83 #[.int .i64 a0_2, .int .i64 x4_1] ?_; (with_reducible refine (spec_l03Bit.calls a0_2 x4_1 true _ A14.out).mono ?_); rintro e w' ⟨rfl, ⟨nd, rfl⟩⟩; refine ⟨_, rfl, ?_⟩))
       go_roundg kj2
       case measure => have := HK1.out; have := HJ2.out; omega
       case rel => exact ⟨(wrap64 (x3_1 + 1)), (wrap64 (x4_1 + 1)), (by rfl), (by rfl), H', ⟨by have := HK1.out; have := HJ2.out; omega⟩, ⟨by (with_reducible repeat (refine blk_drewN ?_ _)); exact BK101.out⟩, ⟨by repeat ((with_reducible first | exact HB.out | apply pw_below_drewN))⟩⟩
      ·replace c15 := Bool.eq_false_iff.mpr c15
       subst c15
       have H1 : (spec_CountPassages.l0 kj2 x3_1 (wrap64 (x4_1 + 1)) a0_0 a0_1 a0_2) = some r := by rw [if_neg (show ¬ (false = true) by decide)] at H; exact H
       clear H
       have H := H1
       clear H1
       have H' := A_ H
       clear H
       obtain ⟨hcz17_0, hcz17_1, hcz17_2⟩ := kk3_ BK101.1
       have hfz17_0 := bf_ BK101.out 0
       have hfz17_1 := bf_ BK101.out 1
       have hfz17_2 := bf_ BK101.out 2
       go_wp2_with (((with_reducible refine gate_callee (f := 83) rfl ?_); refine gl_ 19 Try.func83 #[.int .i64 a0_2, .int .i64 x4_1] ?_; (with_reducible refine (spec_l03Bit.calls a0_2 x4_1 false _ A14.out).mono ?_); rintro e w' ⟨rfl, ⟨nd, rfl⟩⟩; refine ⟨_, rfl, ?_⟩))
       go_roundg kj2
       case measure => have := HK1.out; have := HJ2.out; omega
       case rel => exact ⟨(x3_1), (wrap64 (x4_1 + 1)), (by rfl), (by rfl), H', ⟨by have := HK1.out; have := HJ2.out; omega⟩, ⟨by (with_reducible repeat (refine blk_drewN ?_ _)); exact BK101.out⟩, ⟨by repeat ((with_reducible first | exact HB.out | apply pw_below_drewN))⟩⟩
     ·replace c13 := Bool.eq_false_iff.mpr c13
      subst c13
      have H1 : (some x3_1) = some r := by rw [if_neg (show ¬ (false = true) by decide)] at H; exact H
      clear H
      have H := H1
      clear H1
      obtain rfl := Option.some.inj H
      go_wp2
      go_ret
      exact ⟨by rfl, by repeat ((with_reducible exact HB.out))⟩

end Go.Proofs.Ytoohcdfokejkdaa.P
namespace Go.Proofs.Ytoohcdfokejkdaa.P
open Go.RowKit Go.Proofs.YtoohcdfokejkdaaW.PrintWords Go.Proofs.YtoohcdfokejkdaaW.PrintLast Go.Proofs.YtoohcdfokejkdaaW.PrintMore
attribute [local go_sem] max2_int min2_int max_two min_two max_three min_three max_four min_four   -- for this text's walks alone
set_option linter.unusedVariables false
set_option linter.unusedSimpArgs false

def spec_l04Has.f (a0_0 : Int) (a0_1 : Int) (a0_2 : Int) (a1 : Int) : Option (Bool) := (spec_MazeOk.f a0_0 a0_1 a0_2).bind fun t102 => (if t102 = true then ((spec_CountCells.f a0_0 a0_1).bind fun t103 => ((spec_l01In.f a1 0 (wrap64 (t103 - 1))).bind fun t104 => (some t104))) else (some false))
set_option maxHeartbeats 8000000 in
set_option maxRecDepth 100000 in
theorem spec_l04Has.calls (a0_0 : Int) (a0_1 : Int) (a0_2 : Int) (a1 : Int) (r : Bool) (w : World) (h : spec_l04Has.f a0_0 a0_1 a0_2 a1 = some r) :
  Calls Try.prog 131 #[.agg #[.int .i64 a0_0, .int .i64 a0_1, .int .i64 a0_2], .int .i64 a1] w fun e w' => e = .returned (.bool r) ∧ Below w.heap.size w w' := by
 have hu42 := Try.underlying42
 have hu40 := Try.underlying40
 have HB := A_ (Below.refl w.heap.size w)
 have H : ((spec_MazeOk.f a0_0 a0_1 a0_2).bind fun t102 => (if t102 = true then ((spec_CountCells.f a0_0 a0_1).bind fun t103 => ((spec_l01In.f a1 0 (wrap64 (t103 - 1))).bind fun t104 => (some t104))) else (some false))) = some r := h
 clear h
 obtain ⟨t102, A30, H⟩ := oB_ H
 (try dsimp only at H); have A3 := A_ A30; clear A30
 by_cases c4 : t102 = true
 ·subst c4
  rw [if_pos rfl] at H
  obtain ⟨t103, A50, H⟩ := oB_ H
  (try dsimp only at H); have A5 := A_ A50; clear A50
  obtain ⟨t104, A60, H⟩ := oB_ H
  (try dsimp only at H); have A6 := A_ A60; clear A60
  obtain rfl := Option.some.inj H
  go_enter Try.func131, Try.ntmps131
  go_wp2_with (first | ((with_reducible refine gate_dst (N := 2) rfl ?_); refine be_ 2 #[.int .i64 a0_0, .int .i64 a0_1, .int .i64 a0_2] 42 ?_; intro gb101 hg w7 hbox hb; have n0_ := A_ (bs_ HB.1 hb); have n1_ := A_ (hbox); have n2_ := A_ (bS_ HB.out hg); have n3_ := A_ (bS_ HB.out hg); clear HB; have HB := n0_; have BK101 := n1_; have GW101 := n2_; have GE101 := n3_; clear n0_ n1_ n2_ n3_ hb hbox hg; obtain ⟨hcz8_0, hcz8_1, hcz8_2⟩ := kk3_ BK101.1; have hfz8_0 := bf_ BK101.out 0; have hfz8_1 := bf_ BK101.out 1; have hfz8_2 := bf_ BK101.out 2) | ((with_reducible refine gate_callee (f := 66) rfl ?_); refine gl_ 6 Try.func66 #[.agg #[.int .i64 a0_0, .int .i64 a0_1, .int .i64 a0_2]] ?_; (with_reducible refine (spec_MazeOk.calls a0_0 a0_1 a0_2 true _ A3.out).mono ?_); rintro e w9 ⟨rfl, hb⟩; refine ⟨_, rfl, ?_⟩; have n0_ := A_ (blk_below BK101.out hb); have n1_ := A_ (bs_ HB.1 hb); clear BK101 HB; have BK101 := n0_; have HB := n1_; clear n0_ n1_; (try clear hb); (try clear hk); obtain ⟨hcz10_0, hcz10_1, hcz10_2⟩ := kk3_ BK101.1; have hfz10_0 := bf_ BK101.out 0; have hfz10_1 := bf_ BK101.out 1; have hfz10_2 := bf_ BK101.out 2) | (go_at_call 36; (with_reducible refine (spec_CountCells.calls a0_0 a0_1 t103 _ A5.out).mono ?_); rintro e w11 ⟨rfl, hb⟩; have n0_ := A_ (blk_below BK101.out hb); have n1_ := A_ (bs_ HB.1 hb); clear BK101 HB; have BK101 := n0_; have HB := n1_; clear n0_ n1_; (try clear hb); (try clear hk)) | (go_at_call 61; (with_reducible refine (spec_l01In.calls a1 0 (wrap64 (t103 - 1)) t104 _ A6.out).mono ?_); rintro e w' ⟨rfl, ⟨nd, rfl⟩⟩))
  go_ret
  exact ⟨by rfl, by repeat ((with_reducible first | exact HB.out | apply pw_below_drewN))⟩
 ·replace c4 := Bool.eq_false_iff.mpr c4
  subst c4
  have H1 : (some false) = some r := by rw [if_neg (show ¬ (false = true) by decide)] at H; exact H
  clear H
  have H := H1
  clear H1
  obtain rfl := Option.some.inj H
  go_enter Try.func131, Try.ntmps131
  go_wp2_with (first | ((with_reducible refine gate_dst (N := 2) rfl ?_); refine be_ 2 #[.int .i64 a0_0, .int .i64 a0_1, .int .i64 a0_2] 42 ?_; intro gb101 hg w12 hbox hb; have n0_ := A_ (bs_ HB.1 hb); have n1_ := A_ (hbox); have n2_ := A_ (bS_ HB.out hg); have n3_ := A_ (bS_ HB.out hg); clear HB; have HB := n0_; have BK101 := n1_; have GW101 := n2_; have GE101 := n3_; clear n0_ n1_ n2_ n3_ hb hbox hg; obtain ⟨hcz13_0, hcz13_1, hcz13_2⟩ := kk3_ BK101.1; have hfz13_0 := bf_ BK101.out 0; have hfz13_1 := bf_ BK101.out 1; have hfz13_2 := bf_ BK101.out 2) | ((with_reducible refine gate_callee (f := 66) rfl ?_); refine gl_ 6 Try.func66 #[.agg #[.int .i64 a0_0, .int .i64 a0_1, .int .i64 a0_2]] ?_; (with_reducible refine (spec_MazeOk.calls a0_0 a0_1 a0_2 false _ A3.out).mono ?_); rintro e w14 ⟨rfl, hb⟩; refine ⟨_, rfl, ?_⟩; have n0_ := A_ (blk_below BK101.out hb); have n1_ := A_ (bs_ HB.1 hb); clear BK101 HB; have BK101 := n0_; have HB := n1_; clear n0_ n1_; (try clear hb); (try clear hk)))
  go_ret
  exact ⟨by rfl, by repeat ((with_reducible exact HB.out))⟩

def spec_IsPassage.f (a0_0 : Int) (a0_1 : Int) (a0_2 : Int) (a1 : Int) : Option (Bool) := (spec_MazeOk.f a0_0 a0_1 a0_2).bind fun t102 => (if t102 = true then ((spec_CountGaps.f a0_0 a0_1).bind fun t103 => ((spec_l01In.f a1 0 (wrap64 (t103 - 1))).bind fun t104 => (if t104 = true then ((spec_l03Bit.f a0_2 a1).bind fun t105 => (some t105)) else (some false)))) else (some false))
set_option maxHeartbeats 8000000 in
set_option maxRecDepth 100000 in
theorem spec_IsPassage.calls (a0_0 : Int) (a0_1 : Int) (a0_2 : Int) (a1 : Int) (r : Bool) (w : World) (h : spec_IsPassage.f a0_0 a0_1 a0_2 a1 = some r) :
  Calls Try.prog 94 #[.agg #[.int .i64 a0_0, .int .i64 a0_1, .int .i64 a0_2], .int .i64 a1] w fun e w' => e = .returned (.bool r) ∧ Below w.heap.size w w' := by
 have hu42 := Try.underlying42
 have hu40 := Try.underlying40
 have HB := A_ (Below.refl w.heap.size w)
 have H : ((spec_MazeOk.f a0_0 a0_1 a0_2).bind fun t102 => (if t102 = true then ((spec_CountGaps.f a0_0 a0_1).bind fun t103 => ((spec_l01In.f a1 0 (wrap64 (t103 - 1))).bind fun t104 => (if t104 = true then ((spec_l03Bit.f a0_2 a1).bind fun t105 => (some t105)) else (some false)))) else (some false))) = some r := h
 clear h
 obtain ⟨t102, A30, H⟩ := oB_ H
 (try dsimp only at H); have A3 := A_ A30; clear A30
 by_cases c4 : t102 = true
 ·subst c4
  rw [if_pos rfl] at H
  obtain ⟨t103, A50, H⟩ := oB_ H
  (try dsimp only at H); have A5 := A_ A50; clear A50
  obtain ⟨t104, A60, H⟩ := oB_ H
  (try dsimp only at H); have A6 := A_ A60; clear A60
  by_cases c7 : t104 = true
  ·subst c7
   rw [if_pos rfl] at H
   obtain ⟨t105, A80, H⟩ := oB_ H
   (try dsimp only at H); have A8 := A_ A80; clear A80
   obtain rfl := Option.some.inj H
   go_enter Try.func94, Try.ntmps94
   go_wp2_with (first | ((with_reducible refine gate_dst (N := 2) rfl ?_); refine be_ 2 #[.int .i64 a0_0, .int .i64 a0_1, .int .i64 a0_2] 42 ?_; intro gb101 hg w9 hbox hb; have n0_ := A_ (bs_ HB.1 hb); have n1_ := A_ (hbox); have n2_ := A_ (bS_ HB.out hg); have n3_ := A_ (bS_ HB.out hg); clear HB; have HB := n0_; have BK101 := n1_; have GW101 := n2_; have GE101 := n3_; clear n0_ n1_ n2_ n3_ hb hbox hg; obtain ⟨hcz10_0, hcz10_1, hcz10_2⟩ := kk3_ BK101.1; have hfz10_0 := bf_ BK101.out 0; have hfz10_1 := bf_ BK101.out 1; have hfz10_2 := bf_ BK101.out 2) | ((with_reducible refine gate_callee (f := 66) rfl ?_); refine gl_ 6 Try.func66 #[.agg #[.int .i64 a0_0, .int .i64 a0_1, .int .i64 a0_2]] ?_; (with_reducible refine (spec_MazeOk.calls a0_0 a0_1 a0_2 true _ A3.out).mono ?_); rintro e w11 ⟨rfl, hb⟩; refine ⟨_, rfl, ?_⟩; have n0_ := A_ (blk_below BK101.out hb); have n1_ := A_ (bs_ HB.1 hb); clear BK101 HB; have BK101 := n0_; have HB := n1_; clear n0_ n1_; (try clear hb); (try clear hk); obtain ⟨hcz12_0, hcz12_1, hcz12_2⟩ := kk3_ BK101.1; have hfz12_0 := bf_ BK101.out 0; have hfz12_1 := bf_ BK101.out 1; have hfz12_2 := bf_ BK101.out 2) | (go_at_call 32; (with_reducible refine (spec_CountGaps.calls a0_0 a0_1 t103 _ A5.out).mono ?_); rintro e w13 ⟨rfl, hb⟩; have n0_ := A_ (blk_below BK101.out hb); have n1_ := A_ (bs_ HB.1 hb); clear BK101 HB; have BK101 := n0_; have HB := n1_; clear n0_ n1_; (try clear hb); (try clear hk)) | (go_at_call 61; (with_reducible refine (spec_l01In.calls a1 0 (wrap64 (t103 - 1)) true _ A6.out).mono ?_); rintro e w' ⟨rfl, ⟨nd, rfl⟩⟩; obtain ⟨hcz14_0, hcz14_1, hcz14_2⟩ := kk3_ BK101.1; have hfz14_0 := bf_ BK101.out 0; have hfz14_1 := bf_ BK101.out 1; have hfz14_2 := bf_ BK101.out 2) | (go_at_call 83; (with_reducible refine (spec_l03Bit.calls a0_2 a1 t105 _ A8.out).mono ?_); rintro e w' ⟨rfl, ⟨nd, rfl⟩⟩))
   go_ret
   exact ⟨by rfl, by repeat ((with_reducible first | exact HB.out | apply pw_below_drewN))⟩
  ·replace c7 := Bool.eq_false_iff.mpr c7
   subst c7
   have H1 : (some false) = some r := by rw [if_neg (show ¬ (false = true) by decide)] at H; exact H
   clear H
   have H := H1
   clear H1
   obtain rfl := Option.some.inj H
   go_enter Try.func94, Try.ntmps94
   go_wp2_with (first | ((with_reducible refine gate_dst (N := 2) rfl ?_); refine be_ 2 #[.int .i64 a0_0, .int .i64 a0_1, .int .i64 a0_2] 42 ?_; intro gb101 hg w15 hbox hb; have n0_ := A_ (bs_ HB.1 hb); have n1_ := A_ (hbox); have n2_ := A_ (bS_ HB.out hg); have n3_ := A_ (bS_ HB.out hg); clear HB; have HB := n0_; have BK101 := n1_; have GW101 := n2_; have GE101 := n3_; clear n0_ n1_ n2_ n3_ hb hbox hg; obtain ⟨hcz16_0, hcz16_1, hcz16_2⟩ := kk3_ BK101.1; have hfz16_0 := bf_ BK101.out 0; have hfz16_1 := bf_ BK101.out 1; have hfz16_2 := bf_ BK101.out 2) | ((with_reducible refine gate_callee (f := 66) rfl ?_); refine gl_ 6 Try.func66 #[.agg #[.int .i64 a0_0, .int .i64 a0_1, .int .i64 a0_2]] ?_; (with_reducible refine (spec_MazeOk.calls a0_0 a0_1 a0_2 true _ A3.out).mono ?_); rintro e w17 ⟨rfl, hb⟩; refine ⟨_, rfl, ?_⟩; have n0_ := A_ (blk_below BK101.out hb); have n1_ := A_ (bs_ HB.1 hb); clear BK101 HB; have BK101 := n0_; have HB := n1_; clear n0_ n1_; (try clear hb); (try clear hk); obtain ⟨hcz18_0, hcz18_1, hcz18_2⟩ := kk3_ BK101.1; have hfz18_0 := bf_ BK101.out 0; have hfz18_1 := bf_ BK101.out 1; have hfz18_2 := bf_ BK101.out 2) | (go_at_call 32; (with_reducible refine (spec_CountGaps.calls a0_0 a0_1 t103 _ A5.out).mono ?_); rintro e w19 ⟨rfl, hb⟩; have n0_ := A_ (blk_below BK101.out hb); have n1_ := A_ (bs_ HB.1 hb); clear BK101 HB; have BK101 := n0_; have HB := n1_; clear n0_ n1_; (try clear hb); (try clear hk)) | (go_at_call 61; (with_reducible refine (spec_l01In.calls a1 0 (wrap64 (t103 - 1)) false _ A6.out).mono ?_); rintro e w' ⟨rfl, ⟨nd, rfl⟩⟩))
   go_ret
   exact ⟨by rfl, by repeat ((with_reducible first | exact HB.out | apply pw_below_drewN))⟩
 ·replace c4 := Bool.eq_false_iff.mpr c4
  subst c4
  have H1 : (some false) = some r := by rw [if_neg (show ¬ (false = true) by decide)] at H; exact H
  clear H
  have H := H1
  clear H1
  obtain rfl := Option.some.inj H
  go_enter Try.func94, Try.ntmps94
  go_wp2_with (first | ((with_reducible refine gate_dst (N := 2) rfl ?_); refine be_ 2 #[.int .i64 a0_0, .int .i64 a0_1, .int .i64 a0_2] 42 ?_; intro gb101 hg w20 hbox hb; have n0_ := A_ (bs_ HB.1 hb); have n1_ := A_ (hbox); have n2_ := A_ (bS_ HB.out hg); have n3_ := A_ (bS_ HB.out hg); clear HB; have HB := n0_; have BK101 := n1_; have GW101 := n2_; have GE101 := n3_; clear n0_ n1_ n2_ n3_ hb hbox hg; obtain ⟨hcz21_0, hcz21_1, hcz21_2⟩ := kk3_ BK101.1; have hfz21_0 := bf_ BK101.out 0; have hfz21_1 := bf_ BK101.out 1; have hfz21_2 := bf_ BK101.out 2) | ((with_reducible refine gate_callee (f := 66) rfl ?_); refine gl_ 6 Try.func66 #[.agg #[.int .i64 a0_0, .int .i64 a0_1, .int .i64 a0_2]] ?_; (with_reducible refine (spec_MazeOk.calls a0_0 a0_1 a0_2 false _ A3.out).mono ?_); rintro e w22 ⟨rfl, hb⟩; refine ⟨_, rfl, ?_⟩; have n0_ := A_ (blk_below BK101.out hb); have n1_ := A_ (bs_ HB.1 hb); clear BK101 HB; have BK101 := n0_; have HB := n1_; clear n0_ n1_; (try clear hb); (try clear hk)))
  go_ret
  exact ⟨by rfl, by repeat ((with_reducible exact HB.out))⟩

end Go.Proofs.Ytoohcdfokejkdaa.P
