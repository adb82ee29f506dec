/- The statement FnNumbered of the seat, out of its plain form (FnNumbered_pure) and the walk of its Go function. Part 3 of 7: each Go function's walk, then the plain lemmas, then the row. No condition: it holds for every input. -/
import Derived.Test.YtoohcdfokejkdaaBFnNumbered2
namespace Go.Proofs.Ytoohcdfokejkdaa.P
open Go.RowKit Go.Proofs.YtoohcdfokejkdaaW.PrintWords Go.Proofs.YtoohcdfokejkdaaW.PrintLast Go.Proofs.YtoohcdfokejkdaaW.PrintMore
attribute [local go_sem] max2_int min2_int max_two min_two max_three min_three max_four min_four   -- for this text's walks alone
set_option linter.unusedVariables false
set_option linter.unusedSimpArgs false

/-! ### impl_distances: function 109 -/
mutual
def impl_distances.l0 : Nat → List Int → List Int → Int → Int → Int → Int → Option (List Int)
  | 0, _, _, _, _, _, _ => none
  | k + 1, x5, x6, x7, x102000, x102001, x102002 => if x7 < (x6.length : Int) then (if 0 ≤ x7 then ((impl_WaysFrom.f k x102000 x102001 x102002 (rd x6 x7)).bind fun t114 => (impl_distances.l1 k x5 x6 x7 t114 (t114.length : Int) 0 x102000 x102001 x102002)) else (none)) else (some x5)
def impl_distances.l1 : Nat → List Int → List Int → Int → List Int → Int → Int → Int → Int → Int → Option (List Int)
  | 0, _, _, _, _, _, _, _, _, _ => none
  | k + 1, x5, x6, x7, x32, x33, x34, x102000, x102001, x102002 => if x34 < x33 then (if 0 ≤ x34 then (if x34 < (x32.length : Int) then (if 0 ≤ x7 then (if x7 < (x6.length : Int) then ((impl_Step.f k x102000 x102001 x102002 (rd x6 x7) (rd x32 x34)).bind fun t119 => (if 0 ≤ t119 then (if t119 < (x5.length : Int) then (if (rd x5 t119) < 0 then (if 0 ≤ (rd x6 x7) then (if (rd x6 x7) < (x5.length : Int) then (if x6.length < 17592186044416 then (impl_distances.l1 k (x5.set (t119 : Int).toNat (wrap64 ((rd x5 (rd x6 x7)) + 1))) (x6 ++ [t119]) x7 x32 x33 (wrap64 (x34 + 1)) x102000 x102001 x102002) else (none)) else (none)) else (none)) else (impl_distances.l1 k x5 x6 x7 x32 x33 (wrap64 (x34 + 1)) x102000 x102001 x102002)) else (none)) else (none))) else (none)) else (none)) else (none)) else (none)) else (impl_distances.l0 k x5 x6 (wrap64 (x7 + 1)) x102000 x102001 x102002)
end
def impl_distances.f (k : Nat) (a0_0 : Int) (a0_1 : Int) (a0_2 : Int) (a1 : Int) : Option (List Int) := (impl_CountCells.f a0_0 a0_1).bind fun t105 => ((slices_Repeat_int_int.f (([(-1)] : List Int)) t105).bind fun t106 => (if 0 ≤ a1 then (if a1 < (t106.length : Int) then (impl_distances.l0 k (t106.set (a1 : Int).toNat 0) (([a1] : List Int)) 0 a0_0 a0_1 a0_2) else (none)) else (none)))
def impl_distances.T7 : Bool × List (List Nat × List Nat) := (true, [([], []), ([], []), ([], []), ([1, 2], [1, 2]), ([3], [3]), ([0, 4], [0, 4]), ([5], [5]), ([], [])])
def impl_distances.B7 : List Nat := [0, 0, 0, 6, 14, 31, 63, 0]
theorem impl_distances.tab7 : rtab .any (opsOf Try.f109 7) = impl_distances.T7 := by kernel_rfl
theorem impl_distances.bits7 : waitsOk impl_distances.T7.2 impl_distances.B7 = true := by kernel_rfl
def impl_distances.T10 : Bool × List (List Nat × List Nat) := (true, [([], []), ([], []), ([], []), ([1, 2], [1, 2]), ([3], [3]), ([], []), ([0, 4, 5], [0, 4, 5]), ([6, 6, 0, 1, 2, 3, 4, 5, 6], [6])])
def impl_distances.B10 : List Nat := [0, 0, 0, 6, 14, 0, 63, 127]
theorem impl_distances.tab10 : rtab .any (opsOf Try.f109 10) = impl_distances.T10 := by kernel_rfl
theorem impl_distances.bits10 : waitsOk impl_distances.T10.2 impl_distances.B10 = true := by kernel_rfl
set_option maxHeartbeats 8000000 in
set_option maxRecDepth 100000 in
theorem impl_distances.calls (k : Nat) (a0_0 : Int) (a0_1 : Int) (a0_2 : Int) (a1 : Int) (r : List Int) (w : World) (h : impl_distances.f k a0_0 a0_1 a0_2 a1 = some r) :
    Calls Try.prog 109 #[.agg #[.int .i64 a0_0, .int .i64 a0_1, .int .i64 a0_2], .int .i64 a1] w fun e w' => ∃ v0_ : Value, e = .returned (v0_) ∧ Kd.R (Kd.int .i64) 3 w' w.heap.size (fun _ => True) v0_ r ∧ Below w.heap.size w w' := by
  have hu42 := Try.underlying42
  have hu40 := Try.underlying40
  have HB := Aside0.mk (Below.refl w.heap.size w)
  have H : ((impl_CountCells.f a0_0 a0_1).bind fun t105 => ((slices_Repeat_int_int.f (([(-1)] : List Int)) t105).bind fun t106 => (if 0 ≤ a1 then (if a1 < (t106.length : Int) then (impl_distances.l0 k (t106.set (a1 : Int).toNat 0) (([a1] : List Int)) 0 a0_0 a0_1 a0_2) else (none)) else (none)))) = some r := h
  clear h
  obtain ⟨y102, hy102⟩ : ∃ y_ : List Int, y_ = (([(-1)] : List Int)) := ⟨_, rfl⟩
  replace H : ((impl_CountCells.f a0_0 a0_1).bind fun t105 => ((slices_Repeat_int_int.f y102 t105).bind fun t106 => (if 0 ≤ a1 then (if a1 < (t106.length : Int) then (impl_distances.l0 k (t106.set (a1 : Int).toNat 0) (([a1] : List Int)) 0 a0_0 a0_1 a0_2) else (none)) else (none)))) = some r := by (rw [hy102]; with_reducible exact H)
  have Ny102 := Aside0.mk hy102
  clear hy102
  obtain ⟨t105, A30, H⟩ := Option.bind_eq_some_iff.mp H
  (try dsimp only at H); have A3 := Aside0.mk A30; clear A30
  obtain ⟨t106, A40, H⟩ := Option.bind_eq_some_iff.mp H
  (try dsimp only at H); have A4 := Aside0.mk A40; clear A40
  replace H := iN_ H; obtain ⟨c5, H⟩ := H
  have c5b0 : decide (0 ≤ a1) = true := decide_eq_true c5
  clear c5
  replace H := iN_ H; obtain ⟨c6, H⟩ := H
  have c6b0 : decide (a1 < (t106.length : Int)) = true := decide_eq_true c6
  clear c6
  obtain ⟨y109, hy109⟩ : ∃ y_ : List Int, y_ = (t106.set (a1 : Int).toNat 0) := ⟨_, rfl⟩
  replace H : (impl_distances.l0 k y109 (([a1] : List Int)) 0 a0_0 a0_1 a0_2) = some r := by (rw [hy109]; with_reducible exact H)
  have Ny109 := Aside0.mk hy109
  clear hy109
  obtain ⟨y110, hy110⟩ : ∃ y_ : List Int, y_ = (([a1] : List Int)) := ⟨_, rfl⟩
  replace H : (impl_distances.l0 k y109 y110 0 a0_0 a0_1 a0_2) = some r := by (rw [hy110]; with_reducible exact H)
  have Ny110 := Aside0.mk hy110
  clear hy110
  have H' := Aside0.mk H
  clear H
  go_enter Try.func109, Try.ntmps109
  go_wp2_with (first | ((with_reducible refine gate_dst (N := 2) rfl ?_); refine box_event ?hg (N := 2) ?hd (cs := #[.int .i64 a0_0, .int .i64 a0_1, .int .i64 a0_2]) (t := 42) ?hr ?_; (case hd => rfl); (case hg => rfl); (case hr => (go_simp; done)); intro gb101 hg w8 hbox hb; have n0_ := Aside0.mk (below_step HB.out hb); have n1_ := Aside0.mk (hbox); have n2_ := Aside0.mk ((by rw [hg]; exact (below_size HB.out) : w.heap.size ≤ gb101)); have n3_ := Aside0.mk ((by rw [hg]; exact (below_size HB.out) : w.heap.size ≤ gb101)); clear HB; have HB := n0_; have BK101 := n1_; have GW101 := n2_; have GE101 := n3_; clear n0_ n1_ n2_ n3_; clear hb hbox hg) | ((with_reducible refine gate_dst (N := 11) rfl ?_); refine Kd.R_lit (Kd.int .i64) _ 3 ?hg (N := 11) ?hd (xs := ([(-1)] : List Int)) (inner := [.int .i64 (-1)]) (ok := fun _ => True) (okp := fun _ => True) ?hr ?hp (fun _ hk => hk) trivial (Below.refl _ _) (Nat.le_refl _) (by simp) ?_; (case hd => rfl); (case hg => rfl); (case hr => (go_simp; done)); (case hp => exact (Reps.one (show Kd.M (Kd.int .i64) _ _ _ (-1) [.int .i64 (-1)] from rfl) (Reps.none _ _))); intro v103 w9 ho10 hb hg_ hnew_; clear hg_ hnew_; (rw [← Ny102.out] at ho10); have n0_ := Aside0.mk (Kd.R_lower ho10 (below_size HB.out)); have n1_ := Aside0.mk (blk_below (g := gb101) (o := .cells #[.int .i64 a0_0, .int .i64 a0_1, .int .i64 a0_2] 42 (0, 0)) BK101.out hb); have n2_ := Aside0.mk (below_step HB.out hb); clear BK101; clear HB; have HO104 := n0_; have BK101 := n1_; have HB := n2_; clear n0_ n1_ n2_; clear hb ho10; obtain ⟨hcz11_0, hcz11_1, hcz11_2⟩ := kk3_ BK101.1; have hfz11_0 := blk_frozen BK101.out 0; have hfz11_1 := blk_frozen BK101.out 1; have hfz11_2 := blk_frozen BK101.out 2) | ((with_reducible refine gate_callee (f := 70) rfl ?_); refine goesL_ (some 14) rfl rfl Try.func70 (by kernel_rfl) rfl #[.agg #[.int .i64 a0_0, .int .i64 a0_1]] rfl (by (try simp only [List.map_toArray, List.map_cons, List.map_nil]); rfl) ?_; (with_reducible refine (impl_CountCells.calls a0_0 a0_1 t105 _ A3.out).mono ?_); rintro e w12 ⟨rfl, hb⟩; refine ⟨_, rfl, ?_⟩; have n0_ := Aside0.mk (Kd.R_below HO104.out hb); have n1_ := Aside0.mk (blk_below (g := gb101) (o := .cells #[.int .i64 a0_0, .int .i64 a0_1, .int .i64 a0_2] 42 (0, 0)) BK101.out hb); have n2_ := Aside0.mk (below_step HB.out hb); clear HO104; clear BK101; clear HB; have HO104 := n0_; have BK101 := n1_; have HB := n2_; clear n0_ n1_ n2_; (try clear hb); (try clear hb2); (try clear hk); (try clear hi); obtain ⟨Ao13, co13, eo13⟩ := Kd.R_slice HO104.out; subst eo13) | ((with_reducible refine gate_callee (f := 123) rfl ?_); refine goesL_ (some 15) rfl rfl Try.func123 (by kernel_rfl) rfl #[.slice Ao13 y102.length co13, .int .i64 t105] rfl (by (try simp only [List.map_toArray, List.map_cons, List.map_nil]); rfl) ?_; (with_reducible refine (slices_Repeat_int_int.calls _ _ y102 t105 t106 _ ?side1 ?side2 A4.out).mono ?_); (case side1 => repeat (exact (Kd.R_reads' HO104.out).2.2)); (case side2 => exact (Kd.R_reads' HO104.out).2.1); rintro e w14 ⟨v107, rfl, ho0, hb⟩; refine ⟨_, rfl, ?_⟩; have n0_ := Aside0.mk (Kd.R_elder' HO104.out (Kd.R_base ho0) hb); have n1_ := Aside0.mk (Kd.R_lower (Kd.R_new' ho0 (Kd.R_lt HO104.out)) (below_size HB.out)); have n2_ := Aside0.mk (blk_below (g := gb101) (o := .cells #[.int .i64 a0_0, .int .i64 a0_1, .int .i64 a0_2] 42 (0, 0)) BK101.out hb); have n3_ := Aside0.mk (below_step HB.out hb); clear HO104; clear BK101; clear HB; have HO104 := n0_; have HO108 := n1_; have BK101 := n2_; have HB := n3_; clear n0_ n1_ n2_ n3_; (try clear hb); (try clear hb2); (try clear hk); (try clear hi); (try clear ho0); have p7 : 0 ≤ (a1 : Int) := of_decide_eq_true (by with_reducible assumption); have q7 : (a1 : Int) < ((t106.length : Int) : Int) := of_decide_eq_true (by with_reducible assumption); obtain ⟨go7, co7, eo7, gb7, gl7, cl7, HG7⟩ := Kd.R_form HO108.out (by omega); (cases eo7); have GB7 := Aside0.mk gb7; have GG7 := Aside0.mk HG7; clear gb7 gl7 HG7; obtain ⟨hx7_0, hf7_0⟩ := Kd.R_celln 0 HO108.out (a1 : Int) p7 q7; replace p7 := eq_true p7; replace q7 := eq_true q7; have n_ := Aside0.mk (Kd.R_mono (ok' := (fun k_ => some k_ ≠ (.slice Ao13 y102.length co13 : Value).ownBlock)) HO108.out (fun k_ hk => hk.2)); clear HO108; have HO108 := n_; clear n_; obtain ⟨hy15_, hz15_⟩ := Kd.R_celln 0 HO108.out (a1 : Int) (of_decide_eq_true (by with_reducible assumption)) (of_decide_eq_true (by with_reducible assumption)); have HP15 := Kd.R_putg HO108.out (a1 : Int) 0) | ((with_reducible refine gate_store (t := 3) (p := 18) rfl ?_); refine store_event (t := 3) (p := 18) (v := ?vo_w16) (w1 := (w14.setCell ⟨go7, (a1 : Int).toNat, none⟩ (.int .i64 0))) ?hg ?ho ?hn ?hr ?_; (case ho => rfl); (case hg => rfl); (case hn => rfl); (case hr => (go_simp; done)); intro w16 hw; have hg : w14.grownBy w16 (some go7) := (by rw [hw]; exact HP15.2); have hp_ : Kd.R (Kd.int .i64) 3 w16 w.heap.size (fun k_ => some k_ ≠ (.slice Ao13 y102.length co13 : Value).ownBlock) (.slice (some ⟨go7, 0, none⟩) t106.length co7) y109 := (by rw [hw, Ny109.out]; exact HP15.1); clear HP15; have n0_ := Aside0.mk (blk_grown (g := gb101) (o := .cells #[.int .i64 a0_0, .int .i64 a0_1, .int .i64 a0_2] 42 (0, 0)) BK101.out hg (Kd.R_ne HO108.out BK101.out (by decide))); have n1_ := Aside0.mk (Kd.R_after (v := (.slice (some ⟨go7, 0, none⟩) t106.length co7)) (v1 := (.slice (some ⟨go7, 0, none⟩) t106.length co7)) (ok := (fun _ => True)) HO104.out hg (.inl rfl)); have n2_ := Aside0.mk (hp_); have n3_ := Aside0.mk ((by rw [hw]; exact below_set (HB.out) GB7.out : Below w.heap.size w w16)); clear BK101; clear HO104; clear HO108; clear HB; have BK101 := n0_; have HO104 := n1_; have HO108 := n2_; have HB := n3_; clear n0_ n1_ n2_ n3_; clear hg hw hp_) | ((with_reducible refine gate_dst (N := 20) rfl ?_); refine Kd.R_lit (Kd.int .i64) _ 3 ?hg (N := 20) ?hd (xs := ([a1] : List Int)) (inner := [.int .i64 a1]) (ok := fun _ => True) (okp := fun _ => True) ?hr ?hp (fun _ hk => hk) trivial (Below.refl _ _) (Nat.le_refl _) (by simp) ?_; (case hd => rfl); (case hg => rfl); (case hr => (go_simp; done)); (case hp => exact (Reps.one (show Kd.M (Kd.int .i64) _ _ _ a1 [.int .i64 a1] from rfl) (Reps.none _ _))); intro v111 w17 ho18 hb hg_ hnew_; clear hg_ hnew_; (rw [← Ny110.out] at ho18); have n0_ := Aside0.mk (Kd.R_elder' HO104.out (Kd.R_base ho18) hb); have n1_ := Aside0.mk (Kd.R_elder' HO108.out (Kd.R_base ho18) hb); have n2_ := Aside0.mk (Kd.R_lower (Kd.R_new' (Kd.R_new' ho18 (Kd.R_lt HO104.out)) (Kd.R_lt HO108.out)) (below_size HB.out)); have n3_ := Aside0.mk (blk_below (g := gb101) (o := .cells #[.int .i64 a0_0, .int .i64 a0_1, .int .i64 a0_2] 42 (0, 0)) BK101.out hb); have n4_ := Aside0.mk (below_step HB.out hb); clear HO104; clear HO108; clear BK101; clear HB; have HO104 := n0_; have HO108 := n1_; have HO112 := n2_; have BK101 := n3_; have HB := n4_; clear n0_ n1_ n2_ n3_ n4_; clear hb ho18))
  go_loopg [6, 7] k (fun kq v6 v7 w' => ∃ (x5_1 : List Int) (x6_1 : List Int) (x7_1 : Int), v7 = .int .i64 x7_1 ∧ Aside0 (impl_distances.l0 kq x5_1 x6_1 x7_1 a0_0 a0_1 a0_2 = some r) ∧ Aside0 (kq ≤ k) ∧ Aside0 (Kd.R (Kd.int .i64) 3 w' w.heap.size (fun k_ => some k_ ≠ (v6 : Value).ownBlock) (.slice (some ⟨go7, 0, none⟩) t106.length co7) x5_1) ∧ Aside0 (Kd.R (Kd.int .i64) 3 w' w.heap.size (fun k_ => some k_ ≠ ((.slice (some ⟨go7, 0, none⟩) t106.length co7) : Value).ownBlock) v6 x6_1) ∧ Aside0 (w'.heap[gb101]? = some (.cells #[.int .i64 a0_0, .int .i64 a0_1, .int .i64 a0_2] 42 (0, 0))) ∧ Aside0 (Below w.heap.size w w'))
  case atStart => exact ⟨(y109), (y110), (0), (by rfl), H', ⟨Nat.le_refl _⟩, ⟨by exact Kd.R_mono HO108.out (fun _ hk => hk.2)⟩, ⟨by exact Kd.R_mono HO112.out (fun _ hk => hk.2)⟩, ⟨by exact BK101.out⟩, ⟨by repeat ((with_reducible exact HB.out))⟩⟩
  case round =>
    clear H'; try clear c1; try clear p2; try clear c5; try clear c5b0; try clear c6; try clear c6b0; try clear c7; try clear p7; try clear q7; try clear hx7; try clear hf7; try clear c10; try clear c12; try clear hcz11_0; try clear hcz11_1; try clear hcz11_2; try clear hfz11_0; try clear hfz11_1; try clear hfz11_2; try clear hx7_0; try clear p7; try clear q7
    obtain ⟨x5_1, x6_1, x7_1, rfl, HA, HK1, HO_5, HO_6, BK101, HB⟩ := hrel
    have hl5_1 := (Kd.R_reads' HO_5.out).1
    rw [hl5_1] at HO_5
    (try simp only [hl5_1])
    (try simp only [hl5_1] at BK101)
    (try simp only [hl5_1] at HO_6)
    cases gk with
    | zero => exact absurd HA.out (by simp [impl_distances.l0])
    | succ k1 =>
      have H := HA.out
      clear HA
      simp only [impl_distances.l0] at H
      by_cases c19 : x7_1 < (x6_1.length : Int)
      · rw [if_pos c19] at H
        have c19b0 : decide (x7_1 < (x6_1.length : Int)) = true := decide_eq_true c19
        clear c19
        replace H := iN_ H; obtain ⟨c20, H⟩ := H
        have c20b0 : decide (0 ≤ x7_1) = true := decide_eq_true c20
        clear c20
        obtain ⟨t114, A210, H⟩ := Option.bind_eq_some_iff.mp H
        (try dsimp only at H); have A21 := Aside0.mk A210; clear A210
        have H' := Aside0.mk H
        clear H
        obtain ⟨Ao22, co22, eo22⟩ := Kd.R_slice HO_6.out
        subst eo22
        try go_wp2
        have n0_ := Aside0.mk (Kd.R_drew HO_5.out)
        have n1_ := Aside0.mk (Kd.R_drew HO_6.out)
        have n2_ := Aside0.mk (blk_drew BK101.out); have n3_ := Aside0.mk (below_drew1 HB.out); clear HO_5; clear HO_6; clear BK101; clear HB; have HO_5 := n0_; have HO_6 := n1_; have BK101 := n2_; have HB := n3_; clear n0_ n1_ n2_ n3_
        have p113 : 0 ≤ (x7_1 : Int) := of_decide_eq_true (by with_reducible assumption)
        have q113 : x7_1 < (x6_1.length : Int) := of_decide_eq_true (by with_reducible assumption)
        obtain ⟨ad113, e113, hx113_0⟩ := Kd.at_int (Kd.R_reads' HO_6.out).2.2 x7_1 p113 q113
        cases e113
        replace p113 := eq_true p113; replace q113 := eq_true q113
        refine start_ (n := 8) (S := fun w' => w'.cell? ⟨gb101, 0, none⟩ = some (.int .i64 a0_0) ∧ w'.cell? ⟨gb101, 1, none⟩ = some (.int .i64 a0_1) ∧ w'.cell? ⟨gb101, 2, none⟩ = some (.int .i64 a0_2) ∧ w'.cell? (ad113.add (x7_1).toNat) = some (.int .i64 (rd x6_1 x7_1))) (ds := []) #[false, false, false, false, false, false, false, false] (by kernel_rfl) rfl rfl ⟨(blk_cell BK101.out 0).trans rfl, (blk_cell BK101.out 1).trans rfl, (blk_cell BK101.out 2).trans rfl, hx113_0⟩ (fun hHeld => ?_); refine with_tabW impl_distances.tab7 impl_distances.bits7 (fun HT_ HW_ => ?_)
        generalize wr.drew = w23 at HO_5 HO_6 BK101 HB hx113_0 hHeld ⊢
        refine pu_ (v := ?_) (a' := ?_) 1 (some 28) rfl rfl HT_ (by kernel_rfl) (.inl ⟨by rfl, ?_⟩) ?_ ?_; rotate_left 2; (intro w'; go_simp; with_reducible rfl); (simp only [P6_]; rfl)
        refine pu_ (v := ?_) (a' := ?_) 2 (some 29) rfl rfl HT_ (by kernel_rfl) (.inl ⟨by rfl, ?_⟩) ?_ ?_; rotate_left 2; (intro w'; go_simp; with_reducible rfl); (simp only [P6_]; rfl)
        refine pu_ (v := ?_) (a' := ?_) 3 (some 30) rfl rfl HT_ (by kernel_rfl) (.inl ⟨by rfl, ?_⟩) ?_ ?_; rotate_left 2; (intro w'; go_simp; with_reducible rfl); (simp only [P6_]; rfl)
        refine pu_ (v := ?_) (a' := ?_) 7 (some 34) rfl rfl HT_ (by kernel_rfl) (.inl ⟨by rfl, ?_⟩) ?_ ?_; rotate_left 2; (intro w'; go_simp; with_reducible rfl); (simp only [P6_]; rfl)
        refine ta_ (v := ?_) (a' := ?_) 0 (some 27) rfl rfl HT_ HW_ (by kernel_rfl) (.inl ⟨by rfl, ?_⟩) hHeld ?_ ?_; rotate_left 2; (rintro w' ⟨s0, s1, s2, s3⟩; go_simp; with_reducible rfl); (simp only [P6_]; rfl)
        refine ta_ (v := ?_) (a' := ?_) 4 (some 31) rfl rfl HT_ HW_ (by kernel_rfl) (.inl ⟨by rfl, ?_⟩) hHeld ?_ ?_; rotate_left 2; (rintro w' ⟨s0, s1, s2, s3⟩; go_simp; with_reducible rfl); (simp only [P6_]; rfl)
        refine on_ 5 (some 32) rfl rfl HT_ (by kernel_rfl) (by decide) (fun K hK => ?_)
        refine goes_ Try.func71 (by kernel_rfl) rfl #[.agg #[.int .i64 a0_0, .int .i64 a0_1, .int .i64 a0_2], .int .i64 (rd x6_1 x7_1)] (by rfl) rfl rfl (by (try simp only [List.map_toArray, List.map_cons, List.map_nil]); rfl) ?_
        with_reducible refine (impl_WaysFrom.calls k1 a0_0 a0_1 a0_2 (rd x6_1 x7_1) t114 _ A21.out).mono ?_
        rintro e w24 ⟨v115, rfl, ho0, hb⟩
        have HS3_ := (hb.cell (World.block_lt_of_cell? _ _ (hHeld.2.2.2))).trans (hHeld.2.2.2)
        refine ⟨_, rfl, ?_⟩
        have n0_ := Aside0.mk (Kd.R_elder' HO_5.out (Kd.R_base ho0) hb)
        have n1_ := Aside0.mk (Kd.R_elder' HO_6.out (Kd.R_base ho0) hb)
        have n2_ := Aside0.mk (Kd.R_lower (Kd.R_new' (Kd.R_new' ho0 (Kd.R_lt HO_5.out)) (Kd.R_lt HO_6.out)) (below_size HB.out))
        have n3_ := Aside0.mk (blk_below (g := gb101) (o := .cells #[.int .i64 a0_0, .int .i64 a0_1, .int .i64 a0_2] 42 (0, 0)) BK101.out hb)
        have n4_ := Aside0.mk (below_step HB.out hb)
        clear HO_5; clear HO_6; clear BK101; clear HB; have HO_5 := n0_; have HO_6 := n1_; have HO116 := n2_; have BK101 := n3_; have HB := n4_; clear n0_ n1_ n2_ n3_ n4_; (try clear hb); (try clear hb2); (try clear hk); (try clear hi); (try clear ho0)
        obtain ⟨Ao25, co25, eo25⟩ := Kd.R_slice HO116.out
        (subst eo25)
        refine hK.out _ _ ⟨(blk_cell BK101.out 0).trans rfl, (blk_cell BK101.out 1).trans rfl, (blk_cell BK101.out 2).trans rfl, HS3_⟩ (fun hHeld => ?_)
        clear hK K
        refine norm_ (a' := ?_) ?_ ?_; rotate_left; (show Act.put _ (some 32) _ = _; simp only [P6_]; rfl)
        refine pu_ (v := ?_) (a' := ?_) 6 (some 33) rfl rfl HT_ (by kernel_rfl) (.inl ⟨by rfl, ?_⟩) ?_ ?_; rotate_left 2; (intro w'; go_simp; with_reducible rfl); (simp only [P6_]; rfl)
        refine done_ (done_of HT_.out (by kernel_rfl)) ?_
        try go_wp2
        go_loopg [6, 34] k1 (fun kq v6 v34 w' => ∃ (x5_2 : List Int) (x6_2 : List Int) (x34_2 : Int), v34 = .int .i64 x34_2 ∧ Aside0 (impl_distances.l1 kq x5_2 x6_2 x7_1 t114 (t114.length : Int) x34_2 a0_0 a0_1 a0_2 = some r) ∧ Aside0 (kq ≤ k1) ∧ Aside0 (Kd.R (Kd.int .i64) 3 w' w.heap.size (fun k_ => some k_ ≠ (v6 : Value).ownBlock ∧ some k_ ≠ ((.slice Ao25 t114.length co25) : Value).ownBlock) (.slice (some ⟨go7, 0, none⟩) x5_1.length co7) x5_2) ∧ Aside0 (Kd.R (Kd.int .i64) 3 w' w.heap.size (fun k_ => some k_ ≠ ((.slice (some ⟨go7, 0, none⟩) x5_1.length co7) : Value).ownBlock ∧ some k_ ≠ ((.slice Ao25 t114.length co25) : Value).ownBlock) v6 x6_2) ∧ Aside0 (Kd.R (Kd.int .i64) 3 w' w.heap.size (fun k_ => some k_ ≠ ((.slice (some ⟨go7, 0, none⟩) x5_1.length co7) : Value).ownBlock ∧ some k_ ≠ (v6 : Value).ownBlock) (.slice Ao25 t114.length co25) t114) ∧ Aside0 (w'.heap[gb101]? = some (.cells #[.int .i64 a0_0, .int .i64 a0_1, .int .i64 a0_2] 42 (0, 0))) ∧ Aside0 (Below w.heap.size w w'))
        case atStart => exact ⟨(x5_1), (x6_1), (0), (by rfl), H', ⟨Nat.le_refl _⟩, ⟨by (try simp only [hl5_1]); exact HO_5.out⟩, ⟨by (try simp only [hl5_1]); exact HO_6.out⟩, ⟨by (try simp only [hl5_1]); exact Kd.R_mono HO116.out (fun _ hk => ⟨hk.1.2, hk.2⟩)⟩, ⟨by (try simp only [hl5_1]); exact BK101.out⟩, ⟨by repeat ((with_reducible exact HB.out))⟩⟩
        case round =>
          clear H'; try clear c1; try clear p1; try clear q1; try clear hx1; try clear c2; try clear p2; try clear c5; try clear c5b0; try clear c6; try clear c6b0; try clear c7; try clear p7; try clear q7; try clear hx7; try clear hf7; try clear c10; try clear p11; try clear q11; try clear hx11; try clear c12; try clear c19; try clear c19b0; try clear c20; try clear c20b0; try clear hcz11_0; try clear hcz11_1; try clear hcz11_2; try clear hfz11_0; try clear hfz11_1; try clear hfz11_2; try clear hx113_0; try clear hx7_0; try clear p113; try clear p2; try clear p7; try clear q113; try clear q7
          obtain ⟨x5_2, x6_2, x34_2, rfl, HA, HK2, HO_5, HO_6, HO_32, BK101, HB⟩ := hrel
          have hl5_2 := (Kd.R_reads' HO_5.out).1
          rw [hl5_2] at HO_5
          (try simp only [hl5_2])
          (try simp only [hl5_2] at BK101)
          (try simp only [hl5_2] at HO_6)
          (try simp only [hl5_2] at HO_32)
          cases gk with
          | zero => exact absurd HA.out (by simp [impl_distances.l1])
          | succ k2 =>
            have H := HA.out
            clear HA
            simp only [impl_distances.l1] at H
            by_cases c26 : x34_2 < (t114.length : Int)
            · rw [if_pos c26] at H
              have c26b0 : decide (x34_2 < (t114.length : Int)) = true := decide_eq_true c26
              clear c26
              replace H := iN_ H; obtain ⟨c27, H⟩ := H
              have c27b0 : decide (0 ≤ x34_2) = true := decide_eq_true c27
              clear c27
              replace H := iN_ H; obtain ⟨c28, H⟩ := H
              have c28b0 : decide (x34_2 < (t114.length : Int)) = true := decide_eq_true c28
              clear c28
              replace H := iN_ H; obtain ⟨c29, H⟩ := H
              have c29b0 : decide (0 ≤ x7_1) = true := decide_eq_true c29
              clear c29
              replace H := iN_ H; obtain ⟨c30, H⟩ := H
              have c30b0 : decide (x7_1 < (x6_2.length : Int)) = true := decide_eq_true c30
              clear c30
              obtain ⟨t119, A310, H⟩ := Option.bind_eq_some_iff.mp H
              (try dsimp only at H); have A31 := Aside0.mk A310; clear A310
              replace H := iN_ H; obtain ⟨c32, H⟩ := H
              have c32b0 : decide (0 ≤ t119) = true := decide_eq_true c32
              clear c32
              replace H := iN_ H; obtain ⟨c33, H⟩ := H
              have c33b0 : decide (t119 < (x5_2.length : Int)) = true := decide_eq_true c33
              clear c33
              by_cases c34 : (rd x5_2 t119) < 0
              · rw [if_pos c34] at H
                have c34b0 : decide ((rd x5_2 t119) < 0) = true := decide_eq_true c34
                clear c34
                replace H := iN_ H; obtain ⟨c35, H⟩ := H
                have c35b0 : decide (0 ≤ (rd x6_2 x7_1)) = true := decide_eq_true c35
                clear c35
                replace H := iN_ H; obtain ⟨c36, H⟩ := H
                have c36b0 : decide ((rd x6_2 x7_1) < (x5_2.length : Int)) = true := decide_eq_true c36
                clear c36
                obtain ⟨y123, hy123⟩ : ∃ y_ : List Int, y_ = (x5_2.set (t119 : Int).toNat (wrap64 ((rd x5_2 (rd x6_2 x7_1)) + 1))) := ⟨_, rfl⟩
                replace H : (if x6_2.length < 17592186044416 then (impl_distances.l1 k2 y123 (x6_2 ++ [t119]) x7_1 t114 (t114.length : Int) (wrap64 (x34_2 + 1)) a0_0 a0_1 a0_2) else (none)) = some r := by (rw [hy123]; with_reducible exact H)
                have Ny123 := Aside0.mk hy123
                clear hy123
                replace H := iN_ H; obtain ⟨c38, H⟩ := H
                have LMc38 := Aside0.mk c38
                clear c38
                obtain ⟨y124, hy124⟩ : ∃ y_ : List Int, y_ = (x6_2 ++ [t119]) := ⟨_, rfl⟩
                replace H : (impl_distances.l1 k2 y123 y124 x7_1 t114 (t114.length : Int) (wrap64 (x34_2 + 1)) a0_0 a0_1 a0_2) = some r := by (rw [hy124]; with_reducible exact H)
                have Ny124 := Aside0.mk hy124
                clear hy124
                have H' := Aside0.mk H
                clear H
                have p117 : 0 ≤ (x34_2 : Int) := of_decide_eq_true (by with_reducible assumption)
                have q117 : x34_2 < (t114.length : Int) := of_decide_eq_true (by with_reducible assumption)
                obtain ⟨ad117, e117, hx117_0⟩ := Kd.at_int (Kd.R_reads' HO_32.out).2.2 x34_2 p117 q117
                cases e117
                replace p117 := eq_true p117; replace q117 := eq_true q117
                try go_wp2
                have n0_ := Aside0.mk (Kd.R_drew HO_5.out)
                have n1_ := Aside0.mk (Kd.R_drew HO_6.out)
                have n2_ := Aside0.mk (Kd.R_drew HO_32.out)
                have n3_ := Aside0.mk (blk_drew BK101.out); have n4_ := Aside0.mk (below_drew1 HB.out); clear HO_5; clear HO_6; clear HO_32; clear BK101; clear HB; have HO_5 := n0_; have HO_6 := n1_; have HO_32 := n2_; have BK101 := n3_; have HB := n4_; clear n0_ n1_ n2_ n3_ n4_
                obtain ⟨Ao40, co40, eo40⟩ := Kd.R_slice HO_6.out
                (subst eo40)
                have p118 : 0 ≤ (x7_1 : Int) := of_decide_eq_true (by with_reducible assumption)
                have q118 : x7_1 < (x6_2.length : Int) := of_decide_eq_true (by with_reducible assumption)
                obtain ⟨ad118, e118, hx118_0⟩ := Kd.at_int (Kd.R_reads' HO_6.out).2.2 x7_1 p118 q118
                cases e118
                replace p118 := eq_true p118; replace q118 := eq_true q118
                refine start_ (n := 8) (S := fun w' => w'.cell? ⟨gb101, 0, none⟩ = some (.int .i64 a0_0) ∧ w'.cell? ⟨gb101, 1, none⟩ = some (.int .i64 a0_1) ∧ w'.cell? ⟨gb101, 2, none⟩ = some (.int .i64 a0_2) ∧ w'.cell? (ad118.add (x7_1).toNat) = some (.int .i64 (rd x6_2 x7_1))) (ds := []) #[false, false, false, false, false, false, false, false] (by kernel_rfl) rfl rfl ⟨(blk_cell BK101.out 0).trans rfl, (blk_cell BK101.out 1).trans rfl, (blk_cell BK101.out 2).trans rfl, hx118_0⟩ (fun hHeld => ?_); refine with_tabW impl_distances.tab10 impl_distances.bits10 (fun HT_ HW_ => ?_)
                generalize wr.drew = w39 at HO_5 HO_6 HO_32 BK101 HB hx118_0 hHeld ⊢
                refine pu_ (v := ?_) (a' := ?_) 1 (some 39) rfl rfl HT_ (by kernel_rfl) (.inl ⟨by rfl, ?_⟩) ?_ ?_; rotate_left 2; (intro w'; go_simp; with_reducible rfl); (simp only [P6_]; rfl)
                refine pu_ (v := ?_) (a' := ?_) 2 (some 40) rfl rfl HT_ (by kernel_rfl) (.inl ⟨by rfl, ?_⟩) ?_ ?_; rotate_left 2; (intro w'; go_simp; with_reducible rfl); (simp only [P6_]; rfl)
                refine pu_ (v := ?_) (a' := ?_) 3 (some 41) rfl rfl HT_ (by kernel_rfl) (.inl ⟨by rfl, ?_⟩) ?_ ?_; rotate_left 2; (intro w'; go_simp; with_reducible rfl); (simp only [P6_]; rfl)
                refine pu_ (v := ?_) (a' := ?_) 5 (some 43) rfl rfl HT_ (by kernel_rfl) (.inl ⟨by rfl, ?_⟩) ?_ ?_; rotate_left 2; (intro w'; go_simp; with_reducible rfl); (simp only [P6_]; rfl)
                refine ta_ (v := ?_) (a' := ?_) 0 (some 38) rfl rfl HT_ HW_ (by kernel_rfl) (.inl ⟨by rfl, ?_⟩) hHeld ?_ ?_; rotate_left 2; (rintro w' ⟨s0, s1, s2, s3⟩; go_simp; with_reducible rfl); (simp only [P6_]; rfl)
                refine ta_ (v := ?_) (a' := ?_) 4 (some 42) rfl rfl HT_ HW_ (by kernel_rfl) (.inl ⟨by rfl, ?_⟩) hHeld ?_ ?_; rotate_left 2; (rintro w' ⟨s0, s1, s2, s3⟩; go_simp; with_reducible rfl); (simp only [P6_]; rfl)
                refine on_ 6 (some 44) rfl rfl HT_ (by kernel_rfl) (by decide) (fun K hK => ?_)
                refine goes_ Try.func72 (by kernel_rfl) rfl #[.agg #[.int .i64 a0_0, .int .i64 a0_1, .int .i64 a0_2], .int .i64 (rd x6_2 x7_1), .int .i64 (rd t114 x34_2)] (by rfl) rfl rfl (by (try simp only [List.map_toArray, List.map_cons, List.map_nil]); rfl) ?_
                with_reducible refine (impl_Step.calls k2 a0_0 a0_1 a0_2 (rd x6_2 x7_1) (rd t114 x34_2) t119 _ A31.out).mono ?_
                rintro e w41 ⟨rfl, hb⟩
                have HS3_ := (hb.cell (World.block_lt_of_cell? _ _ (hHeld.2.2.2))).trans (hHeld.2.2.2)
                refine ⟨_, rfl, ?_⟩
                have n0_ := Aside0.mk (Kd.R_below HO_5.out hb)
                have n1_ := Aside0.mk (Kd.R_below HO_6.out hb)
                have n2_ := Aside0.mk (Kd.R_below HO_32.out hb)
                have n3_ := Aside0.mk (blk_below (g := gb101) (o := .cells #[.int .i64 a0_0, .int .i64 a0_1, .int .i64 a0_2] 42 (0, 0)) BK101.out hb)
                have n4_ := Aside0.mk (below_step HB.out hb)
                clear HO_5; clear HO_6; clear HO_32; clear BK101; clear HB; have HO_5 := n0_; have HO_6 := n1_; have HO_32 := n2_; have BK101 := n3_; have HB := n4_; clear n0_ n1_ n2_ n3_ n4_; (try clear hb); (try clear hb2); (try clear hk); (try clear hi)
                refine hK.out _ _ ⟨(blk_cell BK101.out 0).trans rfl, (blk_cell BK101.out 1).trans rfl, (blk_cell BK101.out 2).trans rfl, HS3_⟩ (fun hHeld => ?_)
                clear hK K
                refine norm_ (a' := ?_) ?_ ?_; rotate_left; (show Act.put _ (some 44) _ = _; simp only [P6_]; rfl)
                refine pu_ (v := ?_) (a' := ?_) 7 (some 10) rfl rfl HT_ (by kernel_rfl) (.inl ⟨by rfl, ?_⟩) ?_ ?_; rotate_left 2; (intro w'; go_simp; with_reducible rfl); (simp only [P6_]; rfl)
                refine done_ (done_of HT_.out (by kernel_rfl)) ?_
                have p120 : 0 ≤ (t119 : Int) := of_decide_eq_true (by with_reducible assumption)
                have q120 : t119 < (x5_2.length : Int) := of_decide_eq_true (by with_reducible assumption)
                obtain ⟨ad120, e120, hx120_0⟩ := Kd.at_int (Kd.R_reads' HO_5.out).2.2 t119 p120 q120
                obtain rfl : (⟨go7, 0, none⟩ : Addr) = ad120 := (by injection e120)
                (simp only [add_plain] at hx120_0)
                replace p120 := eq_true p120; replace q120 := eq_true q120
                have p121 : 0 ≤ (x7_1 : Int) := of_decide_eq_true (by with_reducible assumption)
                have q121 : x7_1 < (x6_2.length : Int) := of_decide_eq_true (by with_reducible assumption)
                obtain ⟨ad121, e121, hx121_0⟩ := Kd.at_int (Kd.R_reads' HO_6.out).2.2 x7_1 p121 q121
                obtain rfl : ad118 = ad121 := (by injection e121)
                replace p121 := eq_true p121; replace q121 := eq_true q121
                have p122 : 0 ≤ ((rd x6_2 x7_1) : Int) := of_decide_eq_true (by with_reducible assumption)
                have q122 : (rd x6_2 x7_1) < (x5_2.length : Int) := of_decide_eq_true (by with_reducible assumption)
                obtain ⟨ad122, e122, hx122_0⟩ := Kd.at_int (Kd.R_reads' HO_5.out).2.2 (rd x6_2 x7_1) p122 q122
                obtain rfl : (⟨go7, 0, none⟩ : Addr) = ad122 := (by injection e122)
                (simp only [add_plain] at hx122_0)
                replace p122 := eq_true p122; replace q122 := eq_true q122
                have p37 : 0 ≤ (t119 : Int) := of_decide_eq_true (by with_reducible assumption)
                have q37 : (t119 : Int) < ((x5_2.length : Int) : Int) := of_decide_eq_true (by with_reducible assumption)
                obtain ⟨hx37_0, hf37_0⟩ := Kd.R_celln 0 HO_5.out (t119 : Int) p37 q37
                replace p37 := eq_true p37; replace q37 := eq_true q37
                obtain ⟨hy42_, hz42_⟩ := Kd.R_celln 0 HO_5.out (t119 : Int) (of_decide_eq_true (by with_reducible assumption)) (of_decide_eq_true (by with_reducible assumption))
                have HP42 := Kd.R_putg HO_5.out (t119 : Int) (wrap64 ((rd x5_2 (rd x6_2 x7_1)) + 1))
                try go_wp2_with (first | ((with_reducible refine gate_store (t := 3) (p := 60) rfl ?_); refine store_event (t := 3) (p := 60) (v := ?vo_w43) (w1 := (w41.setCell ⟨go7, (t119 : Int).toNat, none⟩ (.int .i64 (wrap64 ((rd x5_2 (rd x6_2 x7_1)) + 1))))) ?hg ?ho ?hn ?hr ?_; (case ho => rfl); (case hg => rfl); (case hn => rfl); (case hr => (go_simp; done)); intro w43 hw; have hg : w41.grownBy w43 (some go7) := (by rw [hw]; exact HP42.2); have hp_ : Kd.R (Kd.int .i64) 3 w43 w.heap.size (fun k_ => some k_ ≠ (.slice (some ad118) x6_2.length co40 : Value).ownBlock ∧ some k_ ≠ (.slice (some ad117) t114.length co25 : Value).ownBlock) (.slice (some ⟨go7, 0, none⟩) x5_2.length co7) y123 := (by rw [hw, Ny123.out]; exact HP42.1); clear HP42; have n0_ := Aside0.mk (hp_); have n1_ := Aside0.mk (Kd.R_after (v := (.slice (some ⟨go7, 0, none⟩) x5_2.length co7)) (v1 := (.slice (some ⟨go7, 0, none⟩) x5_2.length co7)) (ok := (fun k_ => some k_ ≠ (.slice (some ad117) t114.length co25 : Value).ownBlock)) (by exact Kd.R_mono HO_6.out (fun _ hk => ⟨hk.2, hk.1⟩)) hg (.inl rfl)); have n2_ := Aside0.mk (Kd.R_after (v := (.slice (some ⟨go7, 0, none⟩) x5_2.length co7)) (v1 := (.slice (some ⟨go7, 0, none⟩) x5_2.length co7)) (ok := (fun k_ => some k_ ≠ (.slice (some ad118) x6_2.length co40 : Value).ownBlock)) (by exact Kd.R_mono HO_32.out (fun _ hk => ⟨hk.2, hk.1⟩)) hg (.inl rfl)); have n3_ := Aside0.mk (blk_grown (g := gb101) (o := .cells #[.int .i64 a0_0, .int .i64 a0_1, .int .i64 a0_2] 42 (0, 0)) BK101.out hg (Kd.R_ne HO_5.out BK101.out (by decide))); have n4_ := Aside0.mk ((by rw [hw]; exact below_set (HB.out) GB7.out : Below w.heap.size w w43)); clear HO_5; clear HO_6; clear HO_32; clear BK101; clear HB; have HO_5 := n0_; have HO_6 := n1_; have HO_32 := n2_; have BK101 := n3_; have HB := n4_; clear n0_ n1_ n2_ n3_ n4_; clear hg hw hp_) | ((with_reducible refine gate_builtin (b := .append) (xs := #[.tmp 61, .tmp 63]) rfl ?_); at_builtin; refine Kd.R_append (Kd.int .i64) (w0 := w) w.heap.size rfl (.tmp 61) (.tmp 63) 29 3 (.int .i64 0) 8 rfl Try.underlying29 info3 rfl (by decide) (by omega) (.slice (some ad118) x6_2.length co40) x6_2 t119 [.int .i64 t119] (fun k_ => some k_ ≠ (.slice (some ⟨go7, 0, none⟩) x5_2.length co7 : Value).ownBlock ∧ some k_ ≠ (.slice (some ad117) t114.length co25 : Value).ownBlock) (fun _ => False) rfl rfl ?aP (fun _ hk => hk.elim) ?aF ?aO ?aB ?aS ?aL ?_; (case aP => exact rfl); (case aB => exact HB.out); (case aF => exact (fun k_ hk => ⟨Kd.fresh' (Kd.R_lt HO_5.out) k_ hk, Kd.fresh' (Kd.R_lt HO_32.out) k_ hk⟩)); (case aO => exact (by exact Kd.R_mono HO_6.out (fun _ hk => ⟨hk.2, hk.1⟩))); (case aS => exact (below_size HB.out)); (case aL => have := LMc38.out; omega); intro v125 w44 ho hb hg hat; rw [← Ny124.out] at ho; have n0_ := Aside0.mk (Kd.R_after (ok := (fun k_ => some k_ ≠ (.slice (some ad117) t114.length co25 : Value).ownBlock)) (by exact Kd.R_mono HO_5.out (fun _ hk => ⟨hk.2, hk.1⟩)) hg hat); have n1_ := Aside0.mk (Kd.R_after (ok := (fun k_ => some k_ ≠ (.slice (some ⟨go7, 0, none⟩) x5_2.length co7 : Value).ownBlock)) (by exact Kd.R_mono HO_32.out (fun _ hk => ⟨hk.2, hk.1⟩)) hg hat); have n2_ := Aside0.mk (blk_grown (g := gb101) (o := .cells #[.int .i64 a0_0, .int .i64 a0_1, .int .i64 a0_2] 42 (0, 0)) BK101.out hg (Kd.R_ne HO_6.out BK101.out (by decide))); have n3_ := Aside0.mk (hb); have n4_ := Aside0.mk (ho); clear HO_5; clear HO_32; clear BK101; clear HB; clear HO_6; have HO_5 := n0_; have HO_32 := n1_; have BK101 := n2_; have HB := n3_; have HO126 := n4_; clear n0_ n1_ n2_ n3_ n4_; clear ho hb hg hat))
                (try simp only [← hl5_2])
                go_roundg k2
                case measure => have := HK1.out; have := HK2.out; omega
                case rel => exact ⟨(y123), (y124), (wrap64 (x34_2 + 1)), (by rfl), H', ⟨by have := HK1.out; have := HK2.out; omega⟩, ⟨by (try simp only [hl5_1]); (try simp only [hl5_2]); exact Kd.R_mono HO_5.out (fun _ hk => ⟨hk.2, hk.1⟩)⟩, ⟨by (try simp only [hl5_1]); (try simp only [hl5_2]); exact HO126.out⟩, ⟨by (try simp only [hl5_1]); (try simp only [hl5_2]); exact HO_32.out⟩, ⟨by (try simp only [hl5_1]); (try simp only [hl5_2]); exact BK101.out⟩, ⟨by repeat ((with_reducible exact HB.out))⟩⟩
              · rw [if_neg c34] at H
                have c34b0 : decide ((rd x5_2 t119) < 0) = false := decide_eq_false c34
                clear c34
                have H' := Aside0.mk H
                clear H
                have p117 : 0 ≤ (x34_2 : Int) := of_decide_eq_true (by with_reducible assumption)
                have q117 : x34_2 < (t114.length : Int) := of_decide_eq_true (by with_reducible assumption)
                obtain ⟨ad117, e117, hx117_0⟩ := Kd.at_int (Kd.R_reads' HO_32.out).2.2 x34_2 p117 q117
                cases e117
                replace p117 := eq_true p117; replace q117 := eq_true q117
                try go_wp2
                have n0_ := Aside0.mk (Kd.R_drew HO_5.out)
                have n1_ := Aside0.mk (Kd.R_drew HO_6.out)
                have n2_ := Aside0.mk (Kd.R_drew HO_32.out)
                have n3_ := Aside0.mk (blk_drew BK101.out); have n4_ := Aside0.mk (below_drew1 HB.out); clear HO_5; clear HO_6; clear HO_32; clear BK101; clear HB; have HO_5 := n0_; have HO_6 := n1_; have HO_32 := n2_; have BK101 := n3_; have HB := n4_; clear n0_ n1_ n2_ n3_ n4_
                obtain ⟨Ao46, co46, eo46⟩ := Kd.R_slice HO_6.out
                (subst eo46)
                have p118 : 0 ≤ (x7_1 : Int) := of_decide_eq_true (by with_reducible assumption)
                have q118 : x7_1 < (x6_2.length : Int) := of_decide_eq_true (by with_reducible assumption)
                obtain ⟨ad118, e118, hx118_0⟩ := Kd.at_int (Kd.R_reads' HO_6.out).2.2 x7_1 p118 q118
                cases e118
                replace p118 := eq_true p118; replace q118 := eq_true q118
                refine start_ (n := 8) (S := fun w' => w'.cell? ⟨gb101, 0, none⟩ = some (.int .i64 a0_0) ∧ w'.cell? ⟨gb101, 1, none⟩ = some (.int .i64 a0_1) ∧ w'.cell? ⟨gb101, 2, none⟩ = some (.int .i64 a0_2) ∧ w'.cell? (ad118.add (x7_1).toNat) = some (.int .i64 (rd x6_2 x7_1))) (ds := []) #[false, false, false, false, false, false, false, false] (by kernel_rfl) rfl rfl ⟨(blk_cell BK101.out 0).trans rfl, (blk_cell BK101.out 1).trans rfl, (blk_cell BK101.out 2).trans rfl, hx118_0⟩ (fun hHeld => ?_); refine with_tabW impl_distances.tab10 impl_distances.bits10 (fun HT_ HW_ => ?_)
                generalize wr.drew = w45 at HO_5 HO_6 HO_32 BK101 HB hx118_0 hHeld ⊢
                refine pu_ (v := ?_) (a' := ?_) 1 (some 39) rfl rfl HT_ (by kernel_rfl) (.inl ⟨by rfl, ?_⟩) ?_ ?_; rotate_left 2; (intro w'; go_simp; with_reducible rfl); (simp only [P6_]; rfl)
                refine pu_ (v := ?_) (a' := ?_) 2 (some 40) rfl rfl HT_ (by kernel_rfl) (.inl ⟨by rfl, ?_⟩) ?_ ?_; rotate_left 2; (intro w'; go_simp; with_reducible rfl); (simp only [P6_]; rfl)
                refine pu_ (v := ?_) (a' := ?_) 3 (some 41) rfl rfl HT_ (by kernel_rfl) (.inl ⟨by rfl, ?_⟩) ?_ ?_; rotate_left 2; (intro w'; go_simp; with_reducible rfl); (simp only [P6_]; rfl)
                refine pu_ (v := ?_) (a' := ?_) 5 (some 43) rfl rfl HT_ (by kernel_rfl) (.inl ⟨by rfl, ?_⟩) ?_ ?_; rotate_left 2; (intro w'; go_simp; with_reducible rfl); (simp only [P6_]; rfl)
                refine ta_ (v := ?_) (a' := ?_) 0 (some 38) rfl rfl HT_ HW_ (by kernel_rfl) (.inl ⟨by rfl, ?_⟩) hHeld ?_ ?_; rotate_left 2; (rintro w' ⟨s0, s1, s2, s3⟩; go_simp; with_reducible rfl); (simp only [P6_]; rfl)
                refine ta_ (v := ?_) (a' := ?_) 4 (some 42) rfl rfl HT_ HW_ (by kernel_rfl) (.inl ⟨by rfl, ?_⟩) hHeld ?_ ?_; rotate_left 2; (rintro w' ⟨s0, s1, s2, s3⟩; go_simp; with_reducible rfl); (simp only [P6_]; rfl)
                refine on_ 6 (some 44) rfl rfl HT_ (by kernel_rfl) (by decide) (fun K hK => ?_)
                refine goes_ Try.func72 (by kernel_rfl) rfl #[.agg #[.int .i64 a0_0, .int .i64 a0_1, .int .i64 a0_2], .int .i64 (rd x6_2 x7_1), .int .i64 (rd t114 x34_2)] (by rfl) rfl rfl (by (try simp only [List.map_toArray, List.map_cons, List.map_nil]); rfl) ?_
                with_reducible refine (impl_Step.calls k2 a0_0 a0_1 a0_2 (rd x6_2 x7_1) (rd t114 x34_2) t119 _ A31.out).mono ?_
                rintro e w47 ⟨rfl, hb⟩
                have HS3_ := (hb.cell (World.block_lt_of_cell? _ _ (hHeld.2.2.2))).trans (hHeld.2.2.2)
                refine ⟨_, rfl, ?_⟩
                have n0_ := Aside0.mk (Kd.R_below HO_5.out hb)
                have n1_ := Aside0.mk (Kd.R_below HO_6.out hb)
                have n2_ := Aside0.mk (Kd.R_below HO_32.out hb)
                have n3_ := Aside0.mk (blk_below (g := gb101) (o := .cells #[.int .i64 a0_0, .int .i64 a0_1, .int .i64 a0_2] 42 (0, 0)) BK101.out hb)
                have n4_ := Aside0.mk (below_step HB.out hb)
                clear HO_5; clear HO_6; clear HO_32; clear BK101; clear HB; have HO_5 := n0_; have HO_6 := n1_; have HO_32 := n2_; have BK101 := n3_; have HB := n4_; clear n0_ n1_ n2_ n3_ n4_; (try clear hb); (try clear hb2); (try clear hk); (try clear hi)
                refine hK.out _ _ ⟨(blk_cell BK101.out 0).trans rfl, (blk_cell BK101.out 1).trans rfl, (blk_cell BK101.out 2).trans rfl, HS3_⟩ (fun hHeld => ?_)
                clear hK K
                refine norm_ (a' := ?_) ?_ ?_; rotate_left; (show Act.put _ (some 44) _ = _; simp only [P6_]; rfl)
                refine pu_ (v := ?_) (a' := ?_) 7 (some 10) rfl rfl HT_ (by kernel_rfl) (.inl ⟨by rfl, ?_⟩) ?_ ?_; rotate_left 2; (intro w'; go_simp; with_reducible rfl); (simp only [P6_]; rfl)
                refine done_ (done_of HT_.out (by kernel_rfl)) ?_
                have p120 : 0 ≤ (t119 : Int) := of_decide_eq_true (by with_reducible assumption)
                have q120 : t119 < (x5_2.length : Int) := of_decide_eq_true (by with_reducible assumption)
                obtain ⟨ad120, e120, hx120_0⟩ := Kd.at_int (Kd.R_reads' HO_5.out).2.2 t119 p120 q120
                obtain rfl : (⟨go7, 0, none⟩ : Addr) = ad120 := (by injection e120)
                (simp only [add_plain] at hx120_0)
                replace p120 := eq_true p120; replace q120 := eq_true q120
                try go_wp2
                (try simp only [← hl5_2])
                go_roundg k2
                case measure => have := HK1.out; have := HK2.out; omega
                case rel => exact ⟨(x5_2), (x6_2), (wrap64 (x34_2 + 1)), (by rfl), H', ⟨by have := HK1.out; have := HK2.out; omega⟩, ⟨by (try simp only [hl5_1]); (try simp only [hl5_2]); exact HO_5.out⟩, ⟨by (try simp only [hl5_1]); (try simp only [hl5_2]); exact HO_6.out⟩, ⟨by (try simp only [hl5_1]); (try simp only [hl5_2]); exact HO_32.out⟩, ⟨by (try simp only [hl5_1]); (try simp only [hl5_2]); exact BK101.out⟩, ⟨by repeat ((with_reducible exact HB.out))⟩⟩
            · rw [if_neg c26] at H
              have c26b0 : decide (x34_2 < (t114.length : Int)) = false := decide_eq_false c26
              clear c26
              have H' := Aside0.mk H
              clear H
              go_wp2
              (try simp only [← hl5_1, ← hl5_2])
              go_roundg k2
              case measure => have := HK1.out; have := HK2.out; omega
              case rel => exact ⟨(x5_2), (x6_2), (wrap64 (x7_1 + 1)), (by rfl), H', ⟨by have := HK1.out; have := HK2.out; omega⟩, ⟨by (try simp only [hl5_1]); (try simp only [hl5_2]); exact Kd.R_mono HO_5.out (fun _ hk => hk.1)⟩, ⟨by (try simp only [hl5_1]); (try simp only [hl5_2]); exact Kd.R_mono HO_6.out (fun _ hk => hk.1)⟩, ⟨by (try simp only [hl5_1]); (try simp only [hl5_2]); exact BK101.out⟩, ⟨by repeat ((with_reducible exact HB.out))⟩⟩
      · rw [if_neg c19] at H
        have c19b0 : decide (x7_1 < (x6_1.length : Int)) = false := decide_eq_false c19
        clear c19
        obtain rfl := Option.some.inj H
        obtain ⟨Ao48, co48, eo48⟩ := Kd.R_slice HO_6.out
        subst eo48
        go_wp2
        go_ret
        exact ⟨_, by rfl, by exact Kd.R_mono HO_5.out (fun _ hk => trivial), by repeat ((with_reducible exact HB.out))⟩

end Go.Proofs.Ytoohcdfokejkdaa.P
namespace Go.Proofs.Ytoohcdfokejkdaa.P
open Go.RowKit Go.Proofs.YtoohcdfokejkdaaW.PrintWords Go.Proofs.YtoohcdfokejkdaaW.PrintLast Go.Proofs.YtoohcdfokejkdaaW.PrintMore
attribute [local go_sem] max2_int min2_int max_two min_two max_three min_three max_four min_four   -- for this text's walks alone
set_option linter.unusedVariables false
set_option linter.unusedSimpArgs false

/-! ### impl_upTo: function 111 -/
def impl_upTo.l0 : Nat → Int → List Int → Int → Option (List Int)
  | 0, _, _, _ => none
  | k + 1, x0, x3, x4 => if x4 < x0 then (if x3.length < 17592186044416 then (impl_upTo.l0 k x0 (x3 ++ [x4]) (wrap64 (x4 + 1))) else (none)) else (some x3)
def impl_upTo.f (k : Nat) (a0 : Int) : Option (List Int) := impl_upTo.l0 k a0 ([] : List Int) 0
set_option maxHeartbeats 8000000 in
set_option maxRecDepth 100000 in
theorem impl_upTo.calls (k : Nat) (a0 : Int) (r : List Int) (w : World) (h : impl_upTo.f k a0 = some r) :
    Calls Try.prog 111 #[.int .i64 a0] w fun e w' => ∃ v0_ : Value, e = .returned (v0_) ∧ Kd.R (Kd.int .i64) 3 w' w.heap.size (fun _ => True) v0_ r ∧ Below w.heap.size w w' := by
  have HB := Aside0.mk (Below.refl w.heap.size w)
  have H : (impl_upTo.l0 k a0 ([] : List Int) 0) = some r := h
  clear h
  have H' := Aside0.mk H
  clear H
  go_enter Try.func111, Try.ntmps111
  go_wp2
  go_loopg [3, 4] k (fun kq v3 v4 w' => ∃ (x3_1 : List Int) (x4_1 : Int), v4 = .int .i64 x4_1 ∧ Aside0 (impl_upTo.l0 kq a0 x3_1 x4_1 = some r) ∧ Aside0 (kq ≤ k) ∧ Aside0 (Kd.R (Kd.int .i64) 3 w' w.heap.size (fun _ => True) v3 x3_1) ∧ Aside0 (Below w.heap.size w w'))
  case atStart => exact ⟨(([] : List Int)), (0), (by rfl), H', ⟨Nat.le_refl _⟩, ⟨by exact Kd.R_nil _ _ _ _ _⟩, ⟨by repeat ((with_reducible exact HB.out))⟩⟩
  case round =>
    clear H'; try clear c1
    obtain ⟨x3_1, x4_1, rfl, HA, HK1, HO_3, HB⟩ := hrel
    cases gk with
    | zero => exact absurd HA.out (by simp [impl_upTo.l0])
    | succ k1 =>
      have H := HA.out
      clear HA
      simp only [impl_upTo.l0] at H
      by_cases c2 : x4_1 < a0
      · rw [if_pos c2] at H
        have c2b0 : decide (x4_1 < a0) = true := decide_eq_true c2
        clear c2
        replace H := iN_ H; obtain ⟨c3, H⟩ := H
        have LMc3 := Aside0.mk c3
        clear c3
        obtain ⟨y101, hy101⟩ : ∃ y_ : List Int, y_ = (x3_1 ++ [x4_1]) := ⟨_, rfl⟩
        replace H : (impl_upTo.l0 k1 a0 y101 (wrap64 (x4_1 + 1))) = some r := by (rw [hy101]; with_reducible exact H)
        have Ny101 := Aside0.mk hy101
        clear hy101
        have H' := Aside0.mk H
        clear H
        go_wp2_with (((with_reducible refine gate_builtin (b := .append) (xs := #[.tmp 10, .tmp 12]) rfl ?_); at_builtin; refine Kd.R_append (Kd.int .i64) (w0 := w) w.heap.size rfl (.tmp 10) (.tmp 12) 29 3 (.int .i64 0) 8 rfl Try.underlying29 info3 rfl (by decide) (by omega) u3 x3_1 x4_1 [.int .i64 x4_1] (fun _ => True) (fun _ => False) rfl rfl ?aP (fun _ hk => hk.elim) ?aF ?aO ?aB ?aS ?aL ?_; (case aP => exact rfl); (case aB => exact HB.out); (case aF => exact (fun _ _ => trivial)); (case aO => exact HO_3.out); (case aS => exact (below_size HB.out)); (case aL => have := LMc3.out; omega); intro v102 w4 ho hb hg hat; rw [← Ny101.out] at ho; have n0_ := Aside0.mk (hb); have n1_ := Aside0.mk (ho); clear HB; clear HO_3; have HB := n0_; have HO103 := n1_; clear n0_ n1_; clear ho hb hg hat))
        go_roundg k1
        case measure => have := HK1.out; omega
        case rel => exact ⟨(y101), (wrap64 (x4_1 + 1)), (by rfl), H', ⟨by have := HK1.out; omega⟩, ⟨by exact HO103.out⟩, ⟨by repeat ((with_reducible exact HB.out))⟩⟩
      · rw [if_neg c2] at H
        have c2b0 : decide (x4_1 < a0) = false := decide_eq_false c2
        clear c2
        obtain rfl := Option.some.inj H
        go_wp2
        go_ret
        exact ⟨_, by rfl, by exact HO_3.out, by repeat ((with_reducible exact HB.out))⟩

/-! ### impl_Reached: function 81 -/
def impl_Reached.f (k : Nat) (a0_0 : Int) (a0_1 : Int) (a0_2 : Int) (a1 : Int) : Option (List Int) := (impl_isIn.f a0_0 a0_1 a0_2 [a1]).bind fun t => (if t = true then ((impl_distances.f k a0_0 a0_1 a0_2 a1).bind fun far => ((impl_upTo.f k (far.length : Int)).bind fun l => (if l.all (fun c => decide (0 ≤ c ∧ c < (far.length : Int))) = true then some (l.filter fun x => !(decide (rd far x < 0))) else none))) else some [])
theorem impl_Reached_1.calls (gb : Nat) (A : Option Addr) (cp : Nat) (far : List Int) (c : Int) (W : World) (hblk : W.heap[gb]? = some (.cells #[.slice A far.length cp] 29 (0, 0))) (hr : Kd.C (Kd.int .i64) W A far.length far) (h0 : 0 ≤ c) (h1 : c < (far.length : Int)) :
    Calls Try.prog 112 #[.int .i64 c, .pointer (some ⟨gb, 0, none⟩)] W fun e w' => e = .returned (.bool (decide (rd far c < 0))) ∧ Below W.heap.size W w' := by
  have hc0 : W.cell? ⟨gb, 0, none⟩ = some (.slice A far.length cp) := (blk_cell hblk 0).trans rfl
  obtain ⟨ad, e0, hx⟩ := Kd.at_int hr c h0 h1
  subst e0; clear hblk hr
  go_enter Try.func112, Try.ntmps112
  go_wp2
  repeat (go_quiet (fail); try go_wp2)
  go_ret
  exact ⟨rfl, by repeat (exact Below.refl _ _)⟩
set_option maxHeartbeats 4000000 in
set_option maxRecDepth 100000 in
theorem impl_Reached.calls (k : Nat) (a0_0 : Int) (a0_1 : Int) (a0_2 : Int) (a1 : Int) (r : List Int) (w : World) (h : impl_Reached.f k a0_0 a0_1 a0_2 a1 = some r) :
    Calls Try.prog 81 #[.agg #[.int .i64 a0_0, .int .i64 a0_1, .int .i64 a0_2], .int .i64 a1] w fun e w' => ∃ v0_ : Value, e = .returned (v0_) ∧ Kd.R (Kd.int .i64) 3 w' w.heap.size (fun _ => True) v0_ r ∧ Below w.heap.size w w' := by
  have huM := Try.underlying42
  obtain ⟨t, ht, H⟩ := Option.bind_eq_some_iff.1 h
  have HM := Aside0.mk ht
  clear h ht
  cases t with
  | false =>
    obtain rfl := Option.some.inj H
    clear H
    go_enter Try.func81, Try.ntmps81
    go_wp2_with (go_at_call 108; refine (impl_isIn.calls a0_0 a0_1 a0_2 _ _ [a1] false _ (C_one (alloc_snd _ _ _)) (by simp) HM.out).mono ?_; rintro e w1 ⟨rfl, hb⟩; have HB := Aside0.mk ((below_alloc (below_alloc (Below.refl _ _) _) _).trans (hb.mono (by simp; omega)) : Below w.heap.size w w1); clear hb)
    go_ret
    exact ⟨_, rfl, Kd.R_nil _ _ _ _ _, HB.out⟩
  | true =>
    rw [if_pos rfl] at H
    obtain ⟨far, hf, H⟩ := Option.bind_eq_some_iff.1 H
    obtain ⟨l, hl, H⟩ := Option.bind_eq_some_iff.1 H
    by_cases hall : l.all (fun c => decide (0 ≤ c ∧ c < (far.length : Int))) = true
    · rw [if_pos hall] at H
      obtain rfl := Option.some.inj H
      have HF := Aside0.mk hf
      have HL := Aside0.mk hl
      have HA : Aside0 (∀ x ∈ l, 0 ≤ x ∧ x < (far.length : Int)) := ⟨fun x hx => of_decide_eq_true (List.all_eq_true.1 hall x hx)⟩
      clear hall H hf hl
      go_enter Try.func81, Try.ntmps81
      go_wp2_with (first | (go_at_call 108; refine (impl_isIn.calls a0_0 a0_1 a0_2 _ _ [a1] true _ (C_one (alloc_snd _ _ _)) (by simp) HM.out).mono ?_; rintro e w1 ⟨rfl, hb⟩; have HB := Aside0.mk ((below_alloc (below_alloc (Below.refl _ _) _) _).trans (hb.mono (by simp; omega)) : Below w.heap.size w w1); have hs1 := hb.size; simp at hs1; have hG := (hb.block w.heap.size (by simp; omega)).trans (alloc_fst w _ _); have hG0 : w1.cell? ⟨w.heap.size, 0, none⟩ = some (.int .i64 a0_0) := (blk_cell hG 0).trans rfl; have hG1 : w1.cell? ⟨w.heap.size, 1, none⟩ = some (.int .i64 a0_1) := (blk_cell hG 1).trans rfl; have hG2 : w1.cell? ⟨w.heap.size, 2, none⟩ = some (.int .i64 a0_2) := (blk_cell hG 2).trans rfl; clear hb hG) | (go_at_call 109; refine (impl_distances.calls k a0_0 a0_1 a0_2 a1 far _ HF.out).mono ?_; rintro e w2 ⟨v2, rfl, hr2, hb⟩; obtain ⟨A2, c2, rfl, hlc2, hrd2⟩ := Kd.R_reads hr2; have HB2 := Aside0.mk (HB.out.trans (hb.mono HB.out.size)); have hs2 := hb.size; have HC2 := Aside0.mk hrd2; clear hr2 hb HB hG0 hG1 hG2 hrd2) | (go_at_call 111; refine (impl_upTo.calls k (far.length : Int) l _ HL.out).mono ?_; rintro e w3 ⟨v3, rfl, hr, hb⟩; have HR := Aside0.mk hr; have hs3 := hb.size; simp at hs3; have hblk := (hb.block w2.heap.size (by simp)).trans (heap_alloc_new w2 _); have HBL := Aside0.mk hblk; have HB23 : Below w2.heap.size w2 w3 := (below_alloc (Below.refl _ _) _).trans (hb.mono (by simp)); have HB24 := Aside0.mk HB23; have HB3 := Aside0.mk (HB2.out.trans (HB23.mono HB2.out.size)); clear hb hr HB2 hblk HB23) | (go_at_call 110; have hP : PredB 112 #[.pointer (some ⟨w2.heap.size, 0, none⟩)] (fun c => 0 ≤ c ∧ c < (far.length : Int)) (fun c => decide (rd far c < 0)) (w2.heap.size + 1) w3 := (by rintro W1 x ⟨hx0, hx1⟩ hB _; exact impl_Reached_1.calls w2.heap.size A2 c2 far x W1 ((hB.block _ (by omega)).trans HBL.out) (Kd.C_below HC2.out (HB24.out.trans (hB.mono (by omega)))) hx0 hx1); refine (slices_DeleteFunc_int_int.calls 112 #[.pointer (some ⟨w2.heap.size, 0, none⟩)] (enters_ Try.func112 (by kernel_rfl) rfl) _ _ (w2.heap.size + 1) w3 hP _ v3 l w3 (Below.refl _ _) (by simp) (by simpa using hs3) HR.out HA.out).mono ?_; rintro e w4 ⟨v4, rfl, hr4, hb4, hs4⟩; have HR4 := Aside0.mk hr4; have HB4 := Aside0.mk (HB3.out.trans (hb4.mono (by simp at *; omega))); clear hr4 hb4 hP))
      go_ret
      exact ⟨_, rfl, Kd.R_lower HR4.out (by simp at *; omega), HB4.out⟩
    · rw [if_neg hall] at H
      exact absurd H (by simp)

/-! ### impl_CountPassages: function 91 -/
def impl_CountPassages.f (a0_0 : Int) (a0_1 : Int) (a0_2 : Int) : Option (Int) := (impl_MazeOk.f a0_0 a0_1 a0_2).bind fun t102 => (if t102 = true then ((bits_OnesCount.f (IntKind.u64.wrap (a0_2))).bind fun t103 => (some t103)) else (some 0))
set_option maxHeartbeats 8000000 in
set_option maxRecDepth 100000 in
theorem impl_CountPassages.calls (a0_0 : Int) (a0_1 : Int) (a0_2 : Int) (r : Int) (w : World) (h : impl_CountPassages.f a0_0 a0_1 a0_2 = some r) :
    Calls Try.prog 91 #[.agg #[.int .i64 a0_0, .int .i64 a0_1, .int .i64 a0_2]] w fun e w' => e = .returned (.int .i64 r) ∧ Below w.heap.size w w' := by
  have hu42 := Try.underlying42
  have HB := Aside0.mk (Below.refl w.heap.size w)
  have H : ((impl_MazeOk.f a0_0 a0_1 a0_2).bind fun t102 => (if t102 = true then ((bits_OnesCount.f (IntKind.u64.wrap (a0_2))).bind fun t103 => (some t103)) else (some 0))) = some r := h
  clear h
  obtain ⟨t102, A20, H⟩ := Option.bind_eq_some_iff.mp H
  (try dsimp only at H); have A2 := Aside0.mk A20; clear A20
  by_cases c3 : t102 = true
  · subst c3
    rw [if_pos rfl] at H
    obtain ⟨t103, A40, H⟩ := Option.bind_eq_some_iff.mp H
    (try dsimp only at H); have A4 := Aside0.mk A40; clear A40
    obtain rfl := Option.some.inj H
    go_enter Try.func91, Try.ntmps91
    go_wp2_with (first | ((with_reducible refine gate_dst (N := 1) rfl ?_); refine box_event ?hg (N := 1) ?hd (cs := #[.int .i64 a0_0, .int .i64 a0_1, .int .i64 a0_2]) (t := 42) ?hr ?_; (case hd => rfl); (case hg => rfl); (case hr => (go_simp; done)); intro gb101 hg w5 hbox hb; have n0_ := Aside0.mk (below_step HB.out hb); have n1_ := Aside0.mk (hbox); have n2_ := Aside0.mk ((by rw [hg]; exact (below_size HB.out) : w.heap.size ≤ gb101)); have n3_ := Aside0.mk ((by rw [hg]; exact (below_size HB.out) : w.heap.size ≤ gb101)); clear HB; have HB := n0_; have BK101 := n1_; have GW101 := n2_; have GE101 := n3_; clear n0_ n1_ n2_ n3_; clear hb hbox hg; obtain ⟨hcz6_0, hcz6_1, hcz6_2⟩ := kk3_ BK101.1; have hfz6_0 := blk_frozen BK101.out 0; have hfz6_1 := blk_frozen BK101.out 1; have hfz6_2 := blk_frozen BK101.out 2) | ((with_reducible refine gate_callee (f := 69) rfl ?_); refine goesL_ (some 4) rfl rfl Try.func69 (by kernel_rfl) rfl #[.agg #[.int .i64 a0_0, .int .i64 a0_1, .int .i64 a0_2]] rfl (by (try simp only [List.map_toArray, List.map_cons, List.map_nil]); rfl) ?_; (with_reducible refine (impl_MazeOk.calls a0_0 a0_1 a0_2 true _ A2.out).mono ?_); rintro e w7 ⟨rfl, hb⟩; refine ⟨_, rfl, ?_⟩; have n0_ := Aside0.mk (blk_below (g := gb101) (o := .cells #[.int .i64 a0_0, .int .i64 a0_1, .int .i64 a0_2] 42 (0, 0)) BK101.out hb); have n1_ := Aside0.mk (below_step HB.out hb); clear BK101; clear HB; have BK101 := n0_; have HB := n1_; clear n0_ n1_; (try clear hb); (try clear hb2); (try clear hk); (try clear hi); obtain ⟨hcz8_0, hcz8_1, hcz8_2⟩ := kk3_ BK101.1; have hfz8_0 := blk_frozen BK101.out 0; have hfz8_1 := blk_frozen BK101.out 1; have hfz8_2 := blk_frozen BK101.out 2) | ((with_reducible refine gate_callee (f := 92) rfl ?_); refine goesL_ (some 9) rfl rfl Try.func92 (by kernel_rfl) rfl #[.int .u64 (IntKind.u64.wrap (a0_2))] rfl (by (try simp only [List.map_toArray, List.map_cons, List.map_nil]); rfl) ?_; (with_reducible refine (bits_OnesCount.calls (IntKind.u64.wrap (a0_2)) t103 _ A4.out).mono ?_); rintro e w' ⟨rfl, ⟨nd, rfl⟩⟩; refine ⟨_, rfl, ?_⟩))
    go_ret
    exact ⟨by rfl, by repeat ((with_reducible first | exact HB.out | apply pw_below_drewN))⟩
  · replace c3 := Bool.eq_false_iff.mpr c3
    subst c3
    have H1 : (some 0) = some r := by rw [if_neg (show ¬ (false = true) by decide)] at H; exact H
    clear H
    have H := H1
    clear H1
    obtain rfl := Option.some.inj H
    go_enter Try.func91, Try.ntmps91
    go_wp2_with (first | ((with_reducible refine gate_dst (N := 1) rfl ?_); refine box_event ?hg (N := 1) ?hd (cs := #[.int .i64 a0_0, .int .i64 a0_1, .int .i64 a0_2]) (t := 42) ?hr ?_; (case hd => rfl); (case hg => rfl); (case hr => (go_simp; done)); intro gb101 hg w9 hbox hb; have n0_ := Aside0.mk (below_step HB.out hb); have n1_ := Aside0.mk (hbox); have n2_ := Aside0.mk ((by rw [hg]; exact (below_size HB.out) : w.heap.size ≤ gb101)); have n3_ := Aside0.mk ((by rw [hg]; exact (below_size HB.out) : w.heap.size ≤ gb101)); clear HB; have HB := n0_; have BK101 := n1_; have GW101 := n2_; have GE101 := n3_; clear n0_ n1_ n2_ n3_; clear hb hbox hg; obtain ⟨hcz10_0, hcz10_1, hcz10_2⟩ := kk3_ BK101.1; have hfz10_0 := blk_frozen BK101.out 0; have hfz10_1 := blk_frozen BK101.out 1; have hfz10_2 := blk_frozen BK101.out 2) | ((with_reducible refine gate_callee (f := 69) rfl ?_); refine goesL_ (some 4) rfl rfl Try.func69 (by kernel_rfl) rfl #[.agg #[.int .i64 a0_0, .int .i64 a0_1, .int .i64 a0_2]] rfl (by (try simp only [List.map_toArray, List.map_cons, List.map_nil]); rfl) ?_; (with_reducible refine (impl_MazeOk.calls a0_0 a0_1 a0_2 false _ A2.out).mono ?_); rintro e w11 ⟨rfl, hb⟩; refine ⟨_, rfl, ?_⟩; have n0_ := Aside0.mk (blk_below (g := gb101) (o := .cells #[.int .i64 a0_0, .int .i64 a0_1, .int .i64 a0_2] 42 (0, 0)) BK101.out hb); have n1_ := Aside0.mk (below_step HB.out hb); clear BK101; clear HB; have BK101 := n0_; have HB := n1_; clear n0_ n1_; (try clear hb); (try clear hb2); (try clear hk); (try clear hi)))
    go_ret
    exact ⟨by rfl, by repeat ((with_reducible exact HB.out))⟩

/-! ### impl_CountParts: function 107 -/
def impl_CountParts.l0 : Nat → Int → Int → Int → Int → Int → Option (Int)
  | 0, _, _, _, _, _ => none
  | k + 1, x3, x4, x102000, x102001, x102002 => (impl_isIn.f x102000 x102001 x102002 (([x4] : List Int))).bind fun t105 => (if t105 = true then ((impl_Reached.f k x102000 x102001 x102002 x4).bind fun t106 => (if 0 < (t106.length : Int) then (if (rd t106 0) = x4 then (impl_CountParts.l0 k (wrap64 (x3 + 1)) (wrap64 (x4 + 1)) x102000 x102001 x102002) else (impl_CountParts.l0 k x3 (wrap64 (x4 + 1)) x102000 x102001 x102002)) else (none))) else (some x3))
def impl_CountParts.f (k : Nat) (a0_0 : Int) (a0_1 : Int) (a0_2 : Int) : Option (Int) := impl_CountParts.l0 k 0 0 a0_0 a0_1 a0_2
set_option maxHeartbeats 8000000 in
set_option maxRecDepth 100000 in
theorem impl_CountParts.calls (k : Nat) (a0_0 : Int) (a0_1 : Int) (a0_2 : Int) (r : Int) (w : World) (h : impl_CountParts.f k a0_0 a0_1 a0_2 = some r) :
    Calls Try.prog 107 #[.agg #[.int .i64 a0_0, .int .i64 a0_1, .int .i64 a0_2]] w fun e w' => e = .returned (.int .i64 r) ∧ Below w.heap.size w w' := by
  have hu42 := Try.underlying42
  have HB := Aside0.mk (Below.refl w.heap.size w)
  have H : (impl_CountParts.l0 k 0 0 a0_0 a0_1 a0_2) = some r := h
  clear h
  have H' := Aside0.mk H
  clear H
  go_enter Try.func107, Try.ntmps107
  go_wp2_with (((with_reducible refine gate_dst (N := 1) rfl ?_); refine box_event ?hg (N := 1) ?hd (cs := #[.int .i64 a0_0, .int .i64 a0_1, .int .i64 a0_2]) (t := 42) ?hr ?_; (case hd => rfl); (case hg => rfl); (case hr => (go_simp; done)); intro gb101 hg w2 hbox hb; have n0_ := Aside0.mk (below_step HB.out hb); have n1_ := Aside0.mk (hbox); have n2_ := Aside0.mk ((by rw [hg]; exact (below_size HB.out) : w.heap.size ≤ gb101)); have n3_ := Aside0.mk ((by rw [hg]; exact (below_size HB.out) : w.heap.size ≤ gb101)); clear HB; have HB := n0_; have BK101 := n1_; have GW101 := n2_; have GE101 := n3_; clear n0_ n1_ n2_ n3_; clear hb hbox hg))
  go_loopg [3, 4] k (fun kq v3 v4 w' => ∃ (x3_1 : Int) (x4_1 : Int), v3 = .int .i64 x3_1 ∧ v4 = .int .i64 x4_1 ∧ Aside0 (impl_CountParts.l0 kq x3_1 x4_1 a0_0 a0_1 a0_2 = some r) ∧ Aside0 (kq ≤ k) ∧ Aside0 (w'.heap[gb101]? = some (.cells #[.int .i64 a0_0, .int .i64 a0_1, .int .i64 a0_2] 42 (0, 0))) ∧ Aside0 (Below w.heap.size w w'))
  case atStart => exact ⟨(0), (0), (by rfl), (by rfl), H', ⟨Nat.le_refl _⟩, ⟨by exact BK101.out⟩, ⟨by repeat ((with_reducible exact HB.out))⟩⟩
  case round =>
    clear H'; try clear c1; try clear p2
    obtain ⟨x3_1, x4_1, rfl, rfl, HA, HK1, BK101, HB⟩ := hrel
    cases gk with
    | zero => exact absurd HA.out (by simp [impl_CountParts.l0])
    | succ k1 =>
      have H := HA.out
      clear HA
      simp only [impl_CountParts.l0] at H
      obtain ⟨y102, hy102⟩ : ∃ y_ : List Int, y_ = (([x4_1] : List Int)) := ⟨_, rfl⟩
      replace H : ((impl_isIn.f a0_0 a0_1 a0_2 y102).bind fun t105 => (if t105 = true then ((impl_Reached.f k1 a0_0 a0_1 a0_2 x4_1).bind fun t106 => (if 0 < (t106.length : Int) then (if (rd t106 0) = x4_1 then (impl_CountParts.l0 k1 (wrap64 (x3_1 + 1)) (wrap64 (x4_1 + 1)) a0_0 a0_1 a0_2) else (impl_CountParts.l0 k1 x3_1 (wrap64 (x4_1 + 1)) a0_0 a0_1 a0_2)) else (none))) else (some x3_1))) = some r := by (rw [hy102]; with_reducible exact H)
      have Ny102 := Aside0.mk hy102
      clear hy102
      obtain ⟨t105, A30, H⟩ := Option.bind_eq_some_iff.mp H
      (try dsimp only at H); have A3 := Aside0.mk A30; clear A30
      by_cases c4 : t105 = true
      · subst c4
        rw [if_pos rfl] at H
        obtain ⟨t106, A50, H⟩ := Option.bind_eq_some_iff.mp H
        (try dsimp only at H); have A5 := Aside0.mk A50; clear A50
        replace H := iN_ H; obtain ⟨c6, H⟩ := H
        have c6b0 : decide (0 < (t106.length : Int)) = true := decide_eq_true c6
        have c6b1 : decide (0 < t106.length) = true := decide_eq_true (by omega)
        clear c6
        by_cases c7 : (rd t106 0) = x4_1
        · rw [if_pos c7] at H
          have c7b0 : ((rd t106 0) == x4_1) = true := beq_iff_eq.mpr c7
          have c7b1 : ((rd t106 0) != x4_1) = false := bne_eq_false_iff_eq.mpr c7
          clear c7
          have H' := Aside0.mk H
          clear H
          obtain ⟨hcz8_0, hcz8_1, hcz8_2⟩ := kk3_ BK101.1
          have hfz8_0 := blk_frozen BK101.out 0
          have hfz8_1 := blk_frozen BK101.out 1
          have hfz8_2 := blk_frozen BK101.out 2
          go_wp2_with (first | ((with_reducible refine gate_dst (N := 7) rfl ?_); refine Kd.R_lit (Kd.int .i64) _ 3 ?hg (N := 7) ?hd (xs := ([x4_1] : List Int)) (inner := [.int .i64 x4_1]) (ok := fun _ => True) (okp := fun _ => True) ?hr ?hp (fun _ hk => hk) trivial (Below.refl _ _) (Nat.le_refl _) (by simp) ?_; (case hd => rfl); (case hg => rfl); (case hr => (go_simp; done)); (case hp => exact (Reps.one (show Kd.M (Kd.int .i64) _ _ _ x4_1 [.int .i64 x4_1] from rfl) (Reps.none _ _))); intro v103 w9 ho10 hb hg_ hnew_; clear hg_ hnew_; (rw [← Ny102.out] at ho10); have n0_ := Aside0.mk (Kd.R_lower ho10 (below_size HB.out)); have n1_ := Aside0.mk (blk_below (g := gb101) (o := .cells #[.int .i64 a0_0, .int .i64 a0_1, .int .i64 a0_2] 42 (0, 0)) BK101.out hb); have n2_ := Aside0.mk (below_step HB.out hb); clear BK101; clear HB; have HO104 := n0_; have BK101 := n1_; have HB := n2_; clear n0_ n1_ n2_; clear hb ho10; obtain ⟨Ao11, co11, eo11⟩ := Kd.R_slice HO104.out; subst eo11) | ((with_reducible refine gate_callee (f := 108) rfl ?_); refine goesL_ (some 8) rfl rfl Try.func108 (by kernel_rfl) rfl #[.agg #[.int .i64 a0_0, .int .i64 a0_1, .int .i64 a0_2], .slice Ao11 y102.length co11] rfl (by (try simp only [List.map_toArray, List.map_cons, List.map_nil]); rfl) ?_; (with_reducible refine (impl_isIn.calls a0_0 a0_1 a0_2 _ _ y102 true _ ?side1 ?side2 A3.out).mono ?_); (case side1 => repeat (exact (Kd.R_reads' HO104.out).2.2)); (case side2 => exact (Kd.R_reads' HO104.out).2.1); rintro e w12 ⟨rfl, hb⟩; refine ⟨_, rfl, ?_⟩; have n0_ := Aside0.mk (Kd.R_below HO104.out hb); have n1_ := Aside0.mk (blk_below (g := gb101) (o := .cells #[.int .i64 a0_0, .int .i64 a0_1, .int .i64 a0_2] 42 (0, 0)) BK101.out hb); have n2_ := Aside0.mk (below_step HB.out hb); clear HO104; clear BK101; clear HB; have HO104 := n0_; have BK101 := n1_; have HB := n2_; clear n0_ n1_ n2_; (try clear hb); (try clear hb2); (try clear hk); (try clear hi); obtain ⟨hcz13_0, hcz13_1, hcz13_2⟩ := kk3_ BK101.1; have hfz13_0 := blk_frozen BK101.out 0; have hfz13_1 := blk_frozen BK101.out 1; have hfz13_2 := blk_frozen BK101.out 2) | ((with_reducible refine gate_callee (f := 81) rfl ?_); refine goesL_ (some 13) rfl rfl Try.func81 (by kernel_rfl) rfl #[.agg #[.int .i64 a0_0, .int .i64 a0_1, .int .i64 a0_2], .int .i64 x4_1] rfl (by (try simp only [List.map_toArray, List.map_cons, List.map_nil]); rfl) ?_; (with_reducible refine (impl_Reached.calls k1 a0_0 a0_1 a0_2 x4_1 t106 _ A5.out).mono ?_); rintro e w14 ⟨v107, rfl, ho0, hb⟩; refine ⟨_, rfl, ?_⟩; have n0_ := Aside0.mk (Kd.R_elder' HO104.out (Kd.R_base ho0) hb); have n1_ := Aside0.mk (Kd.R_lower (Kd.R_new' ho0 (Kd.R_lt HO104.out)) (below_size HB.out)); have n2_ := Aside0.mk (blk_below (g := gb101) (o := .cells #[.int .i64 a0_0, .int .i64 a0_1, .int .i64 a0_2] 42 (0, 0)) BK101.out hb); have n3_ := Aside0.mk (below_step HB.out hb); clear HO104; clear BK101; clear HB; have HO104 := n0_; have HO108 := n1_; have BK101 := n2_; have HB := n3_; clear n0_ n1_ n2_ n3_; (try clear hb); (try clear hb2); (try clear hk); (try clear hi); (try clear ho0); obtain ⟨Ao15, co15, eo15⟩ := Kd.R_slice HO108.out; subst eo15; have p109 : 0 ≤ (0 : Int) := (by omega); have q109 : 0 < (t106.length : Int) := of_decide_eq_true (by with_reducible assumption); obtain ⟨ad109, e109, hx109_0⟩ := Kd.at_int (Kd.R_reads' HO108.out).2.2 0 p109 q109; cases e109; have qi109 : (0 < t106.length) = True := eq_true (by omega); (try rw [show ((0 : Int)).toNat = 0 from rfl] at hx109_0); (try rw [Addr.add_zero'] at hx109_0); replace p109 := eq_true p109; replace q109 := eq_true q109))
          go_roundg k1
          case measure => have := HK1.out; omega
          case rel => exact ⟨(wrap64 (x3_1 + 1)), (wrap64 (x4_1 + 1)), (by rfl), (by rfl), H', ⟨by have := HK1.out; omega⟩, ⟨by exact BK101.out⟩, ⟨by repeat ((with_reducible exact HB.out))⟩⟩
        · rw [if_neg c7] at H
          have c7b0 : ((rd t106 0) == x4_1) = false := beq_eq_false_iff_ne.mpr c7
          have c7b1 : ((rd t106 0) != x4_1) = true := bne_iff_ne.mpr c7
          have H' := Aside0.mk H
          clear H
          obtain ⟨hcz16_0, hcz16_1, hcz16_2⟩ := kk3_ BK101.1
          have hfz16_0 := blk_frozen BK101.out 0
          have hfz16_1 := blk_frozen BK101.out 1
          have hfz16_2 := blk_frozen BK101.out 2
          go_wp2_with (first | ((with_reducible refine gate_dst (N := 7) rfl ?_); refine Kd.R_lit (Kd.int .i64) _ 3 ?hg (N := 7) ?hd (xs := ([x4_1] : List Int)) (inner := [.int .i64 x4_1]) (ok := fun _ => True) (okp := fun _ => True) ?hr ?hp (fun _ hk => hk) trivial (Below.refl _ _) (Nat.le_refl _) (by simp) ?_; (case hd => rfl); (case hg => rfl); (case hr => (go_simp; done)); (case hp => exact (Reps.one (show Kd.M (Kd.int .i64) _ _ _ x4_1 [.int .i64 x4_1] from rfl) (Reps.none _ _))); intro v103 w17 ho18 hb hg_ hnew_; clear hg_ hnew_; (rw [← Ny102.out] at ho18); have n0_ := Aside0.mk (Kd.R_lower ho18 (below_size HB.out)); have n1_ := Aside0.mk (blk_below (g := gb101) (o := .cells #[.int .i64 a0_0, .int .i64 a0_1, .int .i64 a0_2] 42 (0, 0)) BK101.out hb); have n2_ := Aside0.mk (below_step HB.out hb); clear BK101; clear HB; have HO104 := n0_; have BK101 := n1_; have HB := n2_; clear n0_ n1_ n2_; clear hb ho18; obtain ⟨Ao19, co19, eo19⟩ := Kd.R_slice HO104.out; subst eo19) | ((with_reducible refine gate_callee (f := 108) rfl ?_); refine goesL_ (some 8) rfl rfl Try.func108 (by kernel_rfl) rfl #[.agg #[.int .i64 a0_0, .int .i64 a0_1, .int .i64 a0_2], .slice Ao19 y102.length co19] rfl (by (try simp only [List.map_toArray, List.map_cons, List.map_nil]); rfl) ?_; (with_reducible refine (impl_isIn.calls a0_0 a0_1 a0_2 _ _ y102 true _ ?side1 ?side2 A3.out).mono ?_); (case side1 => repeat (exact (Kd.R_reads' HO104.out).2.2)); (case side2 => exact (Kd.R_reads' HO104.out).2.1); rintro e w20 ⟨rfl, hb⟩; refine ⟨_, rfl, ?_⟩; have n0_ := Aside0.mk (Kd.R_below HO104.out hb); have n1_ := Aside0.mk (blk_below (g := gb101) (o := .cells #[.int .i64 a0_0, .int .i64 a0_1, .int .i64 a0_2] 42 (0, 0)) BK101.out hb); have n2_ := Aside0.mk (below_step HB.out hb); clear HO104; clear BK101; clear HB; have HO104 := n0_; have BK101 := n1_; have HB := n2_; clear n0_ n1_ n2_; (try clear hb); (try clear hb2); (try clear hk); (try clear hi); obtain ⟨hcz21_0, hcz21_1, hcz21_2⟩ := kk3_ BK101.1; have hfz21_0 := blk_frozen BK101.out 0; have hfz21_1 := blk_frozen BK101.out 1; have hfz21_2 := blk_frozen BK101.out 2) | ((with_reducible refine gate_callee (f := 81) rfl ?_); refine goesL_ (some 13) rfl rfl Try.func81 (by kernel_rfl) rfl #[.agg #[.int .i64 a0_0, .int .i64 a0_1, .int .i64 a0_2], .int .i64 x4_1] rfl (by (try simp only [List.map_toArray, List.map_cons, List.map_nil]); rfl) ?_; (with_reducible refine (impl_Reached.calls k1 a0_0 a0_1 a0_2 x4_1 t106 _ A5.out).mono ?_); rintro e w22 ⟨v107, rfl, ho0, hb⟩; refine ⟨_, rfl, ?_⟩; have n0_ := Aside0.mk (Kd.R_elder' HO104.out (Kd.R_base ho0) hb); have n1_ := Aside0.mk (Kd.R_lower (Kd.R_new' ho0 (Kd.R_lt HO104.out)) (below_size HB.out)); have n2_ := Aside0.mk (blk_below (g := gb101) (o := .cells #[.int .i64 a0_0, .int .i64 a0_1, .int .i64 a0_2] 42 (0, 0)) BK101.out hb); have n3_ := Aside0.mk (below_step HB.out hb); clear HO104; clear BK101; clear HB; have HO104 := n0_; have HO108 := n1_; have BK101 := n2_; have HB := n3_; clear n0_ n1_ n2_ n3_; (try clear hb); (try clear hb2); (try clear hk); (try clear hi); (try clear ho0); obtain ⟨Ao23, co23, eo23⟩ := Kd.R_slice HO108.out; subst eo23; have p109 : 0 ≤ (0 : Int) := (by omega); have q109 : 0 < (t106.length : Int) := of_decide_eq_true (by with_reducible assumption); obtain ⟨ad109, e109, hx109_0⟩ := Kd.at_int (Kd.R_reads' HO108.out).2.2 0 p109 q109; cases e109; have qi109 : (0 < t106.length) = True := eq_true (by omega); (try rw [show ((0 : Int)).toNat = 0 from rfl] at hx109_0); (try rw [Addr.add_zero'] at hx109_0); replace p109 := eq_true p109; replace q109 := eq_true q109))
          go_roundg k1
          case measure => have := HK1.out; omega
          case rel => exact ⟨(x3_1), (wrap64 (x4_1 + 1)), (by rfl), (by rfl), H', ⟨by have := HK1.out; omega⟩, ⟨by exact BK101.out⟩, ⟨by repeat ((with_reducible exact HB.out))⟩⟩
      · replace c4 := Bool.eq_false_iff.mpr c4
        subst c4
        have H1 : (some x3_1) = some r := by rw [if_neg (show ¬ (false = true) by decide)] at H; exact H
        clear H
        have H := H1
        clear H1
        obtain rfl := Option.some.inj H
        obtain ⟨hcz24_0, hcz24_1, hcz24_2⟩ := kk3_ BK101.1
        have hfz24_0 := blk_frozen BK101.out 0
        have hfz24_1 := blk_frozen BK101.out 1
        have hfz24_2 := blk_frozen BK101.out 2
        go_wp2_with (first | ((with_reducible refine gate_dst (N := 7) rfl ?_); refine Kd.R_lit (Kd.int .i64) _ 3 ?hg (N := 7) ?hd (xs := ([x4_1] : List Int)) (inner := [.int .i64 x4_1]) (ok := fun _ => True) (okp := fun _ => True) ?hr ?hp (fun _ hk => hk) trivial (Below.refl _ _) (Nat.le_refl _) (by simp) ?_; (case hd => rfl); (case hg => rfl); (case hr => (go_simp; done)); (case hp => exact (Reps.one (show Kd.M (Kd.int .i64) _ _ _ x4_1 [.int .i64 x4_1] from rfl) (Reps.none _ _))); intro v103 w25 ho26 hb hg_ hnew_; clear hg_ hnew_; (rw [← Ny102.out] at ho26); have n0_ := Aside0.mk (Kd.R_lower ho26 (below_size HB.out)); have n1_ := Aside0.mk (blk_below (g := gb101) (o := .cells #[.int .i64 a0_0, .int .i64 a0_1, .int .i64 a0_2] 42 (0, 0)) BK101.out hb); have n2_ := Aside0.mk (below_step HB.out hb); clear BK101; clear HB; have HO104 := n0_; have BK101 := n1_; have HB := n2_; clear n0_ n1_ n2_; clear hb ho26; obtain ⟨Ao27, co27, eo27⟩ := Kd.R_slice HO104.out; subst eo27) | ((with_reducible refine gate_callee (f := 108) rfl ?_); refine goesL_ (some 8) rfl rfl Try.func108 (by kernel_rfl) rfl #[.agg #[.int .i64 a0_0, .int .i64 a0_1, .int .i64 a0_2], .slice Ao27 y102.length co27] rfl (by (try simp only [List.map_toArray, List.map_cons, List.map_nil]); rfl) ?_; (with_reducible refine (impl_isIn.calls a0_0 a0_1 a0_2 _ _ y102 false _ ?side1 ?side2 A3.out).mono ?_); (case side1 => repeat (exact (Kd.R_reads' HO104.out).2.2)); (case side2 => exact (Kd.R_reads' HO104.out).2.1); rintro e w28 ⟨rfl, hb⟩; refine ⟨_, rfl, ?_⟩; have n0_ := Aside0.mk (Kd.R_below HO104.out hb); have n1_ := Aside0.mk (blk_below (g := gb101) (o := .cells #[.int .i64 a0_0, .int .i64 a0_1, .int .i64 a0_2] 42 (0, 0)) BK101.out hb); have n2_ := Aside0.mk (below_step HB.out hb); clear HO104; clear BK101; clear HB; have HO104 := n0_; have BK101 := n1_; have HB := n2_; clear n0_ n1_ n2_; (try clear hb); (try clear hb2); (try clear hk); (try clear hi)))
        go_ret
        exact ⟨by rfl, by repeat ((with_reducible exact HB.out))⟩

/-! ### impl_CountLoops: function 80 -/
def impl_CountLoops.f (k : Nat) (a0_0 : Int) (a0_1 : Int) (a0_2 : Int) : Option (Int) := (impl_MazeOk.f a0_0 a0_1 a0_2).bind fun t102 => (if t102 = true then ((impl_CountPassages.f a0_0 a0_1 a0_2).bind fun t103 => ((impl_CountCells.f a0_0 a0_1).bind fun t104 => ((impl_CountParts.f k a0_0 a0_1 a0_2).bind fun t105 => (some (wrap64 ((wrap64 (t103 - t104)) + t105)))))) else (some 0))
def impl_CountLoops.T3 : Bool × List (List Nat × List Nat) := (true, [([], []), ([0], [0]), ([], []), ([2], [2]), ([3, 1], [3]), ([1, 4], [1, 4]), ([], []), ([6, 4], [6]), ([5, 7], [5, 7]), ([8, 7, 0, 1, 2, 3, 4, 5, 6, 7, 8], [8])])
def impl_CountLoops.B3 : List Nat := [0, 1, 0, 4, 15, 31, 0, 95, 255, 511]
theorem impl_CountLoops.tab3 : rtab .any (opsOf Try.f80 3) = impl_CountLoops.T3 := by kernel_rfl
theorem impl_CountLoops.bits3 : waitsOk impl_CountLoops.T3.2 impl_CountLoops.B3 = true := by kernel_rfl
set_option maxHeartbeats 8000000 in
set_option maxRecDepth 100000 in
theorem impl_CountLoops.calls (k : Nat) (a0_0 : Int) (a0_1 : Int) (a0_2 : Int) (r : Int) (w : World) (h : impl_CountLoops.f k a0_0 a0_1 a0_2 = some r) :
    Calls Try.prog 80 #[.agg #[.int .i64 a0_0, .int .i64 a0_1, .int .i64 a0_2]] w fun e w' => e = .returned (.int .i64 r) ∧ Below w.heap.size w w' := by
  have hu42 := Try.underlying42
  have hu40 := Try.underlying40
  have HB := Aside0.mk (Below.refl w.heap.size w)
  have H : ((impl_MazeOk.f a0_0 a0_1 a0_2).bind fun t102 => (if t102 = true then ((impl_CountPassages.f a0_0 a0_1 a0_2).bind fun t103 => ((impl_CountCells.f a0_0 a0_1).bind fun t104 => ((impl_CountParts.f k a0_0 a0_1 a0_2).bind fun t105 => (some (wrap64 ((wrap64 (t103 - t104)) + t105)))))) else (some 0))) = some r := h
  clear h
  obtain ⟨t102, A20, H⟩ := Option.bind_eq_some_iff.mp H
  (try dsimp only at H); have A2 := Aside0.mk A20; clear A20
  by_cases c3 : t102 = true
  · subst c3
    rw [if_pos rfl] at H
    obtain ⟨t103, A40, H⟩ := Option.bind_eq_some_iff.mp H
    (try dsimp only at H); have A4 := Aside0.mk A40; clear A40
    obtain ⟨t104, A50, H⟩ := Option.bind_eq_some_iff.mp H
    (try dsimp only at H); have A5 := Aside0.mk A50; clear A50
    obtain ⟨t105, A60, H⟩ := Option.bind_eq_some_iff.mp H
    (try dsimp only at H); have A6 := Aside0.mk A60; clear A60
    obtain rfl := Option.some.inj H
    go_enter Try.func80, Try.ntmps80
    try go_wp2_with (first | ((with_reducible refine gate_dst (N := 1) rfl ?_); refine box_event ?hg (N := 1) ?hd (cs := #[.int .i64 a0_0, .int .i64 a0_1, .int .i64 a0_2]) (t := 42) ?hr ?_; (case hd => rfl); (case hg => rfl); (case hr => (go_simp; done)); intro gb101 hg w7 hbox hb; have n0_ := Aside0.mk (below_step HB.out hb); have n1_ := Aside0.mk (hbox); have n2_ := Aside0.mk ((by rw [hg]; exact (below_size HB.out) : w.heap.size ≤ gb101)); have n3_ := Aside0.mk ((by rw [hg]; exact (below_size HB.out) : w.heap.size ≤ gb101)); clear HB; have HB := n0_; have BK101 := n1_; have GW101 := n2_; have GE101 := n3_; clear n0_ n1_ n2_ n3_; clear hb hbox hg; obtain ⟨hcz8_0, hcz8_1, hcz8_2⟩ := kk3_ BK101.1; have hfz8_0 := blk_frozen BK101.out 0; have hfz8_1 := blk_frozen BK101.out 1; have hfz8_2 := blk_frozen BK101.out 2) | ((with_reducible refine gate_callee (f := 69) rfl ?_); refine goesL_ (some 4) rfl rfl Try.func69 (by kernel_rfl) rfl #[.agg #[.int .i64 a0_0, .int .i64 a0_1, .int .i64 a0_2]] rfl (by (try simp only [List.map_toArray, List.map_cons, List.map_nil]); rfl) ?_; (with_reducible refine (impl_MazeOk.calls a0_0 a0_1 a0_2 true _ A2.out).mono ?_); rintro e w9 ⟨rfl, hb⟩; refine ⟨_, rfl, ?_⟩; have n0_ := Aside0.mk (blk_below (g := gb101) (o := .cells #[.int .i64 a0_0, .int .i64 a0_1, .int .i64 a0_2] 42 (0, 0)) BK101.out hb); have n1_ := Aside0.mk (below_step HB.out hb); clear BK101; clear HB; have BK101 := n0_; have HB := n1_; clear n0_ n1_; (try clear hb); (try clear hb2); (try clear hk); (try clear hi)))
    have n0_ := Aside0.mk (blk_drew BK101.out); have n1_ := Aside0.mk (below_drew1 HB.out); clear BK101; clear HB; have BK101 := n0_; have HB := n1_; clear n0_ n1_
    refine start_ (n := 10) (S := fun w' => w'.cell? ⟨gb101, 0, none⟩ = some (.int .i64 a0_0) ∧ w'.cell? ⟨gb101, 1, none⟩ = some (.int .i64 a0_1) ∧ w'.cell? ⟨gb101, 2, none⟩ = some (.int .i64 a0_2)) (ds := []) #[false, false, false, false, false, false, false, false, false, false] (by kernel_rfl) rfl rfl ⟨(blk_cell BK101.out 0).trans rfl, (blk_cell BK101.out 1).trans rfl, (blk_cell BK101.out 2).trans rfl⟩ (fun hHeld => ?_); refine with_tabW impl_CountLoops.tab3 impl_CountLoops.bits3 (fun HT_ HW_ => ?_)
    generalize w9.drew = w10 at BK101 HB hHeld ⊢
    refine pu_ (v := ?_) (a' := ?_) 2 (some 8) rfl rfl HT_ (by kernel_rfl) (.inl ⟨by rfl, ?_⟩) ?_ ?_; rotate_left 2; (intro w'; go_simp; with_reducible rfl); (simp only [P6_]; rfl)
    refine ta_ (v := ?_) (a' := ?_) 0 (some 6) rfl rfl HT_ HW_ (by kernel_rfl) (.inl ⟨by rfl, ?_⟩) hHeld ?_ ?_; rotate_left 2; (rintro w' ⟨s0, s1, s2⟩; go_simp; with_reducible rfl); (simp only [P6_]; rfl)
    refine ta_ (v := ?_) (a' := ?_) 3 (some 9) rfl rfl HT_ HW_ (by kernel_rfl) (.inl ⟨by rfl, ?_⟩) hHeld ?_ ?_; rotate_left 2; (rintro w' ⟨s0, s1, s2⟩; go_simp; with_reducible rfl); (simp only [P6_]; rfl)
    refine ta_ (v := ?_) (a' := ?_) 6 (some 12) rfl rfl HT_ HW_ (by kernel_rfl) (.inl ⟨by rfl, ?_⟩) hHeld ?_ ?_; rotate_left 2; (rintro w' ⟨s0, s1, s2⟩; go_simp; with_reducible rfl); (simp only [P6_]; rfl)
    refine on_ 1 (some 7) rfl rfl HT_ (by kernel_rfl) (by decide) (fun K hK => ?_)
    refine goes_ Try.func91 (by kernel_rfl) rfl #[.agg #[.int .i64 a0_0, .int .i64 a0_1, .int .i64 a0_2]] (by rfl) rfl rfl (by (try simp only [List.map_toArray, List.map_cons, List.map_nil]); rfl) ?_
    with_reducible refine (impl_CountPassages.calls a0_0 a0_1 a0_2 t103 _ A4.out).mono ?_
    rintro e w11 ⟨rfl, hb⟩
    refine ⟨_, rfl, ?_⟩
    have n0_ := Aside0.mk (blk_below (g := gb101) (o := .cells #[.int .i64 a0_0, .int .i64 a0_1, .int .i64 a0_2] 42 (0, 0)) BK101.out hb)
    have n1_ := Aside0.mk (below_step HB.out hb)
    clear BK101; clear HB; have BK101 := n0_; have HB := n1_; clear n0_ n1_; (try clear hb); (try clear hb2); (try clear hk); (try clear hi)
    refine hK.out _ _ ⟨(blk_cell BK101.out 0).trans rfl, (blk_cell BK101.out 1).trans rfl, (blk_cell BK101.out 2).trans rfl⟩ (fun hHeld => ?_)
    clear hK K
    refine norm_ (a' := ?_) ?_ ?_; rotate_left; (show Act.put _ (some 7) _ = _; simp only [P6_]; rfl)
    refine on_ 4 (some 10) rfl rfl HT_ (by kernel_rfl) (by decide) (fun K hK => ?_)
    refine goes_ Try.func70 (by kernel_rfl) rfl #[.agg #[.int .i64 a0_0, .int .i64 a0_1]] (by rfl) rfl rfl (by (try simp only [List.map_toArray, List.map_cons, List.map_nil]); rfl) ?_
    with_reducible refine (impl_CountCells.calls a0_0 a0_1 t104 _ A5.out).mono ?_
    rintro e w12 ⟨rfl, hb⟩
    refine ⟨_, rfl, ?_⟩
    have n0_ := Aside0.mk (blk_below (g := gb101) (o := .cells #[.int .i64 a0_0, .int .i64 a0_1, .int .i64 a0_2] 42 (0, 0)) BK101.out hb)
    have n1_ := Aside0.mk (below_step HB.out hb)
    clear BK101; clear HB; have BK101 := n0_; have HB := n1_; clear n0_ n1_; (try clear hb); (try clear hb2); (try clear hk); (try clear hi)
    refine hK.out _ _ ⟨(blk_cell BK101.out 0).trans rfl, (blk_cell BK101.out 1).trans rfl, (blk_cell BK101.out 2).trans rfl⟩ (fun hHeld => ?_)
    clear hK K
    refine norm_ (a' := ?_) ?_ ?_; rotate_left; (show Act.put _ (some 10) _ = _; simp only [P6_]; rfl)
    refine pu_ (v := ?_) (a' := ?_) 5 (some 11) rfl rfl HT_ (by kernel_rfl) (.inl ⟨by rfl, ?_⟩) ?_ ?_; rotate_left 2; (intro w'; go_simp; with_reducible rfl); (simp only [P6_]; rfl)
    refine on_ 7 (some 13) rfl rfl HT_ (by kernel_rfl) (by decide) (fun K hK => ?_)
    refine goes_ Try.func107 (by kernel_rfl) rfl #[.agg #[.int .i64 a0_0, .int .i64 a0_1, .int .i64 a0_2]] (by rfl) rfl rfl (by (try simp only [List.map_toArray, List.map_cons, List.map_nil]); rfl) ?_
    with_reducible refine (impl_CountParts.calls k a0_0 a0_1 a0_2 t105 _ A6.out).mono ?_
    rintro e w13 ⟨rfl, hb⟩
    refine ⟨_, rfl, ?_⟩
    have n0_ := Aside0.mk (blk_below (g := gb101) (o := .cells #[.int .i64 a0_0, .int .i64 a0_1, .int .i64 a0_2] 42 (0, 0)) BK101.out hb)
    have n1_ := Aside0.mk (below_step HB.out hb)
    clear BK101; clear HB; have BK101 := n0_; have HB := n1_; clear n0_ n1_; (try clear hb); (try clear hb2); (try clear hk); (try clear hi)
    refine hK.out _ _ ⟨(blk_cell BK101.out 0).trans rfl, (blk_cell BK101.out 1).trans rfl, (blk_cell BK101.out 2).trans rfl⟩ (fun hHeld => ?_)
    clear hK K
    refine norm_ (a' := ?_) ?_ ?_; rotate_left; (show Act.put _ (some 13) _ = _; simp only [P6_]; rfl)
    refine pu_ (v := ?_) (a' := ?_) 8 (some 14) rfl rfl HT_ (by kernel_rfl) (.inl ⟨by rfl, ?_⟩) ?_ ?_; rotate_left 2; (intro w'; go_simp; with_reducible rfl); (simp only [P6_]; rfl)
    refine pu_ (v := ?_) (a' := ?_) 9 (some 2) rfl rfl HT_ (by kernel_rfl) (.inl ⟨by rfl, ?_⟩) ?_ ?_; rotate_left 2; (intro w'; go_simp; with_reducible rfl); (simp only [P6_]; rfl)
    refine done_ (done_of HT_.out (by kernel_rfl)) ?_
    try go_wp2
    go_ret
    exact ⟨by rfl, by repeat ((with_reducible exact HB.out))⟩
  · replace c3 := Bool.eq_false_iff.mpr c3
    subst c3
    have H1 : (some 0) = some r := by rw [if_neg (show ¬ (false = true) by decide)] at H; exact H
    clear H
    have H := H1
    clear H1
    obtain rfl := Option.some.inj H
    go_enter Try.func80, Try.ntmps80
    go_wp2_with (first | ((with_reducible refine gate_dst (N := 1) rfl ?_); refine box_event ?hg (N := 1) ?hd (cs := #[.int .i64 a0_0, .int .i64 a0_1, .int .i64 a0_2]) (t := 42) ?hr ?_; (case hd => rfl); (case hg => rfl); (case hr => (go_simp; done)); intro gb101 hg w14 hbox hb; have n0_ := Aside0.mk (below_step HB.out hb); have n1_ := Aside0.mk (hbox); have n2_ := Aside0.mk ((by rw [hg]; exact (below_size HB.out) : w.heap.size ≤ gb101)); have n3_ := Aside0.mk ((by rw [hg]; exact (below_size HB.out) : w.heap.size ≤ gb101)); clear HB; have HB := n0_; have BK101 := n1_; have GW101 := n2_; have GE101 := n3_; clear n0_ n1_ n2_ n3_; clear hb hbox hg; obtain ⟨hcz15_0, hcz15_1, hcz15_2⟩ := kk3_ BK101.1; have hfz15_0 := blk_frozen BK101.out 0; have hfz15_1 := blk_frozen BK101.out 1; have hfz15_2 := blk_frozen BK101.out 2) | ((with_reducible refine gate_callee (f := 69) rfl ?_); refine goesL_ (some 4) rfl rfl Try.func69 (by kernel_rfl) rfl #[.agg #[.int .i64 a0_0, .int .i64 a0_1, .int .i64 a0_2]] rfl (by (try simp only [List.map_toArray, List.map_cons, List.map_nil]); rfl) ?_; (with_reducible refine (impl_MazeOk.calls a0_0 a0_1 a0_2 false _ A2.out).mono ?_); rintro e w16 ⟨rfl, hb⟩; refine ⟨_, rfl, ?_⟩; have n0_ := Aside0.mk (blk_below (g := gb101) (o := .cells #[.int .i64 a0_0, .int .i64 a0_1, .int .i64 a0_2] 42 (0, 0)) BK101.out hb); have n1_ := Aside0.mk (below_step HB.out hb); clear BK101; clear HB; have BK101 := n0_; have HB := n1_; clear n0_ n1_; (try clear hb); (try clear hb2); (try clear hk); (try clear hi)))
    go_ret
    exact ⟨by rfl, by repeat ((with_reducible exact HB.out))⟩

/-! ### impl_isGap: function 106 -/
def impl_isGap.f (a0_0 : Int) (a0_1 : Int) (a1 : Int) : Option (Bool) := if a1 ≥ 0 then ((impl_CountGaps.f a0_0 a0_1).bind fun t102 => (some (decide (a1 < t102)))) else (some false)
set_option maxHeartbeats 8000000 in
set_option maxRecDepth 100000 in
theorem impl_isGap.calls (a0_0 : Int) (a0_1 : Int) (a1 : Int) (r : Bool) (w : World) (h : impl_isGap.f a0_0 a0_1 a1 = some r) :
    Calls Try.prog 106 #[.agg #[.int .i64 a0_0, .int .i64 a0_1], .int .i64 a1] w fun e w' => e = .returned (.bool r) ∧ Below w.heap.size w w' := by
  have hu40 := Try.underlying40
  have HB := Aside0.mk (Below.refl w.heap.size w)
  have H : (if a1 ≥ 0 then ((impl_CountGaps.f a0_0 a0_1).bind fun t102 => (some (decide (a1 < t102)))) else (some false)) = some r := h
  clear h
  by_cases c3 : a1 ≥ 0
  · rw [if_pos c3] at H
    have c3b0 : decide (0 ≤ a1) = true := decide_eq_true c3
    clear c3
    obtain ⟨t102, A40, H⟩ := Option.bind_eq_some_iff.mp H
    (try dsimp only at H); have A4 := Aside0.mk A40; clear A40
    obtain rfl := Option.some.inj H
    go_enter Try.func106, Try.ntmps106
    go_wp2_with (first | ((with_reducible refine gate_dst (N := 2) rfl ?_); refine box_event ?hg (N := 2) ?hd (cs := #[.int .i64 a0_0, .int .i64 a0_1]) (t := 40) ?hr ?_; (case hd => rfl); (case hg => rfl); (case hr => (go_simp; done)); intro gb101 hg w5 hbox hb; have n0_ := Aside0.mk (below_step HB.out hb); have n1_ := Aside0.mk (hbox); have n2_ := Aside0.mk ((by rw [hg]; exact (below_size HB.out) : w.heap.size ≤ gb101)); have n3_ := Aside0.mk ((by rw [hg]; exact (below_size HB.out) : w.heap.size ≤ gb101)); clear HB; have HB := n0_; have BK101 := n1_; have GW101 := n2_; have GE101 := n3_; clear n0_ n1_ n2_ n3_; clear hb hbox hg; obtain ⟨hcz6_0, hcz6_1⟩ := kk2_ BK101.1; have hfz6_0 := blk_frozen BK101.out 0; have hfz6_1 := blk_frozen BK101.out 1) | (go_at_call 78; (with_reducible refine (impl_CountGaps.calls a0_0 a0_1 t102 _ A4.out).mono ?_); rintro e w7 ⟨rfl, hb⟩; have n0_ := Aside0.mk (blk_below (g := gb101) (o := .cells #[.int .i64 a0_0, .int .i64 a0_1] 40 (0, 0)) BK101.out hb); have n1_ := Aside0.mk (below_step HB.out hb); clear BK101; clear HB; have BK101 := n0_; have HB := n1_; clear n0_ n1_; (try clear hb); (try clear hb2); (try clear hk); (try clear hi)))
    go_ret
    exact ⟨by rfl, by repeat ((with_reducible exact HB.out))⟩
  · rw [if_neg c3] at H
    have c3b0 : decide (0 ≤ a1) = false := decide_eq_false c3
    clear c3
    obtain rfl := Option.some.inj H
    go_enter Try.func106, Try.ntmps106
    go_wp2_with (((with_reducible refine gate_dst (N := 2) rfl ?_); refine box_event ?hg (N := 2) ?hd (cs := #[.int .i64 a0_0, .int .i64 a0_1]) (t := 40) ?hr ?_; (case hd => rfl); (case hg => rfl); (case hr => (go_simp; done)); intro gb101 hg w8 hbox hb; have n0_ := Aside0.mk (below_step HB.out hb); have n1_ := Aside0.mk (hbox); have n2_ := Aside0.mk ((by rw [hg]; exact (below_size HB.out) : w.heap.size ≤ gb101)); have n3_ := Aside0.mk ((by rw [hg]; exact (below_size HB.out) : w.heap.size ≤ gb101)); clear HB; have HB := n0_; have BK101 := n1_; have GW101 := n2_; have GE101 := n3_; clear n0_ n1_ n2_ n3_; clear hb hbox hg))
    go_ret
    exact ⟨by rfl, by repeat ((with_reducible exact HB.out))⟩

/-! ### impl_EndsOf: function 82 -/
def impl_EndsOf.f (a0_0 : Int) (a0_1 : Int) (a1 : Int) : Option (Int × Int) := (impl_isGap.f a0_0 a0_1 a1).bind fun t102 => (if t102 = true then (if a1 ≥ (wrap64 ((wrap64 (a0_0 - 1)) * a0_1)) then (some (wrap64 (a1 - (wrap64 ((wrap64 (a0_0 - 1)) * a0_1))), wrap64 ((wrap64 (a1 - (wrap64 ((wrap64 (a0_0 - 1)) * a0_1)))) + a0_0))) else (if (wrap64 (a0_0 - 1)) = 0 then (none) else (some (wrap64 ((wrap64 ((wrap64 (Int.tdiv a1 (wrap64 (a0_0 - 1)))) * a0_0)) + (Int.tmod a1 (wrap64 (a0_0 - 1)))), wrap64 ((wrap64 ((wrap64 ((wrap64 (Int.tdiv a1 (wrap64 (a0_0 - 1)))) * a0_0)) + (Int.tmod a1 (wrap64 (a0_0 - 1))))) + 1))))) else (some ((-1), (-1))))
set_option maxHeartbeats 8000000 in
set_option maxRecDepth 100000 in
theorem impl_EndsOf.calls (a0_0 : Int) (a0_1 : Int) (a1 : Int) (r1 : Int) (r2 : Int) (w : World) (h : impl_EndsOf.f a0_0 a0_1 a1 = some (r1, r2)) :
    Calls Try.prog 82 #[.agg #[.int .i64 a0_0, .int .i64 a0_1], .int .i64 a1] w fun e w' => e = .returned (.tuple #[.int .i64 r1, .int .i64 r2]) ∧ Below w.heap.size w w' := by
  have hu40 := Try.underlying40
  have HB := Aside0.mk (Below.refl w.heap.size w)
  have H : ((impl_isGap.f a0_0 a0_1 a1).bind fun t102 => (if t102 = true then (if a1 ≥ (wrap64 ((wrap64 (a0_0 - 1)) * a0_1)) then (some (wrap64 (a1 - (wrap64 ((wrap64 (a0_0 - 1)) * a0_1))), wrap64 ((wrap64 (a1 - (wrap64 ((wrap64 (a0_0 - 1)) * a0_1)))) + a0_0))) else (if (wrap64 (a0_0 - 1)) = 0 then (none) else (some (wrap64 ((wrap64 ((wrap64 (Int.tdiv a1 (wrap64 (a0_0 - 1)))) * a0_0)) + (Int.tmod a1 (wrap64 (a0_0 - 1)))), wrap64 ((wrap64 ((wrap64 ((wrap64 (Int.tdiv a1 (wrap64 (a0_0 - 1)))) * a0_0)) + (Int.tmod a1 (wrap64 (a0_0 - 1))))) + 1))))) else (some ((-1), (-1))))) = some (r1, r2) := h
  clear h
  obtain ⟨t102, A30, H⟩ := Option.bind_eq_some_iff.mp H
  (try dsimp only at H); have A3 := Aside0.mk A30; clear A30
  by_cases c4 : t102 = true
  · subst c4
    rw [if_pos rfl] at H
    by_cases c5 : a1 ≥ (wrap64 ((wrap64 (a0_0 - 1)) * a0_1))
    · rw [if_pos c5] at H
      have c5b0 : decide ((wrap64 ((wrap64 (a0_0 - 1)) * a0_1)) ≤ a1) = true := decide_eq_true c5
      clear c5
      simp only [Option.some.injEq, Prod.mk.injEq] at H
      obtain ⟨rfl, rfl⟩ := H
      go_enter Try.func82, Try.ntmps82
      go_wp2_with (first | ((with_reducible refine gate_dst (N := 2) rfl ?_); refine box_event ?hg (N := 2) ?hd (cs := #[.int .i64 a0_0, .int .i64 a0_1]) (t := 40) ?hr ?_; (case hd => rfl); (case hg => rfl); (case hr => (go_simp; done)); intro gb101 hg w6 hbox hb; have n0_ := Aside0.mk (below_step HB.out hb); have n1_ := Aside0.mk (hbox); have n2_ := Aside0.mk ((by rw [hg]; exact (below_size HB.out) : w.heap.size ≤ gb101)); have n3_ := Aside0.mk ((by rw [hg]; exact (below_size HB.out) : w.heap.size ≤ gb101)); clear HB; have HB := n0_; have BK101 := n1_; have GW101 := n2_; have GE101 := n3_; clear n0_ n1_ n2_ n3_; clear hb hbox hg; obtain ⟨hcz7_0, hcz7_1⟩ := kk2_ BK101.1; have hfz7_0 := blk_frozen BK101.out 0; have hfz7_1 := blk_frozen BK101.out 1) | (go_at_call 106; (with_reducible refine (impl_isGap.calls a0_0 a0_1 a1 true _ A3.out).mono ?_); rintro e w8 ⟨rfl, hb⟩; have n0_ := Aside0.mk (blk_below (g := gb101) (o := .cells #[.int .i64 a0_0, .int .i64 a0_1] 40 (0, 0)) BK101.out hb); have n1_ := Aside0.mk (below_step HB.out hb); clear BK101; clear HB; have BK101 := n0_; have HB := n1_; clear n0_ n1_; (try clear hb); (try clear hb2); (try clear hk); (try clear hi); obtain ⟨hcz9_0, hcz9_1⟩ := kk2_ BK101.1; have hfz9_0 := blk_frozen BK101.out 0; have hfz9_1 := blk_frozen BK101.out 1))
      repeat (go_quiet (fail); try go_wp2_with (fail))
      go_ret2
      exact ⟨by rfl, by repeat ((with_reducible first | exact HB.out | apply pw_below_drewN))⟩
    · rw [if_neg c5] at H
      have c5b0 : decide ((wrap64 ((wrap64 (a0_0 - 1)) * a0_1)) ≤ a1) = false := decide_eq_false c5
      clear c5
      by_cases c10 : (wrap64 (a0_0 - 1)) = 0
      · rw [if_pos c10] at H
        exact absurd H (by simp)
      · rw [if_neg c10] at H
        have c10b0 : ((wrap64 (a0_0 - 1)) == 0) = false := beq_eq_false_iff_ne.mpr c10
        have c10b1 : ((wrap64 (a0_0 - 1)) != 0) = true := bne_iff_ne.mpr c10
        simp only [Option.some.injEq, Prod.mk.injEq] at H
        obtain ⟨rfl, rfl⟩ := H
        go_enter Try.func82, Try.ntmps82
        go_wp2_with (first | ((with_reducible refine gate_dst (N := 2) rfl ?_); refine box_event ?hg (N := 2) ?hd (cs := #[.int .i64 a0_0, .int .i64 a0_1]) (t := 40) ?hr ?_; (case hd => rfl); (case hg => rfl); (case hr => (go_simp; done)); intro gb101 hg w11 hbox hb; have n0_ := Aside0.mk (below_step HB.out hb); have n1_ := Aside0.mk (hbox); have n2_ := Aside0.mk ((by rw [hg]; exact (below_size HB.out) : w.heap.size ≤ gb101)); have n3_ := Aside0.mk ((by rw [hg]; exact (below_size HB.out) : w.heap.size ≤ gb101)); clear HB; have HB := n0_; have BK101 := n1_; have GW101 := n2_; have GE101 := n3_; clear n0_ n1_ n2_ n3_; clear hb hbox hg; obtain ⟨hcz12_0, hcz12_1⟩ := kk2_ BK101.1; have hfz12_0 := blk_frozen BK101.out 0; have hfz12_1 := blk_frozen BK101.out 1) | (go_at_call 106; (with_reducible refine (impl_isGap.calls a0_0 a0_1 a1 true _ A3.out).mono ?_); rintro e w13 ⟨rfl, hb⟩; have n0_ := Aside0.mk (blk_below (g := gb101) (o := .cells #[.int .i64 a0_0, .int .i64 a0_1] 40 (0, 0)) BK101.out hb); have n1_ := Aside0.mk (below_step HB.out hb); clear BK101; clear HB; have BK101 := n0_; have HB := n1_; clear n0_ n1_; (try clear hb); (try clear hb2); (try clear hk); (try clear hi); obtain ⟨hcz14_0, hcz14_1⟩ := kk2_ BK101.1; have hfz14_0 := blk_frozen BK101.out 0; have hfz14_1 := blk_frozen BK101.out 1))
        repeat (go_quiet (fail); try go_wp2_with (fail))
        go_ret2
        exact ⟨by rfl, by repeat ((with_reducible first | exact HB.out | apply pw_below_drewN))⟩
  · replace c4 := Bool.eq_false_iff.mpr c4
    subst c4
    have H1 : (some ((-1), (-1))) = some (r1, r2) := by rw [if_neg (show ¬ (false = true) by decide)] at H; exact H
    clear H
    have H := H1
    clear H1
    simp only [Option.some.injEq, Prod.mk.injEq] at H
    obtain ⟨rfl, rfl⟩ := H
    go_enter Try.func82, Try.ntmps82
    go_wp2_with (first | ((with_reducible refine gate_dst (N := 2) rfl ?_); refine box_event ?hg (N := 2) ?hd (cs := #[.int .i64 a0_0, .int .i64 a0_1]) (t := 40) ?hr ?_; (case hd => rfl); (case hg => rfl); (case hr => (go_simp; done)); intro gb101 hg w15 hbox hb; have n0_ := Aside0.mk (below_step HB.out hb); have n1_ := Aside0.mk (hbox); have n2_ := Aside0.mk ((by rw [hg]; exact (below_size HB.out) : w.heap.size ≤ gb101)); have n3_ := Aside0.mk ((by rw [hg]; exact (below_size HB.out) : w.heap.size ≤ gb101)); clear HB; have HB := n0_; have BK101 := n1_; have GW101 := n2_; have GE101 := n3_; clear n0_ n1_ n2_ n3_; clear hb hbox hg; obtain ⟨hcz16_0, hcz16_1⟩ := kk2_ BK101.1; have hfz16_0 := blk_frozen BK101.out 0; have hfz16_1 := blk_frozen BK101.out 1) | (go_at_call 106; (with_reducible refine (impl_isGap.calls a0_0 a0_1 a1 false _ A3.out).mono ?_); rintro e w17 ⟨rfl, hb⟩; have n0_ := Aside0.mk (blk_below (g := gb101) (o := .cells #[.int .i64 a0_0, .int .i64 a0_1] 40 (0, 0)) BK101.out hb); have n1_ := Aside0.mk (below_step HB.out hb); clear BK101; clear HB; have BK101 := n0_; have HB := n1_; clear n0_ n1_; (try clear hb); (try clear hb2); (try clear hk); (try clear hi)))
    repeat (go_quiet (fail); try go_wp2_with (fail))
    go_ret2
    exact ⟨by rfl, by repeat ((with_reducible exact HB.out))⟩

end Go.Proofs.Ytoohcdfokejkdaa.P
namespace Go.Proofs.Ytoohcdfokejkdaa.P
open Go.RowKit Go.Proofs.YtoohcdfokejkdaaW.PrintWords Go.Proofs.YtoohcdfokejkdaaW.PrintLast Go.Proofs.YtoohcdfokejkdaaW.PrintMore
attribute [local go_sem] max2_int min2_int max_two min_two max_three min_three max_four min_four   -- for this text's walks alone
set_option linter.unusedVariables false
set_option linter.unusedSimpArgs false

/-! ### impl_CountFixed: function 34 -/
mutual
def impl_CountFixed.j0 : Nat → Int → Int → Bool → Int → Int → Option (Int)
  | 0, _, _, _, _, _ => none
  | k + 1, x1, x2, x48, x102000, x102001 => if x48 = true then (some 0) else ((impl_CountLoops.f k x102000 x102001 x1).bind fun t105 => (if t105 > 0 then (some 0) else ((impl_CountCells.f x102000 x102001).bind fun t106 => (if 0 ≤ t106 then (if (t106 : Int).toNat ≤ 35184372088832 then ((some (List.replicate (t106 : Int).toNat 0 : List Int)).bind fun y107 => (impl_CountFixed.l0 k x1 x2 y107 0 (y107.length : Int) 0 x102000 x102001 x102000 x102001 x1)) else (none)) else (none)))))
def impl_CountFixed.l0 : Nat → Int → Int → List Int → Int → Int → Int → Int → Int → Int → Int → Int → Option (Int)
  | 0, _, _, _, _, _, _, _, _, _, _, _ => none
  | k + 1, x1, x2, x9, x10, x59, x60, x102000, x102001, x105000, x105001, x105002 => if x60 < x59 then ((impl_Reached.f k x105000 x105001 x105002 x60).bind fun t110 => (if 0 < (t110.length : Int) then (if (rd t110 0) < x60 then (if 0 ≤ (rd t110 0) then (if (rd t110 0) < (x9.length : Int) then (if 0 ≤ x60 then (if x60 < (x9.length : Int) then (impl_CountFixed.l0 k x1 x2 (x9.set (x60 : Int).toNat (rd x9 (rd t110 0))) x10 x59 (wrap64 (x60 + 1)) x102000 x102001 x105000 x105001 x105002) else (none)) else (none)) else (none)) else (none)) else (if 0 ≤ x60 then (if x60 < (x9.length : Int) then (impl_CountFixed.l0 k x1 x2 (x9.set (x60 : Int).toNat x10) (wrap64 (x10 + 1)) x59 (wrap64 (x60 + 1)) x102000 x102001 x105000 x105001 x105002) else (none)) else (none))) else (none))) else (if 0 ≤ x10 then (if (x10 : Int).toNat ≤ 11728124029610 then ((some (List.replicate (x10 : Int).toNat [] : List (List Int))).bind fun y117 => (impl_CountFixed.l1 k x1 x2 x9 x10 y117 (y117.length : Int) 0 x102000 x102001)) else (none)) else (none))
def impl_CountFixed.l1 : Nat → Int → Int → List Int → Int → List (List Int) → Int → Int → Int → Int → Option (Int)
  | 0, _, _, _, _, _, _, _, _, _ => none
  | k + 1, x1, x2, x9, x10, x13, x88, x89, x102000, x102001 => if x89 < x88 then (if 0 ≤ x10 then (if (x10 : Int).toNat ≤ 35184372088832 then (if 0 ≤ x89 then (if x89 < (x13.length : Int) then (impl_CountFixed.l1 k x1 x2 x9 x10 (x13.set (x89 : Int).toNat (List.replicate (x10 : Int).toNat 0)) x88 (wrap64 (x89 + 1)) x102000 x102001) else (none)) else (none)) else (none)) else (none)) else (impl_CountFixed.l2 k x1 x2 x9 x13 0 x102000 x102001)
def impl_CountFixed.l2 : Nat → Int → Int → List Int → List (List Int) → Int → Int → Int → Option (Int)
  | 0, _, _, _, _, _, _, _ => none
  | k + 1, x1, x2, x9, x13, x15, x102000, x102001 => (impl_CountGaps.f x102000 x102001).bind fun t124 => (if x15 < t124 then (if 0 ≤ x15 then (if (Go.bits .and .i64 (shr .i64 (Go.bits .or .i64 x1 x2) x15) 1) = 1 then (impl_CountFixed.l2 k x1 x2 x9 x13 (wrap64 (x15 + 1)) x102000 x102001) else ((impl_EndsOf.f x102000 x102001 x15).bind fun bt125 => (if 0 ≤ bt125.1 then (if bt125.1 < (x9.length : Int) then (if 0 ≤ bt125.2 then (if bt125.2 < (x9.length : Int) then (if 0 ≤ (rd x9 bt125.1) then (if (rd x9 bt125.1) < (x13.length : Int) then (if (rd x9 bt125.1) < ((rd_L2 x13 (rd x9 bt125.1)).length : Int) then ((some (x13.set ((rd x9 bt125.1) : Int).toNat ((rd_L2 x13 (rd x9 bt125.1)).set ((rd x9 bt125.1) : Int).toNat (wrap64 ((rd (rd_L2 x13 (rd x9 bt125.1)) (rd x9 bt125.1)) + 1))) : List (List Int))).bind fun y133 => (if 0 ≤ (rd x9 bt125.2) then (if (rd x9 bt125.2) < (x13.length : Int) then (if (rd x9 bt125.2) < ((rd_L2 y133 (rd x9 bt125.2)).length : Int) then ((some (y133.set ((rd x9 bt125.2) : Int).toNat ((rd_L2 y133 (rd x9 bt125.2)).set ((rd x9 bt125.2) : Int).toNat (wrap64 ((rd (rd_L2 y133 (rd x9 bt125.2)) (rd x9 bt125.2)) + 1))) : List (List Int))).bind fun y138 => (if (rd x9 bt125.2) < ((rd_L2 y138 (rd x9 bt125.1)).length : Int) then ((some (y138.set ((rd x9 bt125.1) : Int).toNat ((rd_L2 y138 (rd x9 bt125.1)).set ((rd x9 bt125.2) : Int).toNat (wrap64 ((rd (rd_L2 y138 (rd x9 bt125.1)) (rd x9 bt125.2)) - 1))) : List (List Int))).bind fun y143 => (if (rd x9 bt125.1) < ((rd_L2 y143 (rd x9 bt125.2)).length : Int) then (impl_CountFixed.l2 k x1 x2 x9 (y143.set ((rd x9 bt125.2) : Int).toNat ((rd_L2 y143 (rd x9 bt125.2)).set ((rd x9 bt125.1) : Int).toNat (wrap64 ((rd (rd_L2 y143 (rd x9 bt125.2)) (rd x9 bt125.1)) - 1)))) (wrap64 (x15 + 1)) x102000 x102001) else (none))) else (none))) else (none)) else (none)) else (none))) else (none)) else (none)) else (none)) else (none)) else (none)) else (none)) else (none)))) else (none)) else ((impl_without.f k x13 0).bind fun t149 => ((impl_determinant.f k t149).bind fun t152 => (some t152))))
end
def impl_CountFixed.f (k : Nat) (a0_0 : Int) (a0_1 : Int) (a1 : Int) (a2 : Int) : Option (Int) := (impl_CountGaps.f a0_0 a0_1).bind fun t102 => (if 0 ≤ t102 then ((impl_GridOk.f a0_0 a0_1).bind fun t103 => (if t103 = true then (if a1 < 0 then (impl_CountFixed.j0 k a1 a2 true a0_0 a0_1) else (if a1 > (wrap64 ((shl .i64 1 t102) - 1)) then (impl_CountFixed.j0 k a1 a2 true a0_0 a0_1) else (if a2 < 0 then (impl_CountFixed.j0 k a1 a2 true a0_0 a0_1) else (if a2 > (wrap64 ((shl .i64 1 t102) - 1)) then (impl_CountFixed.j0 k a1 a2 true a0_0 a0_1) else (impl_CountFixed.j0 k a1 a2 ((Go.bits .and .i64 a1 a2) != 0) a0_0 a0_1))))) else (impl_CountFixed.j0 k a1 a2 true a0_0 a0_1))) else (none))
theorem cell_at {w W : World} {n : Nat} (h : World.drewN w n = W) {p : Addr} {v : Option Value} (hc : w.cell? p = v) : W.cell? p = v := by subst h; exact hc
set_option maxHeartbeats 8000000 in
set_option maxRecDepth 100000 in
theorem impl_CountFixed.calls (k : Nat) (a0_0 : Int) (a0_1 : Int) (a1 : Int) (a2 : Int) (r : Int) (w : World) (h : impl_CountFixed.f k a0_0 a0_1 a1 a2 = some r) :
    Calls Try.prog 34 #[.agg #[.int .i64 a0_0, .int .i64 a0_1], .int .i64 a1, .int .i64 a2] w fun e w' => e = .returned (.int .i64 r) ∧ Below w.heap.size w w' := by
  have hu40 := Try.underlying40
  have hu42 := Try.underlying42
  have HB := Aside0.mk (Below.refl w.heap.size w)
  have H : ((impl_CountGaps.f a0_0 a0_1).bind fun t102 => (if 0 ≤ t102 then ((impl_GridOk.f a0_0 a0_1).bind fun t103 => (if t103 = true then (if a1 < 0 then (impl_CountFixed.j0 k a1 a2 true a0_0 a0_1) else (if a1 > (wrap64 ((shl .i64 1 t102) - 1)) then (impl_CountFixed.j0 k a1 a2 true a0_0 a0_1) else (if a2 < 0 then (impl_CountFixed.j0 k a1 a2 true a0_0 a0_1) else (if a2 > (wrap64 ((shl .i64 1 t102) - 1)) then (impl_CountFixed.j0 k a1 a2 true a0_0 a0_1) else (impl_CountFixed.j0 k a1 a2 ((Go.bits .and .i64 a1 a2) != 0) a0_0 a0_1))))) else (impl_CountFixed.j0 k a1 a2 true a0_0 a0_1))) else (none))) = some r := h
  clear h
  obtain ⟨t102, A40, H⟩ := Option.bind_eq_some_iff.mp H
  (try dsimp only at H); have A4 := Aside0.mk A40; clear A40
  replace H := iN_ H; obtain ⟨c5, H⟩ := H
  have c5b0 := eq_true c5
  have c5b1 : decide (0 ≤ t102) = true := decide_eq_true c5
  clear c5
  obtain ⟨ji6, hji6⟩ : ∃ j_ : Int, (shl .i64 1 t102) = j_ := ⟨_, rfl⟩
  replace H : ((impl_GridOk.f a0_0 a0_1).bind fun t103 => (if t103 = true then (if a1 < 0 then (impl_CountFixed.j0 k a1 a2 true a0_0 a0_1) else (if a1 > (wrap64 ((ji6) - 1)) then (impl_CountFixed.j0 k a1 a2 true a0_0 a0_1) else (if a2 < 0 then (impl_CountFixed.j0 k a1 a2 true a0_0 a0_1) else (if a2 > (wrap64 ((ji6) - 1)) then (impl_CountFixed.j0 k a1 a2 true a0_0 a0_1) else (impl_CountFixed.j0 k a1 a2 ((Go.bits .and .i64 a1 a2) != 0) a0_0 a0_1))))) else (impl_CountFixed.j0 k a1 a2 true a0_0 a0_1))) = some r := by (rw [hji6] at H; exact H)
  (try rw [hji6] at A4)
  have hji6_ : (IntKind.i64.wrap (1 * 2 ^ min t102.toNat 64)) = ji6 := hji6
  have hji6z : t102 ≤ 64 → (IntKind.i64.wrap (1 * 2 ^ t102.toNat)) = ji6 := shl_small hji6
  have hji6u : (IntKind.i64.wrap (2 ^ min t102.toNat 64)) = ji6 := by have h_ := hji6_; rw [Int.one_mul] at h_; exact h_
  have hji6v : t102 ≤ 64 → (IntKind.i64.wrap (2 ^ t102.toNat)) = ji6 := fun hle_ => by have h_ := hji6z hle_; rw [Int.one_mul] at h_; exact h_
  have hji6y : (wrap64 (1 * 2 ^ min t102.toNat 64)) = ji6 := (i64_w _).symm.trans hji6_
  have hji6x : t102 ≤ 64 → (wrap64 (1 * 2 ^ t102.toNat)) = ji6 := fun h_ => (i64_w _).symm.trans (hji6z h_)
  have HC7 := Aside0.mk H
  clear H
  go_enter Try.func34, Try.ntmps34
  go_upto_region 2 with (first | ((with_reducible refine gate_dst (N := 3) rfl ?_); refine box_event ?hg (N := 3) ?hd (cs := #[.int .i64 a0_0, .int .i64 a0_1]) (t := 40) ?hr ?_; (case hd => rfl); (case hg => rfl); (case hr => (go_simp; done)); intro gb101 hg w8 hbox hb; have n0_ := Aside0.mk (below_step HB.out hb); have n1_ := Aside0.mk (hbox); have n2_ := Aside0.mk ((by rw [hg]; exact (below_size HB.out) : w.heap.size ≤ gb101)); have n3_ := Aside0.mk ((by rw [hg]; exact (below_size HB.out) : w.heap.size ≤ gb101)); clear HB; have HB := n0_; have BK101 := n1_; have GW101 := n2_; have GE101 := n3_; clear n0_ n1_ n2_ n3_; clear hb hbox hg; obtain ⟨hcz9_0, hcz9_1⟩ := kk2_ BK101.1; have hfz9_0 := blk_frozen BK101.out 0; have hfz9_1 := blk_frozen BK101.out 1) | (go_at_call 78; (with_reducible refine (impl_CountGaps.calls a0_0 a0_1 t102 _ A4.out).mono ?_); rintro e w10 ⟨rfl, hb⟩; have n0_ := Aside0.mk (blk_below (g := gb101) (o := .cells #[.int .i64 a0_0, .int .i64 a0_1] 40 (0, 0)) BK101.out hb); have n1_ := Aside0.mk (below_step HB.out hb); clear BK101; clear HB; have BK101 := n0_; have HB := n1_; clear n0_ n1_; (try clear hb); (try clear hb2); (try clear hk); (try clear hi)))
  repeat (go_quiet (fail); go_upto_region 2 with (fail))
  (try simp only [Act.put, List.setIfInBounds_toArray, List.set_cons_zero, List.set_cons_succ])
  go_cut [48] (fun v48 wc => ∃ (kq : Nat) (x48_6 : Bool), v48 = .bool x48_6 ∧ Aside0 (impl_CountFixed.j0 kq a1 a2 x48_6 a0_0 a0_1 = some r) ∧ Aside0 (kq ≤ k) ∧ Aside0 (wc.heap[gb101]? = some (.cells #[.int .i64 a0_0, .int .i64 a0_1] 40 (0, 0))) ∧ Aside0 (Below w.heap.size w wc))
  case first =>
    have H := HC7.out
    clear HC7
    obtain ⟨t103, A110, H⟩ := Option.bind_eq_some_iff.mp H
    (try dsimp only at H); have A11 := Aside0.mk A110; clear A110
    by_cases c12 : t103 = true
    · subst c12
      rw [if_pos rfl] at H
      by_cases c13 : a1 < 0
      · rw [if_pos c13] at H
        have c13b0 : decide (a1 < 0) = true := decide_eq_true c13
        clear c13
        (skip)
        have H' := Aside0.mk H
        clear H
        obtain ⟨hcz14_0, hcz14_1⟩ := kk2_ BK101.1
        have hfz14_0 := blk_frozen BK101.out 0
        have hfz14_1 := blk_frozen BK101.out 1
        go_wp2_with ((go_at_call 79; (with_reducible refine (impl_GridOk.calls a0_0 a0_1 true _ A11.out).mono ?_); rintro e w15 ⟨rfl, hb⟩; have n0_ := Aside0.mk (blk_below (g := gb101) (o := .cells #[.int .i64 a0_0, .int .i64 a0_1] 40 (0, 0)) BK101.out hb); have n1_ := Aside0.mk (below_step HB.out hb); clear BK101; clear HB; have BK101 := n0_; have HB := n1_; clear n0_ n1_; (try clear hb); (try clear hb2); (try clear hk); (try clear hi)))
        repeat (go_quiet (fail); try go_wp2_with (fail))
        go_meet
        case rel => exact ⟨_, (true), (by rfl), H', ⟨by omega⟩, ⟨by exact BK101.out⟩, ⟨by repeat ((with_reducible exact HB.out))⟩⟩
      · rw [if_neg c13] at H
        have c13b0 : decide (a1 < 0) = false := decide_eq_false c13
        clear c13
        (skip)
        by_cases c16 : a1 > (wrap64 ((ji6) - 1))
        · rw [if_pos c16] at H
          have c16b0 : decide ((wrap64 ((ji6) - 1)) < a1) = true := decide_eq_true c16
          clear c16
          have H' := Aside0.mk H
          clear H
          obtain ⟨hcz17_0, hcz17_1⟩ := kk2_ BK101.1
          have hfz17_0 := blk_frozen BK101.out 0
          have hfz17_1 := blk_frozen BK101.out 1
          go_wp2_with ((go_at_call 79; (with_reducible refine (impl_GridOk.calls a0_0 a0_1 true _ A11.out).mono ?_); rintro e w18 ⟨rfl, hb⟩; have n0_ := Aside0.mk (blk_below (g := gb101) (o := .cells #[.int .i64 a0_0, .int .i64 a0_1] 40 (0, 0)) BK101.out hb); have n1_ := Aside0.mk (below_step HB.out hb); clear BK101; clear HB; have BK101 := n0_; have HB := n1_; clear n0_ n1_; (try clear hb); (try clear hb2); (try clear hk); (try clear hi)))
          repeat (go_quiet (fail); try go_wp2_with (fail))
          go_meet
          case rel => exact ⟨_, (true), (by rfl), H', ⟨by omega⟩, ⟨by exact BK101.out⟩, ⟨by repeat ((with_reducible exact HB.out))⟩⟩
        · rw [if_neg c16] at H
          have c16b0 : decide ((wrap64 ((ji6) - 1)) < a1) = false := decide_eq_false c16
          clear c16
          by_cases c19 : a2 < 0
          · rw [if_pos c19] at H
            have c19b0 : decide (a2 < 0) = true := decide_eq_true c19
            clear c19
            have H' := Aside0.mk H
            clear H
            obtain ⟨hcz20_0, hcz20_1⟩ := kk2_ BK101.1
            have hfz20_0 := blk_frozen BK101.out 0
            have hfz20_1 := blk_frozen BK101.out 1
            go_wp2_with ((go_at_call 79; (with_reducible refine (impl_GridOk.calls a0_0 a0_1 true _ A11.out).mono ?_); rintro e w21 ⟨rfl, hb⟩; have n0_ := Aside0.mk (blk_below (g := gb101) (o := .cells #[.int .i64 a0_0, .int .i64 a0_1] 40 (0, 0)) BK101.out hb); have n1_ := Aside0.mk (below_step HB.out hb); clear BK101; clear HB; have BK101 := n0_; have HB := n1_; clear n0_ n1_; (try clear hb); (try clear hb2); (try clear hk); (try clear hi)))
            repeat (go_quiet (fail); try go_wp2_with (fail))
            go_meet
            case rel => exact ⟨_, (true), (by rfl), H', ⟨by omega⟩, ⟨by exact BK101.out⟩, ⟨by repeat ((with_reducible exact HB.out))⟩⟩
          · rw [if_neg c19] at H
            have c19b0 : decide (a2 < 0) = false := decide_eq_false c19
            clear c19
            by_cases c22 : a2 > (wrap64 ((ji6) - 1))
            · rw [if_pos c22] at H
              have c22b0 : decide ((wrap64 ((ji6) - 1)) < a2) = true := decide_eq_true c22
              clear c22
              have H' := Aside0.mk H
              clear H
              obtain ⟨hcz23_0, hcz23_1⟩ := kk2_ BK101.1
              have hfz23_0 := blk_frozen BK101.out 0
              have hfz23_1 := blk_frozen BK101.out 1
              go_wp2_with ((go_at_call 79; (with_reducible refine (impl_GridOk.calls a0_0 a0_1 true _ A11.out).mono ?_); rintro e w24 ⟨rfl, hb⟩; have n0_ := Aside0.mk (blk_below (g := gb101) (o := .cells #[.int .i64 a0_0, .int .i64 a0_1] 40 (0, 0)) BK101.out hb); have n1_ := Aside0.mk (below_step HB.out hb); clear BK101; clear HB; have BK101 := n0_; have HB := n1_; clear n0_ n1_; (try clear hb); (try clear hb2); (try clear hk); (try clear hi)))
              repeat (go_quiet (fail); try go_wp2_with (fail))
              go_meet
              case rel => exact ⟨_, (true), (by rfl), H', ⟨by omega⟩, ⟨by exact BK101.out⟩, ⟨by repeat ((with_reducible exact HB.out))⟩⟩
            · rw [if_neg c22] at H
              have c22b0 : decide ((wrap64 ((ji6) - 1)) < a2) = false := decide_eq_false c22
              clear c22
              have H' := Aside0.mk H
              clear H
              obtain ⟨hcz25_0, hcz25_1⟩ := kk2_ BK101.1
              have hfz25_0 := blk_frozen BK101.out 0
              have hfz25_1 := blk_frozen BK101.out 1
              go_wp2_with ((go_at_call 79; (with_reducible refine (impl_GridOk.calls a0_0 a0_1 true _ A11.out).mono ?_); rintro e w26 ⟨rfl, hb⟩; have n0_ := Aside0.mk (blk_below (g := gb101) (o := .cells #[.int .i64 a0_0, .int .i64 a0_1] 40 (0, 0)) BK101.out hb); have n1_ := Aside0.mk (below_step HB.out hb); clear BK101; clear HB; have BK101 := n0_; have HB := n1_; clear n0_ n1_; (try clear hb); (try clear hb2); (try clear hk); (try clear hi)))
              repeat (go_quiet (fail); try go_wp2_with (fail))
              go_meet
              case rel => exact ⟨_, (((Go.bits .and .i64 a1 a2) != 0)), (by rfl), H', ⟨by omega⟩, ⟨by exact BK101.out⟩, ⟨by repeat ((with_reducible exact HB.out))⟩⟩
    · replace c12 := Bool.eq_false_iff.mpr c12
      subst c12
      have H1 : (impl_CountFixed.j0 k a1 a2 true a0_0 a0_1) = some r := by rw [if_neg (show ¬ (false = true) by decide)] at H; exact H
      clear H
      have H := H1
      clear H1
      have H' := Aside0.mk H
      clear H
      obtain ⟨hcz27_0, hcz27_1⟩ := kk2_ BK101.1
      have hfz27_0 := blk_frozen BK101.out 0
      have hfz27_1 := blk_frozen BK101.out 1
      go_wp2_with ((go_at_call 79; (with_reducible refine (impl_GridOk.calls a0_0 a0_1 false _ A11.out).mono ?_); rintro e w28 ⟨rfl, hb⟩; have n0_ := Aside0.mk (blk_below (g := gb101) (o := .cells #[.int .i64 a0_0, .int .i64 a0_1] 40 (0, 0)) BK101.out hb); have n1_ := Aside0.mk (below_step HB.out hb); clear BK101; clear HB; have BK101 := n0_; have HB := n1_; clear n0_ n1_; (try clear hb); (try clear hb2); (try clear hk); (try clear hi)))
      repeat (go_quiet (fail); try go_wp2_with (fail))
      go_meet
      case rel => exact ⟨_, (true), (by rfl), H', ⟨by omega⟩, ⟨by exact BK101.out⟩, ⟨by repeat ((with_reducible exact HB.out))⟩⟩
  case rest =>
    clear HC7; try clear c1; try clear c2; try clear p2; try clear c3; try clear c5; try clear c5b0; try clear c5b1; try clear p6; try clear c12; try clear c13; try clear c13b0; try clear c16; try clear c16b0; try clear c19; try clear c19b0; try clear c22; try clear c22b0; try clear hcz14_0; try clear hcz14_1; try clear hcz17_0; try clear hcz17_1; try clear hcz20_0; try clear hcz20_1; try clear hcz23_0; try clear hcz23_1; try clear hcz25_0; try clear hcz25_1; try clear hcz27_0; try clear hcz27_1; try clear hcz9_0; try clear hcz9_1; try clear hfz14_0; try clear hfz14_1; try clear hfz17_0; try clear hfz17_1; try clear hfz20_0; try clear hfz20_1; try clear hfz23_0; try clear hfz23_1; try clear hfz25_0; try clear hfz25_1; try clear hfz27_0; try clear hfz27_1; try clear hfz9_0; try clear hfz9_1
    obtain ⟨kq, x48_6, rfl, HA, HJ6, BK101, HB⟩ := hcut
    cases kq with
    | zero => exact absurd HA.out (by simp [impl_CountFixed.j0])
    | succ kj6 =>
      have H := HA.out
      clear HA
      simp only [impl_CountFixed.j0] at H
      by_cases c29 : x48_6 = true
      · subst c29
        rw [if_pos rfl] at H
        obtain rfl := Option.some.inj H
        go_wp2
        repeat (go_quiet (fail); try go_wp2)
        go_ret
        exact ⟨by rfl, by repeat ((with_reducible exact HB.out))⟩
      · replace c29 := Bool.eq_false_iff.mpr c29
        subst c29
        have H1 : ((impl_CountLoops.f kj6 a0_0 a0_1 a1).bind fun t105 => (if t105 > 0 then (some 0) else ((impl_CountCells.f a0_0 a0_1).bind fun t106 => (if 0 ≤ t106 then (if (t106 : Int).toNat ≤ 35184372088832 then ((some (List.replicate (t106 : Int).toNat 0 : List Int)).bind fun y107 => (impl_CountFixed.l0 kj6 a1 a2 y107 0 (y107.length : Int) 0 a0_0 a0_1 a0_0 a0_1 a1)) else (none)) else (none))))) = some r := by rw [if_neg (show ¬ (false = true) by decide)] at H; exact H
        clear H
        have H := H1
        clear H1
        obtain ⟨t105, A300, H⟩ := Option.bind_eq_some_iff.mp H
        (try dsimp only at H); have A30 := Aside0.mk A300; clear A300
        by_cases c31 : t105 > 0
        · rw [if_pos c31] at H
          have c31b0 : decide (0 < t105) = true := decide_eq_true c31
          clear c31
          obtain rfl := Option.some.inj H
          obtain ⟨hcz32_0, hcz32_1⟩ := kk2_ BK101.1
          have hfz32_0 := blk_frozen BK101.out 0
          have hfz32_1 := blk_frozen BK101.out 1
          go_wp2_with (first | ((with_reducible refine gate_dst (N := 8) rfl ?_); refine box_event ?hg (N := 8) ?hd (cs := #[.int .i64 0, .int .i64 0, .int .i64 0]) (t := 42) ?hr ?_; (case hd => rfl); (case hg => rfl); (case hr => (go_simp; done)); intro gb104 hg w33 hbox hb; have n0_ := Aside0.mk (blk_below (g := gb101) (o := .cells #[.int .i64 a0_0, .int .i64 a0_1] 40 (0, 0)) BK101.out hb); have n1_ := Aside0.mk (below_step HB.out hb); have n2_ := Aside0.mk (hbox); have n3_ := Aside0.mk ((by rw [hg]; exact (below_size HB.out) : w.heap.size ≤ gb104)); have n4_ := Aside0.mk ((by rw [hg]; exact (below_size HB.out) : w.heap.size ≤ gb104)); have n5_ := Aside0.mk ((by rw [hg]; exact Nat.ne_of_lt (blk_lt (g := gb101) (o := .cells #[.int .i64 a0_0, .int .i64 a0_1] 40 (0, 0)) BK101.out) : gb101 ≠ gb104)); have n6_ := Aside0.mk ((by rw [hg]; exact Nat.ne_of_gt (blk_lt (g := gb101) (o := .cells #[.int .i64 a0_0, .int .i64 a0_1] 40 (0, 0)) BK101.out) : gb104 ≠ gb101)); clear BK101; clear HB; have BK101 := n0_; have HB := n1_; have BK104 := n2_; have GW104 := n3_; have GE104 := n4_; have NB101_104 := n5_; have NB104_101 := n6_; clear n0_ n1_ n2_ n3_ n4_ n5_ n6_; clear hb hbox hg; have hnb34 := NB104_101.out; have hnc34 := NB101_104.out; obtain ⟨hcz35_0, hcz35_1, hcz35_2⟩ := kk3_ BK104.1; have hfz35_0 := blk_frozen BK104.out 0; have hfz35_1 := blk_frozen BK104.out 1; have hfz35_2 := blk_frozen BK104.out 2) | (go_at_call 80; (with_reducible refine (impl_CountLoops.calls kj6 a0_0 a0_1 a1 t105 _ A30.out).mono ?_); rintro e w36 ⟨rfl, hb⟩; have n0_ := Aside0.mk (blk_below (g := gb101) (o := .cells #[.int .i64 a0_0, .int .i64 a0_1] 40 (0, 0)) (by refine blk_far ?_ NB101_104.out _; refine blk_far ?_ NB101_104.out _; refine blk_far ?_ NB101_104.out _; exact BK101.out) hb); have n1_ := Aside0.mk (blk_below (g := gb104) (o := .cells #[.int .i64 a0_0, .int .i64 a0_1, .int .i64 a1] 42 (0, 0)) (by refine blk_put (cs := #[.int .i64 a0_0, .int .i64 a0_1, .int .i64 0]) ?_ 2 _ rfl; refine blk_put (cs := #[.int .i64 a0_0, .int .i64 0, .int .i64 0]) ?_ 1 _ rfl; refine blk_put (cs := #[.int .i64 0, .int .i64 0, .int .i64 0]) ?_ 0 _ rfl; exact BK104.out) hb); have n2_ := Aside0.mk (below_step (by repeat ((with_reducible first | exact HB.out | refine below_set ?_ GE104.out))) hb); clear BK101; clear BK104; clear HB; have BK101 := n0_; have BK104 := n1_; have HB := n2_; clear n0_ n1_ n2_; (try clear hb); (try clear hb2); (try clear hk); (try clear hi)))
          repeat (go_quiet (fail); try go_wp2_with (fail))
          go_ret
          exact ⟨by rfl, by repeat ((with_reducible exact HB.out))⟩
        · rw [if_neg c31] at H
          have c31b0 : decide (0 < t105) = false := decide_eq_false c31
          clear c31
          obtain ⟨t106, A370, H⟩ := Option.bind_eq_some_iff.mp H
          (try dsimp only at H); have A37 := Aside0.mk A370; clear A370
          replace H := iN_ H; obtain ⟨c38, H⟩ := H
          have c38b0 := eq_true c38
          have c38b1 : decide (0 ≤ t106) = true := decide_eq_true c38
          clear c38
          replace H := iN_ H; obtain ⟨c39, H⟩ := H
          have c39b0 := eq_true c39
          have c39b1 : decide ((t106 : Int).toNat ≤ 35184372088832) = true := decide_eq_true c39
          clear c39
          obtain ⟨y107, hy107⟩ : ∃ y_ : List Int, y_ = (List.replicate (t106 : Int).toNat 0) := ⟨_, rfl⟩
          replace H : (impl_CountFixed.l0 kj6 a1 a2 y107 0 (y107.length : Int) 0 a0_0 a0_1 a0_0 a0_1 a1) = some r := by (have H2_ := (Option.bind_some _ _).symm.trans H; rw [hy107]; with_reducible exact H2_)
          have Ny107 := Aside0.mk hy107
          clear hy107
          have H' := Aside0.mk H
          clear H
          obtain ⟨hcz40_0, hcz40_1⟩ := kk2_ BK101.1
          have hfz40_0 := blk_frozen BK101.out 0
          have hfz40_1 := blk_frozen BK101.out 1
          go_wp2_with (first | ((with_reducible refine gate_dst (N := 8) rfl ?_); refine box_event ?hg (N := 8) ?hd (cs := #[.int .i64 0, .int .i64 0, .int .i64 0]) (t := 42) ?hr ?_; (case hd => rfl); (case hg => rfl); (case hr => (go_simp; done)); intro gb104 hg w41 hbox hb; have n0_ := Aside0.mk (blk_below (g := gb101) (o := .cells #[.int .i64 a0_0, .int .i64 a0_1] 40 (0, 0)) BK101.out hb); have n1_ := Aside0.mk (below_step HB.out hb); have n2_ := Aside0.mk (hbox); have n3_ := Aside0.mk ((by rw [hg]; exact (below_size HB.out) : w.heap.size ≤ gb104)); have n4_ := Aside0.mk ((by rw [hg]; exact (below_size HB.out) : w.heap.size ≤ gb104)); have n5_ := Aside0.mk ((by rw [hg]; exact Nat.ne_of_lt (blk_lt (g := gb101) (o := .cells #[.int .i64 a0_0, .int .i64 a0_1] 40 (0, 0)) BK101.out) : gb101 ≠ gb104)); have n6_ := Aside0.mk ((by rw [hg]; exact Nat.ne_of_gt (blk_lt (g := gb101) (o := .cells #[.int .i64 a0_0, .int .i64 a0_1] 40 (0, 0)) BK101.out) : gb104 ≠ gb101)); clear BK101; clear HB; have BK101 := n0_; have HB := n1_; have BK104 := n2_; have GW104 := n3_; have GE104 := n4_; have NB101_104 := n5_; have NB104_101 := n6_; clear n0_ n1_ n2_ n3_ n4_ n5_ n6_; clear hb hbox hg; have hnb42 := NB104_101.out; have hnc42 := NB101_104.out; obtain ⟨hcz43_0, hcz43_1, hcz43_2⟩ := kk3_ BK104.1; have hfz43_0 := blk_frozen BK104.out 0; have hfz43_1 := blk_frozen BK104.out 1; have hfz43_2 := blk_frozen BK104.out 2) | (go_at_call 80; (with_reducible refine (impl_CountLoops.calls kj6 a0_0 a0_1 a1 t105 _ A30.out).mono ?_); rintro e w44 ⟨rfl, hb⟩; have n0_ := Aside0.mk (blk_below (g := gb101) (o := .cells #[.int .i64 a0_0, .int .i64 a0_1] 40 (0, 0)) (by refine blk_far ?_ NB101_104.out _; refine blk_far ?_ NB101_104.out _; refine blk_far ?_ NB101_104.out _; exact BK101.out) hb); have n1_ := Aside0.mk (blk_below (g := gb104) (o := .cells #[.int .i64 a0_0, .int .i64 a0_1, .int .i64 a1] 42 (0, 0)) (by refine blk_put (cs := #[.int .i64 a0_0, .int .i64 a0_1, .int .i64 0]) ?_ 2 _ rfl; refine blk_put (cs := #[.int .i64 a0_0, .int .i64 0, .int .i64 0]) ?_ 1 _ rfl; refine blk_put (cs := #[.int .i64 0, .int .i64 0, .int .i64 0]) ?_ 0 _ rfl; exact BK104.out) hb); have n2_ := Aside0.mk (below_step (by repeat ((with_reducible first | exact HB.out | refine below_set ?_ GE104.out))) hb); clear BK101; clear BK104; clear HB; have BK101 := n0_; have BK104 := n1_; have HB := n2_; clear n0_ n1_ n2_; (try clear hb); (try clear hb2); (try clear hk); (try clear hi); obtain ⟨hcz45_0, hcz45_1⟩ := kk2_ BK101.1; have hfz45_0 := blk_frozen BK101.out 0; have hfz45_1 := blk_frozen BK101.out 1) | (go_at_call 70; (with_reducible refine (impl_CountCells.calls a0_0 a0_1 t106 _ A37.out).mono ?_); rintro e w46 ⟨rfl, hb⟩; have n0_ := Aside0.mk (blk_below (g := gb101) (o := .cells #[.int .i64 a0_0, .int .i64 a0_1] 40 (0, 0)) BK101.out hb); have n1_ := Aside0.mk (blk_below (g := gb104) (o := .cells #[.int .i64 a0_0, .int .i64 a0_1, .int .i64 a1] 42 (0, 0)) BK104.out hb); have n2_ := Aside0.mk (below_step HB.out hb); clear BK101; clear BK104; clear HB; have BK101 := n0_; have BK104 := n1_; have HB := n2_; clear n0_ n1_ n2_; (try clear hb); (try clear hb2); (try clear hk); (try clear hi)) | ((with_reducible refine gate_dst (N := 57) rfl ?_); refine Kd.R_make (Kd.int .i64) _ 3 rfl (N := 57) rfl 29 _ _ rfl t106 rfl rfl Try.underlying29 (.int .i64 0) 8 info3 rfl (by decide) (by omega) 0 (ok := fun _ => True) (okp := fun _ => True) rfl (fun _ hk => hk) trivial (of_decide_eq_true (by with_reducible assumption)) (Nat.le_trans (Nat.mul_le_mul_right _ (of_decide_eq_true (by with_reducible assumption) : t106.toNat ≤ 35184372088832)) (by omega)) (Below.refl _ _) (Nat.le_refl _) ?_; intro v108 w47 ho48 hb hg_ hnew_; clear hg_ hnew_; (rw [← Ny107.out] at ho48); have n0_ := Aside0.mk (Kd.R_lower ho48 (below_size HB.out)); have n1_ := Aside0.mk (blk_below (g := gb101) (o := .cells #[.int .i64 a0_0, .int .i64 a0_1] 40 (0, 0)) BK101.out hb); have n2_ := Aside0.mk (blk_below (g := gb104) (o := .cells #[.int .i64 a0_0, .int .i64 a0_1, .int .i64 a1] 42 (0, 0)) BK104.out hb); have n3_ := Aside0.mk (below_step HB.out hb); clear BK101; clear BK104; clear HB; have HO109 := n0_; have BK101 := n1_; have BK104 := n2_; have HB := n3_; clear n0_ n1_ n2_ n3_; clear hb ho48; obtain ⟨Ao49, co49, eo49⟩ := Kd.R_slice HO109.out; subst eo49))
          repeat (go_quiet (fail); try go_wp2_with (fail))
          go_loopg [10, 60] kj6 (fun kq v10 v60 w' => ∃ (x9_2 : List Int) (x10_2 : Int) (x60_2 : Int), v10 = .int .i64 x10_2 ∧ v60 = .int .i64 x60_2 ∧ Aside0 (impl_CountFixed.l0 kq a1 a2 x9_2 x10_2 (y107.length : Int) x60_2 a0_0 a0_1 a0_0 a0_1 a1 = some r) ∧ Aside0 (kq ≤ kj6) ∧ Aside0 (Kd.R (Kd.int .i64) 3 w' w.heap.size (fun _ => True) (.slice Ao49 y107.length co49) x9_2) ∧ Aside0 (w'.heap[gb101]? = some (.cells #[.int .i64 a0_0, .int .i64 a0_1] 40 (0, 0))) ∧ Aside0 (w'.heap[gb104]? = some (.cells #[.int .i64 a0_0, .int .i64 a0_1, .int .i64 a1] 42 (0, 0))) ∧ Aside0 (Below w.heap.size w w'))
          case atStart => exact ⟨(y107), (0), (0), (by rfl), (by rfl), H', ⟨Nat.le_refl _⟩, ⟨by exact HO109.out⟩, ⟨by exact BK101.out⟩, ⟨by exact BK104.out⟩, ⟨by repeat ((with_reducible exact HB.out))⟩⟩
          case round =>
            clear H'; try clear c1; try clear c2; try clear p2; try clear c3; try clear c4; try clear c5; try clear c5b0; try clear c5b1; try clear p6; try clear c12; try clear c13; try clear c13b0; try clear c16; try clear c16b0; try clear c19; try clear c19b0; try clear c22; try clear c22b0; try clear c29; try clear c31; try clear c31b0; try clear c34; try clear c38; try clear c38b0; try clear c38b1; try clear c39; try clear c39b0; try clear c39b1; try clear c42; try clear hcz14_0; try clear hcz14_1; try clear hcz17_0; try clear hcz17_1; try clear hcz20_0; try clear hcz20_1; try clear hcz23_0; try clear hcz23_1; try clear hcz25_0; try clear hcz25_1; try clear hcz27_0; try clear hcz27_1; try clear hcz32_0; try clear hcz32_1; try clear hcz35_0; try clear hcz35_1; try clear hcz35_2; try clear hcz40_0; try clear hcz40_1; try clear hcz43_0; try clear hcz43_1; try clear hcz43_2; try clear hcz45_0; try clear hcz45_1; try clear hcz9_0; try clear hcz9_1; try clear hfz14_0; try clear hfz14_1; try clear hfz17_0; try clear hfz17_1; try clear hfz20_0; try clear hfz20_1; try clear hfz23_0; try clear hfz23_1; try clear hfz25_0; try clear hfz25_1; try clear hfz27_0; try clear hfz27_1; try clear hfz32_0; try clear hfz32_1; try clear hfz35_0; try clear hfz35_1; try clear hfz35_2; try clear hfz40_0; try clear hfz40_1; try clear hfz43_0; try clear hfz43_1; try clear hfz43_2; try clear hfz45_0; try clear hfz45_1; try clear hfz9_0; try clear hfz9_1; try clear p2; try clear p6
            obtain ⟨x9_2, x10_2, x60_2, rfl, rfl, HA, HK2, HO_9, BK101, BK104, HB⟩ := hrel
            have hl9_2 := (Kd.R_reads' HO_9.out).1
            rw [hl9_2] at HO_9
            (try simp only [hl9_2])
            (try simp only [hl9_2] at BK101)
            (try simp only [hl9_2] at BK104)
            cases gk with
            | zero => exact absurd HA.out (by simp [impl_CountFixed.l0])
            | succ k2 =>
              have H := HA.out
              clear HA
              simp only [impl_CountFixed.l0] at H
              by_cases c50 : x60_2 < (y107.length : Int)
              · rw [if_pos c50] at H
                have c50b0 : decide (x60_2 < (y107.length : Int)) = true := decide_eq_true c50
                (try (have c50b0z_hl13_3 := c50b0; rw [hl13_3] at c50b0z_hl13_3))
                (try (have c50b0z_hl13_4 := c50b0; rw [hl13_4] at c50b0z_hl13_4))
                (try (have c50b0z_hl9_2 := c50b0; rw [hl9_2] at c50b0z_hl9_2))
                (try (have c50b0z_hl9_4 := c50b0; rw [hl9_4] at c50b0z_hl9_4))
                clear c50
                obtain ⟨t110, A510, H⟩ := Option.bind_eq_some_iff.mp H
                (try dsimp only at H); have A51 := Aside0.mk A510; clear A510
                replace H := iN_ H; obtain ⟨c52, H⟩ := H
                have c52b0 : decide (0 < (t110.length : Int)) = true := decide_eq_true c52
                have c52b1 : decide (0 < t110.length) = true := decide_eq_true (by omega)
                clear c52
                by_cases c53 : (rd t110 0) < x60_2
                · rw [if_pos c53] at H
                  have c53b0 : decide ((rd t110 0) < x60_2) = true := decide_eq_true c53
                  clear c53
                  replace H := iN_ H; obtain ⟨c54, H⟩ := H
                  have c54b0 : decide (0 ≤ (rd t110 0)) = true := decide_eq_true c54
                  clear c54
                  replace H := iN_ H; obtain ⟨c55, H⟩ := H
                  have c55b0 : decide ((rd t110 0) < (x9_2.length : Int)) = true := decide_eq_true c55
                  clear c55
                  replace H := iN_ H; obtain ⟨c56, H⟩ := H
                  have c56b0 : decide (0 ≤ x60_2) = true := decide_eq_true c56
                  clear c56
                  replace H := iN_ H; obtain ⟨c57, H⟩ := H
                  have c57b0 : decide (x60_2 < (x9_2.length : Int)) = true := decide_eq_true c57
                  clear c57
                  obtain ⟨y115, hy115⟩ : ∃ y_ : List Int, y_ = (x9_2.set (x60_2 : Int).toNat (rd x9_2 (rd t110 0))) := ⟨_, rfl⟩
                  replace H : (impl_CountFixed.l0 k2 a1 a2 y115 x10_2 (y107.length : Int) (wrap64 (x60_2 + 1)) a0_0 a0_1 a0_0 a0_1 a1) = some r := by (rw [hy115]; with_reducible exact H)
                  have Ny115 := Aside0.mk hy115
                  clear hy115
                  have H' := Aside0.mk H
                  clear H
                  have hnb59 := NB104_101.out
                  have hnc59 := NB101_104.out
                  obtain ⟨hcz60_0, hcz60_1, hcz60_2⟩ := kk3_ BK104.1
                  have hfz60_0 := blk_frozen BK104.out 0
                  have hfz60_1 := blk_frozen BK104.out 1
                  have hfz60_2 := blk_frozen BK104.out 2
                  go_wp2_with (first | (go_at_call 81; (with_reducible refine (impl_Reached.calls k2 a0_0 a0_1 a1 x60_2 t110 _ A51.out).mono ?_); rintro e w61 ⟨v111, rfl, ho0, hb⟩; have n0_ := Aside0.mk (Kd.R_elder' HO_9.out (Kd.R_base ho0) hb); have n1_ := Aside0.mk (Kd.R_lower (Kd.R_new' ho0 (Kd.R_lt HO_9.out)) (below_size HB.out)); have n2_ := Aside0.mk (blk_below (g := gb101) (o := .cells #[.int .i64 a0_0, .int .i64 a0_1] 40 (0, 0)) BK101.out hb); have n3_ := Aside0.mk (blk_below (g := gb104) (o := .cells #[.int .i64 a0_0, .int .i64 a0_1, .int .i64 a1] 42 (0, 0)) BK104.out hb); have n4_ := Aside0.mk (below_step HB.out hb); clear HO_9; clear BK101; clear BK104; clear HB; have HO_9 := n0_; have HO112 := n1_; have BK101 := n2_; have BK104 := n3_; have HB := n4_; clear n0_ n1_ n2_ n3_ n4_; (try clear hb); (try clear hb2); (try clear hk); (try clear hi); (try clear ho0); obtain ⟨Ao62, co62, eo62⟩ := Kd.R_slice HO112.out; subst eo62; have p113 : 0 ≤ (0 : Int) := (by omega); have q113 : 0 < (t110.length : Int) := of_decide_eq_true (by with_reducible assumption); obtain ⟨ad113, e113, hx113_0⟩ := Kd.at_int (Kd.R_reads' HO112.out).2.2 0 p113 q113; cases e113; have qi113 : (0 < t110.length) = True := eq_true (by omega); (try rw [show ((0 : Int)).toNat = 0 from rfl] at hx113_0); (try rw [Addr.add_zero'] at hx113_0); replace p113 := eq_true p113; replace q113 := eq_true q113; have p114 : 0 ≤ ((rd t110 0) : Int) := of_decide_eq_true (by with_reducible assumption); have q114 : (rd t110 0) < (x9_2.length : Int) := of_decide_eq_true (by with_reducible assumption); obtain ⟨ad114, e114, hx114_0⟩ := Kd.at_int (Kd.R_reads' HO_9.out).2.2 (rd t110 0) p114 q114; cases e114; replace p114 := eq_true p114; replace q114 := eq_true q114; have p58 : 0 ≤ (x60_2 : Int) := of_decide_eq_true (by with_reducible assumption); have q58 : (x60_2 : Int) < ((x9_2.length : Int) : Int) := of_decide_eq_true (by with_reducible assumption); obtain ⟨go58, co58, eo58, gb58, gl58, cl58, HG58⟩ := Kd.R_form HO_9.out (by omega); (cases eo58); have GB58 := Aside0.mk gb58; have GG58 := Aside0.mk HG58; clear gb58 gl58 HG58; (simp only [add_plain] at hx114_0); obtain ⟨hx58_0, hf58_0⟩ := Kd.R_celln 0 HO_9.out (x60_2 : Int) p58 q58; replace p58 := eq_true p58; replace q58 := eq_true q58; have n_ := Aside0.mk (Kd.R_mono (ok' := (fun k_ => some k_ ≠ (.slice (some ad113) t110.length co62 : Value).ownBlock)) HO_9.out (fun k_ hk => hk.2)); clear HO_9; have HO_9 := n_; clear n_; obtain ⟨hy63_, hz63_⟩ := Kd.R_celln 0 HO_9.out (x60_2 : Int) (of_decide_eq_true (by with_reducible assumption)) (of_decide_eq_true (by with_reducible assumption)); have HP63 := Kd.R_putg HO_9.out (x60_2 : Int) (rd x9_2 (rd t110 0))) | ((with_reducible refine gate_store (t := 3) (p := 77) rfl ?_); (try (rw [drewN_self w61]; generalize hq_ : World.drewN w61 _ = w61; have n0_ := Aside0.mk (Kd.R_at hq_ HO_9.out); have n1_ := Aside0.mk (Kd.R_at hq_ HO112.out); have n2_ := Aside0.mk (blk_at hq_ BK101.out); have n3_ := Aside0.mk (blk_at hq_ BK104.out); have n4_ := Aside0.mk (below_at hq_ HB.out); clear hq_ HO_9 HO112 BK101 BK104 HB; have HO_9 := n0_; have HO112 := n1_; have BK101 := n2_; have BK104 := n3_; have HB := n4_; clear n0_ n1_ n2_ n3_ n4_; (try (have n_ := Aside0.mk (Kd.R_mono (ok' := (fun k_ => some k_ ≠ (.slice (some ad113) t110.length co62 : Value).ownBlock)) HO_9.out (fun k_ hk => hk.2)); clear HO_9; have HO_9 := n_; clear n_)); (try (obtain ⟨hy63_, hz63_⟩ := Kd.R_celln 0 HO_9.out (x60_2 : Int) (of_decide_eq_true (by fail)) (of_decide_eq_true (by fail)))); (try (have HP63 := Kd.R_putg HO_9.out (x60_2 : Int) (rd x9_2 (rd t110 0)))))); refine store_event (t := 3) (p := 77) (v := ?vo_w64) (w1 := (w61.setCell ⟨go58, (x60_2 : Int).toNat, none⟩ (.int .i64 (rd x9_2 (rd t110 0))))) ?hg ?ho ?hn ?hr ?_; (case ho => rfl); (case hg => rfl); (case hn => rfl); (case hr => (go_simp; done)); intro w64 hw; have hg : w61.grownBy w64 (some go58) := (by rw [hw]; exact HP63.2); have hp_ : Kd.R (Kd.int .i64) 3 w64 w.heap.size (fun k_ => some k_ ≠ (.slice (some ad113) t110.length co62 : Value).ownBlock) (.slice (some ⟨go58, 0, none⟩) x9_2.length co49) y115 := (by rw [hw, Ny115.out]; exact HP63.1); clear HP63; have n0_ := Aside0.mk (hp_); have n1_ := Aside0.mk (blk_grown (g := gb101) (o := .cells #[.int .i64 a0_0, .int .i64 a0_1] 40 (0, 0)) BK101.out hg (Kd.R_ne HO_9.out BK101.out (by decide))); have n2_ := Aside0.mk (blk_grown (g := gb104) (o := .cells #[.int .i64 a0_0, .int .i64 a0_1, .int .i64 a1] 42 (0, 0)) BK104.out hg (Kd.R_ne HO_9.out BK104.out (by decide))); have n3_ := Aside0.mk (Kd.R_after (v := (.slice (some ⟨go58, 0, none⟩) x9_2.length co49)) (v1 := (.slice (some ⟨go58, 0, none⟩) x9_2.length co49)) (ok := (fun _ => True)) HO112.out hg (.inl rfl)); have n4_ := Aside0.mk ((by rw [hw]; exact below_set (HB.out) GB58.out : Below w.heap.size w w64)); clear HO_9; clear BK101; clear BK104; clear HO112; clear HB; have HO_9 := n0_; have BK101 := n1_; have BK104 := n2_; have HO112 := n3_; have HB := n4_; clear n0_ n1_ n2_ n3_ n4_; clear hg hw hp_))
                  repeat (go_quiet (fail); try go_wp2_with (fail))
                  (try simp only [← hl9_2])
                  go_roundg k2
                  case measure => have := HJ6.out; have := HK2.out; omega
                  case rel => exact ⟨(y115), (x10_2), (wrap64 (x60_2 + 1)), (by rfl), (by rfl), H', ⟨by have := HJ6.out; have := HK2.out; omega⟩, ⟨by (try simp only [hl9_2]); exact Kd.R_mono HO_9.out (fun _ hk => trivial)⟩, ⟨by (try simp only [hl9_2]); exact BK101.out⟩, ⟨by (try simp only [hl9_2]); exact BK104.out⟩, ⟨by repeat ((with_reducible exact HB.out))⟩⟩
                · rw [if_neg c53] at H
                  have c53b0 : decide ((rd t110 0) < x60_2) = false := decide_eq_false c53
                  clear c53
                  replace H := iN_ H; obtain ⟨c65, H⟩ := H
                  have c65b0 : decide (0 ≤ x60_2) = true := decide_eq_true c65
                  clear c65
                  replace H := iN_ H; obtain ⟨c66, H⟩ := H
                  have c66b0 : decide (x60_2 < (x9_2.length : Int)) = true := decide_eq_true c66
                  clear c66
                  obtain ⟨y116, hy116⟩ : ∃ y_ : List Int, y_ = (x9_2.set (x60_2 : Int).toNat x10_2) := ⟨_, rfl⟩
                  replace H : (impl_CountFixed.l0 k2 a1 a2 y116 (wrap64 (x10_2 + 1)) (y107.length : Int) (wrap64 (x60_2 + 1)) a0_0 a0_1 a0_0 a0_1 a1) = some r := by (rw [hy116]; with_reducible exact H)
                  have Ny116 := Aside0.mk hy116
                  clear hy116
                  have H' := Aside0.mk H
                  clear H
                  have hnb68 := NB104_101.out
                  have hnc68 := NB101_104.out
                  obtain ⟨hcz69_0, hcz69_1, hcz69_2⟩ := kk3_ BK104.1
                  have hfz69_0 := blk_frozen BK104.out 0
                  have hfz69_1 := blk_frozen BK104.out 1
                  have hfz69_2 := blk_frozen BK104.out 2
                  go_wp2_with (first | (go_at_call 81; (with_reducible refine (impl_Reached.calls k2 a0_0 a0_1 a1 x60_2 t110 _ A51.out).mono ?_); rintro e w70 ⟨v111, rfl, ho0, hb⟩; have n0_ := Aside0.mk (Kd.R_elder' HO_9.out (Kd.R_base ho0) hb); have n1_ := Aside0.mk (Kd.R_lower (Kd.R_new' ho0 (Kd.R_lt HO_9.out)) (below_size HB.out)); have n2_ := Aside0.mk (blk_below (g := gb101) (o := .cells #[.int .i64 a0_0, .int .i64 a0_1] 40 (0, 0)) BK101.out hb); have n3_ := Aside0.mk (blk_below (g := gb104) (o := .cells #[.int .i64 a0_0, .int .i64 a0_1, .int .i64 a1] 42 (0, 0)) BK104.out hb); have n4_ := Aside0.mk (below_step HB.out hb); clear HO_9; clear BK101; clear BK104; clear HB; have HO_9 := n0_; have HO112 := n1_; have BK101 := n2_; have BK104 := n3_; have HB := n4_; clear n0_ n1_ n2_ n3_ n4_; (try clear hb); (try clear hb2); (try clear hk); (try clear hi); (try clear ho0); obtain ⟨Ao71, co71, eo71⟩ := Kd.R_slice HO112.out; subst eo71; have p113 : 0 ≤ (0 : Int) := (by omega); have q113 : 0 < (t110.length : Int) := of_decide_eq_true (by with_reducible assumption); obtain ⟨ad113, e113, hx113_0⟩ := Kd.at_int (Kd.R_reads' HO112.out).2.2 0 p113 q113; cases e113; have qi113 : (0 < t110.length) = True := eq_true (by omega); (try rw [show ((0 : Int)).toNat = 0 from rfl] at hx113_0); (try rw [Addr.add_zero'] at hx113_0); replace p113 := eq_true p113; replace q113 := eq_true q113; have p67 : 0 ≤ (x60_2 : Int) := of_decide_eq_true (by with_reducible assumption); have q67 : (x60_2 : Int) < ((x9_2.length : Int) : Int) := of_decide_eq_true (by with_reducible assumption); obtain ⟨go67, co67, eo67, gb67, gl67, cl67, HG67⟩ := Kd.R_form HO_9.out (by omega); (cases eo67); have GB67 := Aside0.mk gb67; have GG67 := Aside0.mk HG67; clear gb67 gl67 HG67; obtain ⟨hx67_0, hf67_0⟩ := Kd.R_celln 0 HO_9.out (x60_2 : Int) p67 q67; replace p67 := eq_true p67; replace q67 := eq_true q67; have n_ := Aside0.mk (Kd.R_mono (ok' := (fun k_ => some k_ ≠ (.slice (some ad113) t110.length co71 : Value).ownBlock)) HO_9.out (fun k_ hk => hk.2)); clear HO_9; have HO_9 := n_; clear n_; obtain ⟨hy72_, hz72_⟩ := Kd.R_celln 0 HO_9.out (x60_2 : Int) (of_decide_eq_true (by with_reducible assumption)) (of_decide_eq_true (by with_reducible assumption)); have HP72 := Kd.R_putg HO_9.out (x60_2 : Int) x10_2) | ((with_reducible refine gate_store (t := 3) (p := 81) rfl ?_); (try (rw [drewN_self w70]; generalize hq_ : World.drewN w70 _ = w70; have n0_ := Aside0.mk (Kd.R_at hq_ HO_9.out); have n1_ := Aside0.mk (Kd.R_at hq_ HO112.out); have n2_ := Aside0.mk (blk_at hq_ BK101.out); have n3_ := Aside0.mk (blk_at hq_ BK104.out); have n4_ := Aside0.mk (below_at hq_ HB.out); clear hq_ HO_9 HO112 BK101 BK104 HB; have HO_9 := n0_; have HO112 := n1_; have BK101 := n2_; have BK104 := n3_; have HB := n4_; clear n0_ n1_ n2_ n3_ n4_; (try (have n_ := Aside0.mk (Kd.R_mono (ok' := (fun k_ => some k_ ≠ (.slice (some ad113) t110.length co71 : Value).ownBlock)) HO_9.out (fun k_ hk => hk.2)); clear HO_9; have HO_9 := n_; clear n_)); (try (obtain ⟨hy72_, hz72_⟩ := Kd.R_celln 0 HO_9.out (x60_2 : Int) (of_decide_eq_true (by fail)) (of_decide_eq_true (by fail)))); (try (have HP72 := Kd.R_putg HO_9.out (x60_2 : Int) x10_2)))); refine store_event (t := 3) (p := 81) (v := ?vo_w73) (w1 := (w70.setCell ⟨go67, (x60_2 : Int).toNat, none⟩ (.int .i64 x10_2))) ?hg ?ho ?hn ?hr ?_; (case ho => rfl); (case hg => rfl); (case hn => rfl); (case hr => (go_simp; done)); intro w73 hw; have hg : w70.grownBy w73 (some go67) := (by rw [hw]; exact HP72.2); have hp_ : Kd.R (Kd.int .i64) 3 w73 w.heap.size (fun k_ => some k_ ≠ (.slice (some ad113) t110.length co71 : Value).ownBlock) (.slice (some ⟨go67, 0, none⟩) x9_2.length co49) y116 := (by rw [hw, Ny116.out]; exact HP72.1); clear HP72; have n0_ := Aside0.mk (hp_); have n1_ := Aside0.mk (blk_grown (g := gb101) (o := .cells #[.int .i64 a0_0, .int .i64 a0_1] 40 (0, 0)) BK101.out hg (Kd.R_ne HO_9.out BK101.out (by decide))); have n2_ := Aside0.mk (blk_grown (g := gb104) (o := .cells #[.int .i64 a0_0, .int .i64 a0_1, .int .i64 a1] 42 (0, 0)) BK104.out hg (Kd.R_ne HO_9.out BK104.out (by decide))); have n3_ := Aside0.mk (Kd.R_after (v := (.slice (some ⟨go67, 0, none⟩) x9_2.length co49)) (v1 := (.slice (some ⟨go67, 0, none⟩) x9_2.length co49)) (ok := (fun _ => True)) HO112.out hg (.inl rfl)); have n4_ := Aside0.mk ((by rw [hw]; exact below_set (HB.out) GB67.out : Below w.heap.size w w73)); clear HO_9; clear BK101; clear BK104; clear HO112; clear HB; have HO_9 := n0_; have BK101 := n1_; have BK104 := n2_; have HO112 := n3_; have HB := n4_; clear n0_ n1_ n2_ n3_ n4_; clear hg hw hp_))
                  repeat (go_quiet (fail); try go_wp2_with (fail))
                  (try simp only [← hl9_2])
                  go_roundg k2
                  case measure => have := HJ6.out; have := HK2.out; omega
                  case rel => exact ⟨(y116), (wrap64 (x10_2 + 1)), (wrap64 (x60_2 + 1)), (by rfl), (by rfl), H', ⟨by have := HJ6.out; have := HK2.out; omega⟩, ⟨by (try simp only [hl9_2]); exact Kd.R_mono HO_9.out (fun _ hk => trivial)⟩, ⟨by (try simp only [hl9_2]); exact BK101.out⟩, ⟨by (try simp only [hl9_2]); exact BK104.out⟩, ⟨by repeat ((with_reducible exact HB.out))⟩⟩
              · rw [if_neg c50] at H
                have c50b0 : decide (x60_2 < (y107.length : Int)) = false := decide_eq_false c50
                (try (have c50b0z_hl13_3 := c50b0; rw [hl13_3] at c50b0z_hl13_3))
                (try (have c50b0z_hl13_4 := c50b0; rw [hl13_4] at c50b0z_hl13_4))
                (try (have c50b0z_hl9_2 := c50b0; rw [hl9_2] at c50b0z_hl9_2))
                (try (have c50b0z_hl9_4 := c50b0; rw [hl9_4] at c50b0z_hl9_4))
                clear c50
                replace H := iN_ H; obtain ⟨c74, H⟩ := H
                have c74b0 := eq_true c74
                have c74b1 : decide (0 ≤ x10_2) = true := decide_eq_true c74
                clear c74
                replace H := iN_ H; obtain ⟨c75, H⟩ := H
                have c75b0 := eq_true c75
                have c75b1 : decide ((x10_2 : Int).toNat ≤ 11728124029610) = true := decide_eq_true c75
                clear c75
                obtain ⟨y117, hy117⟩ : ∃ y_ : List (List Int), y_ = (List.replicate (x10_2 : Int).toNat []) := ⟨_, rfl⟩
                replace H : (impl_CountFixed.l1 k2 a1 a2 x9_2 x10_2 y117 (y117.length : Int) 0 a0_0 a0_1) = some r := by (have H2_ := (Option.bind_some _ _).symm.trans H; rw [hy117]; with_reducible exact H2_)
                have Ny117 := Aside0.mk hy117
                clear hy117
                have H' := Aside0.mk H
                clear H
                go_wp2_with (((with_reducible refine gate_dst (N := 86) rfl ?_); refine Kd.S_make (Kd.slice 3 (Kd.int .i64)) _ 29 rfl (N := 86) rfl 24 _ _ rfl x10_2 rfl rfl Try.underlying24 (.slice none 0 0) 24 info29 rfl (by decide) (by omega) [] (ok := fun _ => True) (okp := fun _ => True) ⟨_, rfl, Kd.R_nil _ _ _ _ _⟩ (fun _ hk => hk) trivial (of_decide_eq_true (by with_reducible assumption)) (Nat.le_trans (Nat.mul_le_mul_right _ (of_decide_eq_true (by with_reducible assumption) : x10_2.toNat ≤ 11728124029610)) (by omega)) (Below.refl _ _) (Nat.le_refl _) ?_; intro v118 w76 ho77 hb hg_ hnew_; clear hg_ hnew_; (rw [← Ny117.out] at ho77); have n0_ := Aside0.mk (Kd.R_below HO_9.out hb); have n1_ := Aside0.mk (Kd.S_lower (Kd.S_new' ho77 (Kd.R_lt HO_9.out)) (below_size HB.out)); have n2_ := Aside0.mk (blk_below (g := gb101) (o := .cells #[.int .i64 a0_0, .int .i64 a0_1] 40 (0, 0)) BK101.out hb); have n3_ := Aside0.mk (blk_below (g := gb104) (o := .cells #[.int .i64 a0_0, .int .i64 a0_1, .int .i64 a1] 42 (0, 0)) BK104.out hb); have n4_ := Aside0.mk (below_step HB.out hb); clear HO_9; clear BK101; clear BK104; clear HB; have HO_9 := n0_; have HO119 := n1_; have BK101 := n2_; have BK104 := n3_; have HB := n4_; clear n0_ n1_ n2_ n3_ n4_; clear hb ho77; obtain ⟨Ao78, co78, eo78⟩ := Kd.S_slice HO119.out; subst eo78))
                repeat (go_quiet (fail); try go_wp2_with (fail))
                go_loopg [89] k2 (fun kq v89 w' => ∃ (x13_3 : List (List Int)) (x89_3 : Int), v89 = .int .i64 x89_3 ∧ Aside0 (impl_CountFixed.l1 kq a1 a2 x9_2 x10_2 x13_3 (y117.length : Int) x89_3 a0_0 a0_1 = some r) ∧ Aside0 (kq ≤ k2) ∧ Aside0 (Kd.R (Kd.int .i64) 3 w' w.heap.size (fun _ => True) (.slice Ao49 x9_2.length co49) x9_2) ∧ Aside0 (Kd.S (Kd.slice 3 (Kd.int .i64)) 29 w' w.heap.size (fun k_ => some k_ ≠ ((.slice Ao49 x9_2.length co49) : Value).ownBlock) (.slice Ao78 y117.length co78) x13_3) ∧ Aside0 (w'.heap[gb101]? = some (.cells #[.int .i64 a0_0, .int .i64 a0_1] 40 (0, 0))) ∧ Aside0 (w'.heap[gb104]? = some (.cells #[.int .i64 a0_0, .int .i64 a0_1, .int .i64 a1] 42 (0, 0))) ∧ Aside0 (Below w.heap.size w w'))
                case atStart => exact ⟨(y117), (0), (by rfl), H', ⟨Nat.le_refl _⟩, ⟨by (try simp only [hl9_2]); exact HO_9.out⟩, ⟨by (try simp only [hl9_2]); exact Kd.S_mono HO119.out (fun _ hk => hk.2)⟩, ⟨by (try simp only [hl9_2]); exact BK101.out⟩, ⟨by (try simp only [hl9_2]); exact BK104.out⟩, ⟨by repeat ((with_reducible exact HB.out))⟩⟩
                case round =>
                  clear H'; try clear c1; try clear p1; try clear q1; try clear hx1; try clear qi1; try clear c2; try clear p2; try clear c3; try clear c4; try clear c5; try clear c5b0; try clear c5b1; try clear p5; try clear q5; try clear hx5; try clear hf5; try clear c6; try clear p6; try clear q6; try clear hx6; try clear hf6; try clear c7; try clear p11; try clear q11; try clear hx11; try clear qi11; try clear c12; try clear c13; try clear c13b0; try clear c16; try clear c16b0; try clear c19; try clear c19b0; try clear c22; try clear c22b0; try clear c29; try clear c31; try clear c31b0; try clear c34; try clear c38; try clear c38b0; try clear c38b1; try clear c39; try clear c39b0; try clear c39b1; try clear c42; try clear c50; try clear c50b0; try clear c52; try clear c52b0; try clear c52b1; try clear c53; try clear c53b0; try clear c54; try clear c54b0; try clear c55; try clear c55b0; try clear c56; try clear c56b0; try clear c57; try clear c57b0; try clear p58; try clear q58; try clear hx58; try clear hf58; try clear c59; try clear p64; try clear c65; try clear c65b0; try clear c66; try clear c66b0; try clear p67; try clear q67; try clear hx67; try clear hf67; try clear c68; try clear c74; try clear c74b0; try clear c74b1; try clear c75; try clear c75b0; try clear c75b1; try clear hcz14_0; try clear hcz14_1; try clear hcz17_0; try clear hcz17_1; try clear hcz20_0; try clear hcz20_1; try clear hcz23_0; try clear hcz23_1; try clear hcz25_0; try clear hcz25_1; try clear hcz27_0; try clear hcz27_1; try clear hcz32_0; try clear hcz32_1; try clear hcz35_0; try clear hcz35_1; try clear hcz35_2; try clear hcz40_0; try clear hcz40_1; try clear hcz43_0; try clear hcz43_1; try clear hcz43_2; try clear hcz45_0; try clear hcz45_1; try clear hcz60_0; try clear hcz60_1; try clear hcz60_2; try clear hcz69_0; try clear hcz69_1; try clear hcz69_2; try clear hcz9_0; try clear hcz9_1; try clear hfz14_0; try clear hfz14_1; try clear hfz17_0; try clear hfz17_1; try clear hfz20_0; try clear hfz20_1; try clear hfz23_0; try clear hfz23_1; try clear hfz25_0; try clear hfz25_1; try clear hfz27_0; try clear hfz27_1; try clear hfz32_0; try clear hfz32_1; try clear hfz35_0; try clear hfz35_1; try clear hfz35_2; try clear hfz40_0; try clear hfz40_1; try clear hfz43_0; try clear hfz43_1; try clear hfz43_2; try clear hfz45_0; try clear hfz45_1; try clear hfz60_0; try clear hfz60_1; try clear hfz60_2; try clear hfz69_0; try clear hfz69_1; try clear hfz69_2; try clear hfz9_0; try clear hfz9_1; try clear hx113_0; try clear hx114_0; try clear hx58_0; try clear hx67_0; try clear p113; try clear p114; try clear p2; try clear p58; try clear p6; try clear p67; try clear q113; try clear q114; try clear q58; try clear q67
                  obtain ⟨x13_3, x89_3, rfl, HA, HK3, HO_9, HO_13, BK101, BK104, HB⟩ := hrel
                  have hl13_3 := (Kd.S_reads' HO_13.out).1
                  rw [hl13_3] at HO_13
                  (try simp only [hl13_3])
                  (try simp only [hl13_3] at BK101)
                  (try simp only [hl13_3] at BK104)
                  (try simp only [hl13_3] at HO_9)
                  cases gk with
                  | zero => exact absurd HA.out (by simp [impl_CountFixed.l1])
                  | succ k3 =>
                    have H := HA.out
                    clear HA
                    simp only [impl_CountFixed.l1] at H
                    by_cases c79 : x89_3 < (y117.length : Int)
                    · rw [if_pos c79] at H
                      have c79b0 : decide (x89_3 < (y117.length : Int)) = true := decide_eq_true c79
                      (try (have c79b0z_hl13_3 := c79b0; rw [hl13_3] at c79b0z_hl13_3))
                      (try (have c79b0z_hl13_4 := c79b0; rw [hl13_4] at c79b0z_hl13_4))
                      (try (have c79b0z_hl9_2 := c79b0; rw [hl9_2] at c79b0z_hl9_2))
                      (try (have c79b0z_hl9_4 := c79b0; rw [hl9_4] at c79b0z_hl9_4))
                      clear c79
                      replace H := iN_ H; obtain ⟨c80, H⟩ := H
                      have c80b0 := eq_true c80
                      have c80b1 : decide (0 ≤ x10_2) = true := decide_eq_true c80
                      clear c80
                      replace H := iN_ H; obtain ⟨c81, H⟩ := H
                      have c81b0 := eq_true c81
                      have c81b1 : decide ((x10_2 : Int).toNat ≤ 35184372088832) = true := decide_eq_true c81
                      clear c81
                      obtain ⟨y120, hy120⟩ : ∃ y_ : List Int, y_ = (List.replicate (x10_2 : Int).toNat 0) := ⟨_, rfl⟩
                      replace H : (if 0 ≤ x89_3 then (if x89_3 < (x13_3.length : Int) then (impl_CountFixed.l1 k3 a1 a2 x9_2 x10_2 (x13_3.set (x89_3 : Int).toNat y120) (y117.length : Int) (wrap64 (x89_3 + 1)) a0_0 a0_1) else (none)) else (none)) = some r := by (rw [hy120]; with_reducible exact H)
                      have Ny120 := Aside0.mk hy120
                      clear hy120
                      replace H := iN_ H; obtain ⟨c82, H⟩ := H
                      have c82b0 : decide (0 ≤ x89_3) = true := decide_eq_true c82
                      clear c82
                      replace H := iN_ H; obtain ⟨c83, H⟩ := H
                      have c83b0 : decide (x89_3 < (x13_3.length : Int)) = true := decide_eq_true c83
                      clear c83
                      obtain ⟨y123, hy123⟩ : ∃ y_ : List (List Int), y_ = (x13_3.set (x89_3 : Int).toNat y120) := ⟨_, rfl⟩
                      replace H : (impl_CountFixed.l1 k3 a1 a2 x9_2 x10_2 y123 (y117.length : Int) (wrap64 (x89_3 + 1)) a0_0 a0_1) = some r := by (rw [hy123]; with_reducible exact H)
                      have Ny123 := Aside0.mk hy123
                      clear hy123
                      have H' := Aside0.mk H
                      clear H
                      go_wp2_with (first | ((with_reducible refine gate_dst (N := 95) rfl ?_); refine Kd.R_make (Kd.int .i64) _ 3 rfl (N := 95) rfl 29 _ _ rfl x10_2 rfl rfl Try.underlying29 (.int .i64 0) 8 info3 rfl (by decide) (by omega) 0 (ok := fun _ => True) (okp := fun _ => True) rfl (fun _ hk => hk) trivial (of_decide_eq_true (by with_reducible assumption)) (Nat.le_trans (Nat.mul_le_mul_right _ (of_decide_eq_true (by with_reducible assumption) : x10_2.toNat ≤ 35184372088832)) (by omega)) (Below.refl _ _) (Nat.le_refl _) ?_; intro v121 w85 ho86 hb hg_ hnew_; clear hg_ hnew_; (rw [← Ny120.out] at ho86); have n0_ := Aside0.mk (Kd.R_elder' HO_9.out (Kd.R_base ho86) hb); have n1_ := Aside0.mk (Kd.S_elder' HO_13.out (Kd.R_base ho86) hb); have n2_ := Aside0.mk (Kd.R_lower (Kd.R_new' ho86 (Kd.R_lt HO_9.out)) (below_size HB.out)); have n3_ := Aside0.mk (blk_below (g := gb101) (o := .cells #[.int .i64 a0_0, .int .i64 a0_1] 40 (0, 0)) BK101.out hb); have n4_ := Aside0.mk (blk_below (g := gb104) (o := .cells #[.int .i64 a0_0, .int .i64 a0_1, .int .i64 a1] 42 (0, 0)) BK104.out hb); have n5_ := Aside0.mk (below_step HB.out hb); clear HO_9; clear HO_13; clear BK101; clear BK104; clear HB; have HO_9 := n0_; have HO_13 := n1_; have HO122 := n2_; have BK101 := n3_; have BK104 := n4_; have HB := n5_; clear n0_ n1_ n2_ n3_ n4_ n5_; clear hb ho86; have p84 : 0 ≤ (x89_3 : Int) := of_decide_eq_true (by with_reducible assumption); have q84 : (x89_3 : Int) < ((x13_3.length : Int) : Int) := of_decide_eq_true (by with_reducible assumption); obtain ⟨go84, co84, eo84, gb84, gl84, cl84, HG84⟩ := Kd.S_form HO_13.out (by omega); (cases eo84); have GB84 := Aside0.mk gb84; have GG84 := Aside0.mk HG84; clear gb84 gl84 HG84; obtain ⟨_, ce84, hcl84, hM84, hcc84, hfr84, _, _⟩ := Kd.S_elem HO_13.out [] (x89_3 : Int) p84 q84; obtain ⟨ve84_0, rfl, ge84_0⟩ := hM84; have hx84_0 := hcc84 0 _ rfl; have hf84_0 := hfr84 0; (try simp only [show ((Kd.slice 3 (Kd.int .i64))).sz = 1 from rfl, Nat.mul_one, Nat.add_zero] at hx84_0); (try simp only [show ((Kd.slice 3 (Kd.int .i64))).sz = 1 from rfl, Nat.mul_one, Nat.add_zero] at hf84_0); (try clear hM84); clear hcl84 hcc84 hfr84; replace p84 := eq_true p84; replace q84 := eq_true q84; have HX87 := Aside0.mk (show Kd.S (Kd.slice 3 (Kd.int .i64)) 29 w85 w.heap.size (fun k_ => ((fun k_ => some k_ ≠ (.slice Ao49 x9_2.length co49 : Value).ownBlock)) k_ ∧ ¬ ((fun k_ => some k_ = (v121 : Value).ownBlock)) k_) (.slice (some ⟨go84, 0, none⟩) x13_3.length co78) x13_3 from (by exact Kd.S_mono HO_13.out (fun k_ hk => ⟨hk.1, fun e_ => hk.2 e_⟩))); obtain ⟨oki87, ce87, hcl87, hM87, hcc87, hfr87, hoki87, hH87⟩ := Kd.S_elem HX87.out [] (x89_3 : Int) (of_decide_eq_true (by with_reducible assumption)) (by have h_ : (x89_3 : Int) < ((x13_3.length : Int) : Int) := of_decide_eq_true (by with_reducible assumption); exact h_); obtain ⟨ve87_0, rfl, ge87_0⟩ := hM87; have HP87 := Kd.S_seg hH87 (of_decide_eq_true (by with_reducible assumption)) (by have h_ : (x89_3 : Int) < ((x13_3.length : Int) : Int) := of_decide_eq_true (by with_reducible assumption); exact h_) (seg := [v121]) (j := 0) (show 1 ≤ 1 from by decide) (x' := y120) (Kd.M_row (Kd.R_mono (Kd.R_tight rfl (Kd.R_mono (ok' := fun k_ => ((fun k_ => some k_ ≠ (.slice Ao49 x9_2.length co49 : Value).ownBlock)) k_ ∧ k_ ≠ go84) (Kd.R_apart' (HO122.out) (Kd.S_typed HO_13.out) (by decide)) (fun k_ hk => ⟨hk.1.2, fun e_ => (hk.2) (by rw [e_]; rfl)⟩))) (fun _ h_ => Or.inr (h_)))) (fun _ hk => hk) (fun k_ hk_ => ((Kd.R_mono (ok' := fun k_ => ((fun k_ => some k_ ≠ (.slice Ao49 x9_2.length co49 : Value).ownBlock)) k_ ∧ k_ ≠ go84) (Kd.R_apart' (HO122.out) (Kd.S_typed HO_13.out) (by decide)) (fun k_ hk => ⟨hk.1.2, fun e_ => (hk.2) (by rw [e_]; rfl)⟩))).1 k_ hk_.symm); have hx87_0 := hcc87 0 _ rfl; (try simp only [show ((Kd.slice 3 (Kd.int .i64))).sz = 1 from rfl, Nat.mul_one, Nat.add_zero] at hx87_0); have hf87_0 := hfr87 0; (try simp only [show ((Kd.slice 3 (Kd.int .i64))).sz = 1 from rfl, Nat.mul_one, Nat.add_zero] at hf87_0); (try clear hM87); clear hcl87 hcc87 hfr87 hoki87 hH87; (try simp only [show ((Kd.slice 3 (Kd.int .i64))).sz = 1 from rfl, Nat.mul_one, Nat.add_zero] at HP87)) | ((with_reducible refine gate_store (t := 29) (p := 96) rfl ?_); (try (rw [drewN_self w85]; generalize hq_ : World.drewN w85 _ = w85; have n0_ := Aside0.mk (Kd.R_at hq_ HO_9.out); have n1_ := Aside0.mk (Kd.S_at hq_ HO_13.out); have n2_ := Aside0.mk (blk_at hq_ BK101.out); have n3_ := Aside0.mk (blk_at hq_ BK104.out); have n4_ := Aside0.mk (below_at hq_ HB.out); clear hq_ HO_9 HO_13 BK101 BK104 HB; have HO_9 := n0_; have HO_13 := n1_; have BK101 := n2_; have BK104 := n3_; have HB := n4_; clear n0_ n1_ n2_ n3_ n4_; (try (have HX87 := Aside0.mk (show Kd.S (Kd.slice 3 (Kd.int .i64)) 29 w85 w.heap.size (fun k_ => ((fun k_ => some k_ ≠ (.slice Ao49 x9_2.length co49 : Value).ownBlock)) k_ ∧ ¬ ((fun k_ => some k_ = (v121 : Value).ownBlock)) k_) (.slice (some ⟨go84, 0, none⟩) x13_3.length co78) x13_3 from (by exact Kd.S_mono HO_13.out (fun k_ hk => ⟨hk.1, fun e_ => hk.2 e_⟩))))); (try (obtain ⟨oki87, ce87, hcl87, hM87, hcc87, hfr87, hoki87, hH87⟩ := Kd.S_elem HX87.out [] (x89_3 : Int) (of_decide_eq_true (by fail)) (by have h_ : (x89_3 : Int) < ((x13_3.length : Int) : Int) := of_decide_eq_true (by fail); fail))); (try (obtain ⟨ve87_0, rfl, ge87_0⟩ := hM87)); (try (have HP87 := Kd.S_seg hH87 (of_decide_eq_true (by fail)) (by have h_ : (x89_3 : Int) < ((x13_3.length : Int) : Int) := of_decide_eq_true (by fail); fail) (seg := [v121]) (j := 0) (show 1 ≤ 1 from by decide) (x' := y120) (Kd.M_row (Kd.R_mono (Kd.R_tight rfl (Kd.R_mono (ok' := fun k_ => ((fun k_ => some k_ ≠ (.slice Ao49 x9_2.length co49 : Value).ownBlock)) k_ ∧ k_ ≠ go84) (Kd.R_apart' (HO122.out) (Kd.S_typed HO_13.out) (by decide)) (fun k_ hk => ⟨hk.1.2, fun e_ => (hk.2) (by rw [e_]; rfl)⟩))) (fun _ h_ => Or.inr (h_)))) (fun _ hk => hk) (fun k_ hk_ => ((Kd.R_mono (ok' := fun k_ => ((fun k_ => some k_ ≠ (.slice Ao49 x9_2.length co49 : Value).ownBlock)) k_ ∧ k_ ≠ go84) (Kd.R_apart' (HO122.out) (Kd.S_typed HO_13.out) (by decide)) (fun k_ hk => ⟨hk.1.2, fun e_ => (hk.2) (by rw [e_]; rfl)⟩))).1 k_ hk_.symm))); (try (have hx87_0 := hcc87 0 _ rfl)); (try (try simp only [show ((Kd.slice 3 (Kd.int .i64))).sz = 1 from rfl, Nat.mul_one, Nat.add_zero] at hx87_0)); (try (have hf87_0 := hfr87 0)); (try (try simp only [show ((Kd.slice 3 (Kd.int .i64))).sz = 1 from rfl, Nat.mul_one, Nat.add_zero] at hf87_0)); (try ((try clear hM87); clear hcl87 hcc87 hfr87 hoki87 hH87)); (try (try simp only [show ((Kd.slice 3 (Kd.int .i64))).sz = 1 from rfl, Nat.mul_one, Nat.add_zero] at HP87)))); refine store_event (t := 29) (p := 96) (v := ?vo_w88) (w1 := (w85.setCell ⟨go84, (x89_3 : Int).toNat, none⟩ (v121))) ?hg ?ho ?hn ?hr ?_; (case ho => rfl); (case hg => rfl); (case hn => rfl); (case hr => (have ev_ := ‹Aside0 (Kd.R _ _ _ _ _ v121 _)›; obtain ⟨_, _, ev_⟩ := Kd.R_slice ev_.out; subst ev_; (go_simp; done))); intro w88 hw; have hg : w85.grownBy w88 (some go84) := (by rw [hw]; exact HP87.2); have hp_ : Kd.S (Kd.slice 3 (Kd.int .i64)) 29 w88 w.heap.size (fun k_ => some k_ ≠ (.slice Ao49 x9_2.length co49 : Value).ownBlock) (.slice (some ⟨go84, 0, none⟩) x13_3.length co78) y123 := (by rw [hw, Ny123.out]; exact HP87.1); clear HP87; have n0_ := Aside0.mk (Kd.R_over' (v := (.slice (some ⟨go84, 0, none⟩) x13_3.length co78)) HO_9.out (Kd.S_typed HO_13.out) (by decide) hg); have n1_ := Aside0.mk (hp_); have n2_ := Aside0.mk (blk_grown (g := gb101) (o := .cells #[.int .i64 a0_0, .int .i64 a0_1] 40 (0, 0)) BK101.out hg (Kd.S_ne HO_13.out BK101.out (by decide))); have n3_ := Aside0.mk (blk_grown (g := gb104) (o := .cells #[.int .i64 a0_0, .int .i64 a0_1, .int .i64 a1] 42 (0, 0)) BK104.out hg (Kd.S_ne HO_13.out BK104.out (by decide))); have n4_ := Aside0.mk ((by rw [hw]; exact below_set (HB.out) GB84.out : Below w.heap.size w w88)); clear HO_9; clear HO_13; clear BK101; clear BK104; clear HB; clear HO122; have HO_9 := n0_; have HO_13 := n1_; have BK101 := n2_; have BK104 := n3_; have HB := n4_; clear n0_ n1_ n2_ n3_ n4_; clear hg hw hp_))
                      repeat (go_quiet (fail); try go_wp2_with (fail))
                      (try simp only [← hl13_3])
                      go_roundg k3
                      case measure => have := HJ6.out; have := HK2.out; have := HK3.out; omega
                      case rel => exact ⟨(y123), (wrap64 (x89_3 + 1)), (by rfl), H', ⟨by have := HJ6.out; have := HK2.out; have := HK3.out; omega⟩, ⟨by (try simp only [hl9_2]); (try simp only [hl13_3]); exact Kd.R_mono HO_9.out (fun _ hk => trivial)⟩, ⟨by (try simp only [hl9_2]); (try simp only [hl13_3]); exact HO_13.out⟩, ⟨by (try simp only [hl9_2]); (try simp only [hl13_3]); exact BK101.out⟩, ⟨by (try simp only [hl9_2]); (try simp only [hl13_3]); exact BK104.out⟩, ⟨by repeat ((with_reducible exact HB.out))⟩⟩
                    · rw [if_neg c79] at H
                      have c79b0 : decide (x89_3 < (y117.length : Int)) = false := decide_eq_false c79
                      (try (have c79b0z_hl13_3 := c79b0; rw [hl13_3] at c79b0z_hl13_3))
                      (try (have c79b0z_hl13_4 := c79b0; rw [hl13_4] at c79b0z_hl13_4))
                      (try (have c79b0z_hl9_2 := c79b0; rw [hl9_2] at c79b0z_hl9_2))
                      (try (have c79b0z_hl9_4 := c79b0; rw [hl9_4] at c79b0z_hl9_4))
                      clear c79
                      have H' := Aside0.mk H
                      clear H
                      go_wp2
                      repeat (go_quiet (fail); try go_wp2)
                      go_loopg [15] k3 (fun kq v15 w' => ∃ (x9_4 : List Int) (x13_4 : List (List Int)) (x15_4 : Int), v15 = .int .i64 x15_4 ∧ Aside0 (impl_CountFixed.l2 kq a1 a2 x9_4 x13_4 x15_4 a0_0 a0_1 = some r) ∧ Aside0 (kq ≤ k3) ∧ Aside0 (Kd.R (Kd.int .i64) 3 w' w.heap.size (fun _ => True) (.slice Ao49 x9_2.length co49) x9_4) ∧ Aside0 (Kd.S (Kd.slice 3 (Kd.int .i64)) 29 w' w.heap.size (fun k_ => some k_ ≠ ((.slice Ao49 x9_2.length co49) : Value).ownBlock) (.slice Ao78 x13_3.length co78) x13_4) ∧ Aside0 (w'.heap[gb101]? = some (.cells #[.int .i64 a0_0, .int .i64 a0_1] 40 (0, 0))) ∧ Aside0 (w'.heap[gb104]? = some (.cells #[.int .i64 a0_0, .int .i64 a0_1, .int .i64 a1] 42 (0, 0))) ∧ Aside0 (Below w.heap.size w w'))
                      case atStart => exact ⟨(x9_2), (x13_3), (0), (by rfl), H', ⟨Nat.le_refl _⟩, ⟨by (try simp only [hl9_2]); (try simp only [hl13_3]); exact HO_9.out⟩, ⟨by (try simp only [hl9_2]); (try simp only [hl13_3]); exact HO_13.out⟩, ⟨by (try simp only [hl9_2]); (try simp only [hl13_3]); exact BK101.out⟩, ⟨by (try simp only [hl9_2]); (try simp only [hl13_3]); exact BK104.out⟩, ⟨by repeat ((with_reducible exact HB.out))⟩⟩
                      case round =>
                        clear H'; try clear c1; try clear p1; try clear q1; try clear hx1; try clear qi1; try clear c2; try clear p2; try clear c3; try clear c4; try clear c5; try clear c5b0; try clear c5b1; try clear p5; try clear q5; try clear hx5; try clear hf5; try clear c6; try clear p6; try clear q6; try clear hx6; try clear hf6; try clear c7; try clear c8; try clear p8; try clear q8; try clear hx8; try clear hf8; try clear p11; try clear q11; try clear hx11; try clear qi11; try clear c12; try clear c13; try clear c13b0; try clear c16; try clear c16b0; try clear c19; try clear c19b0; try clear c22; try clear c22b0; try clear c29; try clear c31; try clear c31b0; try clear c34; try clear c38; try clear c38b0; try clear c38b1; try clear c39; try clear c39b0; try clear c39b1; try clear c42; try clear c50; try clear c50b0; try clear c52; try clear c52b0; try clear c52b1; try clear c53; try clear c53b0; try clear c54; try clear c54b0; try clear c55; try clear c55b0; try clear c56; try clear c56b0; try clear c57; try clear c57b0; try clear p58; try clear q58; try clear hx58; try clear hf58; try clear c59; try clear p64; try clear c65; try clear c65b0; try clear c66; try clear c66b0; try clear p67; try clear q67; try clear hx67; try clear hf67; try clear c68; try clear c74; try clear c74b0; try clear c74b1; try clear c75; try clear c75b0; try clear c75b1; try clear c79; try clear c79b0; try clear c80; try clear c80b0; try clear c80b1; try clear c81; try clear c81b0; try clear c81b1; try clear c82; try clear c82b0; try clear c83; try clear c83b0; try clear c84; try clear p84; try clear q84; try clear hx84; try clear hf84; try clear c87; try clear hx87; try clear hf87; try clear hcz14_0; try clear hcz14_1; try clear hcz17_0; try clear hcz17_1; try clear hcz20_0; try clear hcz20_1; try clear hcz23_0; try clear hcz23_1; try clear hcz25_0; try clear hcz25_1; try clear hcz27_0; try clear hcz27_1; try clear hcz32_0; try clear hcz32_1; try clear hcz35_0; try clear hcz35_1; try clear hcz35_2; try clear hcz40_0; try clear hcz40_1; try clear hcz43_0; try clear hcz43_1; try clear hcz43_2; try clear hcz45_0; try clear hcz45_1; try clear hcz60_0; try clear hcz60_1; try clear hcz60_2; try clear hcz69_0; try clear hcz69_1; try clear hcz69_2; try clear hcz9_0; try clear hcz9_1; try clear hfz14_0; try clear hfz14_1; try clear hfz17_0; try clear hfz17_1; try clear hfz20_0; try clear hfz20_1; try clear hfz23_0; try clear hfz23_1; try clear hfz25_0; try clear hfz25_1; try clear hfz27_0; try clear hfz27_1; try clear hfz32_0; try clear hfz32_1; try clear hfz35_0; try clear hfz35_1; try clear hfz35_2; try clear hfz40_0; try clear hfz40_1; try clear hfz43_0; try clear hfz43_1; try clear hfz43_2; try clear hfz45_0; try clear hfz45_1; try clear hfz60_0; try clear hfz60_1; try clear hfz60_2; try clear hfz69_0; try clear hfz69_1; try clear hfz69_2; try clear hfz9_0; try clear hfz9_1; try clear hx113_0; try clear hx114_0; try clear hx58_0; try clear hx67_0; try clear hx84_0; try clear hx87_0; try clear p1; try clear p11; try clear p113; try clear p114; try clear p2; try clear p5; try clear p58; try clear p6; try clear p64; try clear p67; try clear p84; try clear q1; try clear q11; try clear q113; try clear q114; try clear q5; try clear q58; try clear q6; try clear q67; try clear q84
                        obtain ⟨x9_4, x13_4, x15_4, rfl, HA, HK4, HO_9, HO_13, BK101, BK104, HB⟩ := hrel
                        have hl9_4 := (Kd.R_reads' HO_9.out).1
                        rw [hl9_4] at HO_9
                        (try simp only [hl9_4])
                        (try simp only [hl9_4] at BK101)
                        (try simp only [hl9_4] at BK104)
                        (try simp only [hl9_4] at HO_13)
                        have hl13_4 := (Kd.S_reads' HO_13.out).1
                        rw [hl13_4] at HO_13
                        (try simp only [hl13_4])
                        (try simp only [hl13_4] at BK101)
                        (try simp only [hl13_4] at BK104)
                        (try simp only [hl13_4] at HO_9)
                        cases gk with
                        | zero => exact absurd HA.out (by simp [impl_CountFixed.l2])
                        | succ k4 =>
                          have H := HA.out
                          clear HA
                          simp only [impl_CountFixed.l2] at H
                          obtain ⟨t124, A890, H⟩ := Option.bind_eq_some_iff.mp H
                          (try dsimp only at H); have A89 := Aside0.mk A890; clear A890
                          by_cases c90 : x15_4 < t124
                          · rw [if_pos c90] at H
                            have c90b0 : decide (x15_4 < t124) = true := decide_eq_true c90
                            clear c90
                            replace H := iN_ H; obtain ⟨c91, H⟩ := H
                            have c91b0 := eq_true c91
                            have c91b1 : decide (0 ≤ x15_4) = true := decide_eq_true c91
                            clear c91
                            obtain ⟨ji92, hji92⟩ : ∃ j_ : Int, (shr .i64 (Go.bits .or .i64 a1 a2) x15_4) = j_ := ⟨_, rfl⟩
                            replace H : (if (Go.bits .and .i64 (ji92) 1) = 1 then (impl_CountFixed.l2 k4 a1 a2 x9_4 x13_4 (wrap64 (x15_4 + 1)) a0_0 a0_1) else ((impl_EndsOf.f a0_0 a0_1 x15_4).bind fun bt125 => (if 0 ≤ bt125.1 then (if bt125.1 < (x9_4.length : Int) then (if 0 ≤ bt125.2 then (if bt125.2 < (x9_4.length : Int) then (if 0 ≤ (rd x9_4 bt125.1) then (if (rd x9_4 bt125.1) < (x13_4.length : Int) then (if (rd x9_4 bt125.1) < ((rd_L2 x13_4 (rd x9_4 bt125.1)).length : Int) then ((some (x13_4.set ((rd x9_4 bt125.1) : Int).toNat ((rd_L2 x13_4 (rd x9_4 bt125.1)).set ((rd x9_4 bt125.1) : Int).toNat (wrap64 ((rd (rd_L2 x13_4 (rd x9_4 bt125.1)) (rd x9_4 bt125.1)) + 1))) : List (List Int))).bind fun y133 => (if 0 ≤ (rd x9_4 bt125.2) then (if (rd x9_4 bt125.2) < (x13_4.length : Int) then (if (rd x9_4 bt125.2) < ((rd_L2 y133 (rd x9_4 bt125.2)).length : Int) then ((some (y133.set ((rd x9_4 bt125.2) : Int).toNat ((rd_L2 y133 (rd x9_4 bt125.2)).set ((rd x9_4 bt125.2) : Int).toNat (wrap64 ((rd (rd_L2 y133 (rd x9_4 bt125.2)) (rd x9_4 bt125.2)) + 1))) : List (List Int))).bind fun y138 => (if (rd x9_4 bt125.2) < ((rd_L2 y138 (rd x9_4 bt125.1)).length : Int) then ((some (y138.set ((rd x9_4 bt125.1) : Int).toNat ((rd_L2 y138 (rd x9_4 bt125.1)).set ((rd x9_4 bt125.2) : Int).toNat (wrap64 ((rd (rd_L2 y138 (rd x9_4 bt125.1)) (rd x9_4 bt125.2)) - 1))) : List (List Int))).bind fun y143 => (if (rd x9_4 bt125.1) < ((rd_L2 y143 (rd x9_4 bt125.2)).length : Int) then (impl_CountFixed.l2 k4 a1 a2 x9_4 (y143.set ((rd x9_4 bt125.2) : Int).toNat ((rd_L2 y143 (rd x9_4 bt125.2)).set ((rd x9_4 bt125.1) : Int).toNat (wrap64 ((rd (rd_L2 y143 (rd x9_4 bt125.2)) (rd x9_4 bt125.1)) - 1)))) (wrap64 (x15_4 + 1)) a0_0 a0_1) else (none))) else (none))) else (none)) else (none)) else (none))) else (none)) else (none)) else (none)) else (none)) else (none)) else (none)) else (none)))) = some r := by (rw [hji92] at H; exact H)
                            (try rw [hji92] at A89)
                            have hji92_ : ((Go.bits .or .i64 a1 a2) / 2 ^ min x15_4.toNat 64) = ji92 := hji92
                            have hji92z : x15_4 ≤ 64 → ((Go.bits .or .i64 a1 a2) / 2 ^ x15_4.toNat) = ji92 := shr_small hji92
                            by_cases c93 : (Go.bits .and .i64 (ji92) 1) = 1
                            · rw [if_pos c93] at H
                              have c93b0 : ((Go.bits .and .i64 (ji92) 1) == 1) = true := beq_iff_eq.mpr c93
                              have c93b1 : ((Go.bits .and .i64 (ji92) 1) != 1) = false := bne_eq_false_iff_eq.mpr c93
                              clear c93
                              have H' := Aside0.mk H
                              clear H
                              have hnb94 := NB101_104.out
                              have hnc94 := NB104_101.out
                              obtain ⟨hcz95_0, hcz95_1⟩ := kk2_ BK101.1
                              have hfz95_0 := blk_frozen BK101.out 0
                              have hfz95_1 := blk_frozen BK101.out 1
                              go_wp2_with ((go_at_call 78; (with_reducible refine (impl_CountGaps.calls a0_0 a0_1 t124 _ A89.out).mono ?_); rintro e w96 ⟨rfl, hb⟩; have n0_ := Aside0.mk (Kd.R_below HO_9.out hb); have n1_ := Aside0.mk (Kd.S_below HO_13.out hb); have n2_ := Aside0.mk (blk_below (g := gb101) (o := .cells #[.int .i64 a0_0, .int .i64 a0_1] 40 (0, 0)) BK101.out hb); have n3_ := Aside0.mk (blk_below (g := gb104) (o := .cells #[.int .i64 a0_0, .int .i64 a0_1, .int .i64 a1] 42 (0, 0)) BK104.out hb); have n4_ := Aside0.mk (below_step HB.out hb); clear HO_9; clear HO_13; clear BK101; clear BK104; clear HB; have HO_9 := n0_; have HO_13 := n1_; have BK101 := n2_; have BK104 := n3_; have HB := n4_; clear n0_ n1_ n2_ n3_ n4_; (try clear hb); (try clear hb2); (try clear hk); (try clear hi)))
                              repeat (go_quiet (fail); try go_wp2_with (fail))
                              (try simp only [← hl9_4, ← hl13_4])
                              go_roundg k4
                              case measure => have := HJ6.out; have := HK2.out; have := HK3.out; have := HK4.out; omega
                              case rel => exact ⟨(x9_4), (x13_4), (wrap64 (x15_4 + 1)), (by rfl), H', ⟨by have := HJ6.out; have := HK2.out; have := HK3.out; have := HK4.out; omega⟩, ⟨by (try simp only [hl9_2]); (try simp only [hl13_3]); (try simp only [hl9_4]); (try simp only [hl13_4]); exact HO_9.out⟩, ⟨by (try simp only [hl9_2]); (try simp only [hl13_3]); (try simp only [hl9_4]); (try simp only [hl13_4]); exact HO_13.out⟩, ⟨by (try simp only [hl9_2]); (try simp only [hl13_3]); (try simp only [hl9_4]); (try simp only [hl13_4]); exact BK101.out⟩, ⟨by (try simp only [hl9_2]); (try simp only [hl13_3]); (try simp only [hl9_4]); (try simp only [hl13_4]); exact BK104.out⟩, ⟨by repeat ((with_reducible exact HB.out))⟩⟩
                            · rw [if_neg c93] at H
                              have c93b0 : ((Go.bits .and .i64 (ji92) 1) == 1) = false := beq_eq_false_iff_ne.mpr c93
                              have c93b1 : ((Go.bits .and .i64 (ji92) 1) != 1) = true := bne_iff_ne.mpr c93
                              obtain ⟨⟨t125, t126⟩, A970, H⟩ := Option.bind_eq_some_iff.mp H
                              (try dsimp only at H); have A97 := Aside0.mk A970; clear A970
                              replace H := iN_ H; obtain ⟨c98, H⟩ := H
                              have c98b0 : decide (0 ≤ t125) = true := decide_eq_true c98
                              clear c98
                              replace H := iN_ H; obtain ⟨c99, H⟩ := H
                              have c99b0 : decide (t125 < (x9_4.length : Int)) = true := decide_eq_true c99
                              clear c99
                              replace H := iN_ H; obtain ⟨c100, H⟩ := H
                              have c100b0 : decide (0 ≤ t126) = true := decide_eq_true c100
                              clear c100
                              replace H := iN_ H; obtain ⟨c101, H⟩ := H
                              have c101b0 : decide (t126 < (x9_4.length : Int)) = true := decide_eq_true c101
                              clear c101
                              replace H := iN_ H; obtain ⟨c102, H⟩ := H
                              have c102b0 : decide (0 ≤ (rd x9_4 t125)) = true := decide_eq_true c102
                              clear c102
                              replace H := iN_ H; obtain ⟨c103, H⟩ := H
                              have c103b0 : decide ((rd x9_4 t125) < (x13_4.length : Int)) = true := decide_eq_true c103
                              clear c103
                              replace H := iN_ H; obtain ⟨c104, H⟩ := H
                              have c104b0 : decide ((rd x9_4 t125) < ((rd_L2 x13_4 (rd x9_4 t125)).length : Int)) = true := decide_eq_true c104
                              clear c104
                              obtain ⟨y131, hy131⟩ : ∃ y_ : List Int, y_ = ((rd_L2 x13_4 (rd x9_4 t125)).set ((rd x9_4 t125) : Int).toNat (wrap64 ((rd (rd_L2 x13_4 (rd x9_4 t125)) (rd x9_4 t125)) + 1))) := ⟨_, rfl⟩
                              replace H : ((some (x13_4.set ((rd x9_4 t125) : Int).toNat y131 : List (List Int))).bind fun y133 => (if 0 ≤ (rd x9_4 t126) then (if (rd x9_4 t126) < (x13_4.length : Int) then (if (rd x9_4 t126) < ((rd_L2 y133 (rd x9_4 t126)).length : Int) then ((some (y133.set ((rd x9_4 t126) : Int).toNat ((rd_L2 y133 (rd x9_4 t126)).set ((rd x9_4 t126) : Int).toNat (wrap64 ((rd (rd_L2 y133 (rd x9_4 t126)) (rd x9_4 t126)) + 1))) : List (List Int))).bind fun y138 => (if (rd x9_4 t126) < ((rd_L2 y138 (rd x9_4 t125)).length : Int) then ((some (y138.set ((rd x9_4 t125) : Int).toNat ((rd_L2 y138 (rd x9_4 t125)).set ((rd x9_4 t126) : Int).toNat (wrap64 ((rd (rd_L2 y138 (rd x9_4 t125)) (rd x9_4 t126)) - 1))) : List (List Int))).bind fun y143 => (if (rd x9_4 t125) < ((rd_L2 y143 (rd x9_4 t126)).length : Int) then (impl_CountFixed.l2 k4 a1 a2 x9_4 (y143.set ((rd x9_4 t126) : Int).toNat ((rd_L2 y143 (rd x9_4 t126)).set ((rd x9_4 t125) : Int).toNat (wrap64 ((rd (rd_L2 y143 (rd x9_4 t126)) (rd x9_4 t125)) - 1)))) (wrap64 (x15_4 + 1)) a0_0 a0_1) else (none))) else (none))) else (none)) else (none)) else (none))) = some r := by (rw [hy131]; with_reducible exact H)
                              have Ny131 := Aside0.mk hy131
                              clear hy131
                              obtain ⟨y133, hy133⟩ : ∃ y_ : List (List Int), y_ = (x13_4.set ((rd x9_4 t125) : Int).toNat y131) := ⟨_, rfl⟩
                              replace H : (if 0 ≤ (rd x9_4 t126) then (if (rd x9_4 t126) < (x13_4.length : Int) then (if (rd x9_4 t126) < ((rd_L2 y133 (rd x9_4 t126)).length : Int) then ((some (y133.set ((rd x9_4 t126) : Int).toNat ((rd_L2 y133 (rd x9_4 t126)).set ((rd x9_4 t126) : Int).toNat (wrap64 ((rd (rd_L2 y133 (rd x9_4 t126)) (rd x9_4 t126)) + 1))) : List (List Int))).bind fun y138 => (if (rd x9_4 t126) < ((rd_L2 y138 (rd x9_4 t125)).length : Int) then ((some (y138.set ((rd x9_4 t125) : Int).toNat ((rd_L2 y138 (rd x9_4 t125)).set ((rd x9_4 t126) : Int).toNat (wrap64 ((rd (rd_L2 y138 (rd x9_4 t125)) (rd x9_4 t126)) - 1))) : List (List Int))).bind fun y143 => (if (rd x9_4 t125) < ((rd_L2 y143 (rd x9_4 t126)).length : Int) then (impl_CountFixed.l2 k4 a1 a2 x9_4 (y143.set ((rd x9_4 t126) : Int).toNat ((rd_L2 y143 (rd x9_4 t126)).set ((rd x9_4 t125) : Int).toNat (wrap64 ((rd (rd_L2 y143 (rd x9_4 t126)) (rd x9_4 t125)) - 1)))) (wrap64 (x15_4 + 1)) a0_0 a0_1) else (none))) else (none))) else (none)) else (none)) else (none)) = some r := by (have H2_ := (Option.bind_some _ _).symm.trans H; rw [hy133]; with_reducible exact H2_)
                              have Ny133 := Aside0.mk hy133
                              clear hy133
                              replace H := iN_ H; obtain ⟨c106, H⟩ := H
                              have c106b0 : decide (0 ≤ (rd x9_4 t126)) = true := decide_eq_true c106
                              clear c106
                              replace H := iN_ H; obtain ⟨c107, H⟩ := H
                              have c107b0 : decide ((rd x9_4 t126) < (x13_4.length : Int)) = true := decide_eq_true c107
                              clear c107
                              replace H := iN_ H; obtain ⟨c108, H⟩ := H
                              have c108b0 : decide ((rd x9_4 t126) < ((rd_L2 y133 (rd x9_4 t126)).length : Int)) = true := decide_eq_true c108
                              clear c108
                              obtain ⟨y136, hy136⟩ : ∃ y_ : List Int, y_ = ((rd_L2 y133 (rd x9_4 t126)).set ((rd x9_4 t126) : Int).toNat (wrap64 ((rd (rd_L2 y133 (rd x9_4 t126)) (rd x9_4 t126)) + 1))) := ⟨_, rfl⟩
                              replace H : ((some (y133.set ((rd x9_4 t126) : Int).toNat y136 : List (List Int))).bind fun y138 => (if (rd x9_4 t126) < ((rd_L2 y138 (rd x9_4 t125)).length : Int) then ((some (y138.set ((rd x9_4 t125) : Int).toNat ((rd_L2 y138 (rd x9_4 t125)).set ((rd x9_4 t126) : Int).toNat (wrap64 ((rd (rd_L2 y138 (rd x9_4 t125)) (rd x9_4 t126)) - 1))) : List (List Int))).bind fun y143 => (if (rd x9_4 t125) < ((rd_L2 y143 (rd x9_4 t126)).length : Int) then (impl_CountFixed.l2 k4 a1 a2 x9_4 (y143.set ((rd x9_4 t126) : Int).toNat ((rd_L2 y143 (rd x9_4 t126)).set ((rd x9_4 t125) : Int).toNat (wrap64 ((rd (rd_L2 y143 (rd x9_4 t126)) (rd x9_4 t125)) - 1)))) (wrap64 (x15_4 + 1)) a0_0 a0_1) else (none))) else (none))) = some r := by (rw [hy136]; with_reducible exact H)
                              have Ny136 := Aside0.mk hy136
                              clear hy136
                              obtain ⟨y138, hy138⟩ : ∃ y_ : List (List Int), y_ = (y133.set ((rd x9_4 t126) : Int).toNat y136) := ⟨_, rfl⟩
                              replace H : (if (rd x9_4 t126) < ((rd_L2 y138 (rd x9_4 t125)).length : Int) then ((some (y138.set ((rd x9_4 t125) : Int).toNat ((rd_L2 y138 (rd x9_4 t125)).set ((rd x9_4 t126) : Int).toNat (wrap64 ((rd (rd_L2 y138 (rd x9_4 t125)) (rd x9_4 t126)) - 1))) : List (List Int))).bind fun y143 => (if (rd x9_4 t125) < ((rd_L2 y143 (rd x9_4 t126)).length : Int) then (impl_CountFixed.l2 k4 a1 a2 x9_4 (y143.set ((rd x9_4 t126) : Int).toNat ((rd_L2 y143 (rd x9_4 t126)).set ((rd x9_4 t125) : Int).toNat (wrap64 ((rd (rd_L2 y143 (rd x9_4 t126)) (rd x9_4 t125)) - 1)))) (wrap64 (x15_4 + 1)) a0_0 a0_1) else (none))) else (none)) = some r := by (have H2_ := (Option.bind_some _ _).symm.trans H; rw [hy138]; with_reducible exact H2_)
                              have Ny138 := Aside0.mk hy138
                              clear hy138
                              replace H := iN_ H; obtain ⟨c110, H⟩ := H
                              have c110b0 : decide ((rd x9_4 t126) < ((rd_L2 y138 (rd x9_4 t125)).length : Int)) = true := decide_eq_true c110
                              clear c110
                              obtain ⟨y141, hy141⟩ : ∃ y_ : List Int, y_ = ((rd_L2 y138 (rd x9_4 t125)).set ((rd x9_4 t126) : Int).toNat (wrap64 ((rd (rd_L2 y138 (rd x9_4 t125)) (rd x9_4 t126)) - 1))) := ⟨_, rfl⟩
                              replace H : ((some (y138.set ((rd x9_4 t125) : Int).toNat y141 : List (List Int))).bind fun y143 => (if (rd x9_4 t125) < ((rd_L2 y143 (rd x9_4 t126)).length : Int) then (impl_CountFixed.l2 k4 a1 a2 x9_4 (y143.set ((rd x9_4 t126) : Int).toNat ((rd_L2 y143 (rd x9_4 t126)).set ((rd x9_4 t125) : Int).toNat (wrap64 ((rd (rd_L2 y143 (rd x9_4 t126)) (rd x9_4 t125)) - 1)))) (wrap64 (x15_4 + 1)) a0_0 a0_1) else (none))) = some r := by (rw [hy141]; with_reducible exact H)
                              have Ny141 := Aside0.mk hy141
                              clear hy141
                              obtain ⟨y143, hy143⟩ : ∃ y_ : List (List Int), y_ = (y138.set ((rd x9_4 t125) : Int).toNat y141) := ⟨_, rfl⟩
                              replace H : (if (rd x9_4 t125) < ((rd_L2 y143 (rd x9_4 t126)).length : Int) then (impl_CountFixed.l2 k4 a1 a2 x9_4 (y143.set ((rd x9_4 t126) : Int).toNat ((rd_L2 y143 (rd x9_4 t126)).set ((rd x9_4 t125) : Int).toNat (wrap64 ((rd (rd_L2 y143 (rd x9_4 t126)) (rd x9_4 t125)) - 1)))) (wrap64 (x15_4 + 1)) a0_0 a0_1) else (none)) = some r := by (have H2_ := (Option.bind_some _ _).symm.trans H; rw [hy143]; with_reducible exact H2_)
                              have Ny143 := Aside0.mk hy143
                              clear hy143
                              replace H := iN_ H; obtain ⟨c112, H⟩ := H
                              have c112b0 : decide ((rd x9_4 t125) < ((rd_L2 y143 (rd x9_4 t126)).length : Int)) = true := decide_eq_true c112
                              clear c112
                              obtain ⟨y146, hy146⟩ : ∃ y_ : List Int, y_ = ((rd_L2 y143 (rd x9_4 t126)).set ((rd x9_4 t125) : Int).toNat (wrap64 ((rd (rd_L2 y143 (rd x9_4 t126)) (rd x9_4 t125)) - 1))) := ⟨_, rfl⟩
                              replace H : (impl_CountFixed.l2 k4 a1 a2 x9_4 (y143.set ((rd x9_4 t126) : Int).toNat y146) (wrap64 (x15_4 + 1)) a0_0 a0_1) = some r := by (rw [hy146]; with_reducible exact H)
                              have Ny146 := Aside0.mk hy146
                              clear hy146
                              obtain ⟨y148, hy148⟩ : ∃ y_ : List (List Int), y_ = (y143.set ((rd x9_4 t126) : Int).toNat y146) := ⟨_, rfl⟩
                              replace H : (impl_CountFixed.l2 k4 a1 a2 x9_4 y148 (wrap64 (x15_4 + 1)) a0_0 a0_1) = some r := by (rw [hy148]; with_reducible exact H)
                              have Ny148 := Aside0.mk hy148
                              clear hy148
                              have H' := Aside0.mk H
                              clear H
                              have hnb114 := NB101_104.out
                              have hnc114 := NB104_101.out
                              obtain ⟨hcz115_0, hcz115_1⟩ := kk2_ BK101.1
                              have hfz115_0 := blk_frozen BK101.out 0
                              have hfz115_1 := blk_frozen BK101.out 1
                              go_wp2_with (first | (go_at_call 78; (with_reducible refine (impl_CountGaps.calls a0_0 a0_1 t124 _ A89.out).mono ?_); rintro e w116 ⟨rfl, hb⟩; have n0_ := Aside0.mk (Kd.R_below HO_9.out hb); have n1_ := Aside0.mk (Kd.S_below HO_13.out hb); have n2_ := Aside0.mk (blk_below (g := gb101) (o := .cells #[.int .i64 a0_0, .int .i64 a0_1] 40 (0, 0)) BK101.out hb); have n3_ := Aside0.mk (blk_below (g := gb104) (o := .cells #[.int .i64 a0_0, .int .i64 a0_1, .int .i64 a1] 42 (0, 0)) BK104.out hb); have n4_ := Aside0.mk (below_step HB.out hb); clear HO_9; clear HO_13; clear BK101; clear BK104; clear HB; have HO_9 := n0_; have HO_13 := n1_; have BK101 := n2_; have BK104 := n3_; have HB := n4_; clear n0_ n1_ n2_ n3_ n4_; (try clear hb); (try clear hb2); (try clear hk); (try clear hi); obtain ⟨hcz117_0, hcz117_1⟩ := kk2_ BK101.1; have hfz117_0 := blk_frozen BK101.out 0; have hfz117_1 := blk_frozen BK101.out 1) | (go_at_call 82; (with_reducible refine (impl_EndsOf.calls a0_0 a0_1 x15_4 t125 t126 _ A97.out).mono ?_); rintro e w118 ⟨rfl, hb⟩; have n0_ := Aside0.mk (Kd.R_below HO_9.out hb); have n1_ := Aside0.mk (Kd.S_below HO_13.out hb); have n2_ := Aside0.mk (blk_below (g := gb101) (o := .cells #[.int .i64 a0_0, .int .i64 a0_1] 40 (0, 0)) BK101.out hb); have n3_ := Aside0.mk (blk_below (g := gb104) (o := .cells #[.int .i64 a0_0, .int .i64 a0_1, .int .i64 a1] 42 (0, 0)) BK104.out hb); have n4_ := Aside0.mk (below_step HB.out hb); clear HO_9; clear HO_13; clear BK101; clear BK104; clear HB; have HO_9 := n0_; have HO_13 := n1_; have BK101 := n2_; have BK104 := n3_; have HB := n4_; clear n0_ n1_ n2_ n3_ n4_; (try clear hb); (try clear hb2); (try clear hk); (try clear hi); have p127 : 0 ≤ (t125 : Int) := of_decide_eq_true (by with_reducible assumption); have q127 : t125 < (x9_4.length : Int) := of_decide_eq_true (by with_reducible assumption); obtain ⟨ad127, e127, hx127_0⟩ := Kd.at_int (Kd.R_reads' HO_9.out).2.2 t125 p127 q127; cases e127; replace p127 := eq_true p127; replace q127 := eq_true q127; have p128 : 0 ≤ (t126 : Int) := of_decide_eq_true (by with_reducible assumption); have q128 : t126 < (x9_4.length : Int) := of_decide_eq_true (by with_reducible assumption); obtain ⟨ad128, e128, hx128_0⟩ := Kd.at_int (Kd.R_reads' HO_9.out).2.2 t126 p128 q128; obtain rfl : ad127 = ad128 := (by injection e128); replace p128 := eq_true p128; replace q128 := eq_true q128; have p129 : 0 ≤ ((rd x9_4 t125) : Int) := of_decide_eq_true (by with_reducible assumption); have q129 : (rd x9_4 t125) < (x13_4.length : Int) := of_decide_eq_true (by with_reducible assumption); obtain ⟨ad129, A129_0, c129_0, e129, hx129_0, hl129_0, hi129_0⟩ := at_L2 (Kd.S_reads' HO_13.out).2.2 (rd x9_4 t125) p129 q129; cases e129; obtain ⟨ce129, hce129, hMe129, hcc129⟩ := Kd.S_get HO_13.out [] (rd x9_4 t125) p129 (by exact q129); obtain ⟨ve129_0, rfl, ge129_0⟩ := hMe129; have hv129_0 := hcc129 0 _ rfl; rw [Nat.add_zero, show ((Kd.slice 3 (Kd.int .i64))).sz = 1 from rfl, Nat.mul_one] at hv129_0; replace hv129_0 := Option.some.inj (hv129_0.symm.trans hx129_0); rw [hv129_0] at ge129_0; have HL129_0 := Aside0.mk (show Kd.R (Kd.int .i64) 3 _ _ _ _ (rd_L2 x13_4 (rd x9_4 t125)) from ge129_0); clear hv129_0 ge129_0; have HX129_0 := Aside0.mk hx129_0; clear hcc129 hce129; have HR129_0 := Aside0.mk hi129_0; have HC129_0 := Aside0.mk hl129_0; clear hi129_0 hl129_0; replace p129 := eq_true p129; replace q129 := eq_true q129; have p130 : 0 ≤ ((rd x9_4 t125) : Int) := of_decide_eq_true (by with_reducible assumption); have q130 : (rd x9_4 t125) < ((rd_L2 x13_4 (rd x9_4 t125)).length : Int) := of_decide_eq_true (by with_reducible assumption); obtain ⟨ad130, e130, hx130_0⟩ := Kd.at_int HR129_0.out (rd x9_4 t125) p130 q130; cases e130; replace p130 := eq_true p130; replace q130 := eq_true q130; have p105 : 0 ≤ ((rd x9_4 t125) : Int) := of_decide_eq_true (by with_reducible assumption); have q105 : ((rd x9_4 t125) : Int) < (((rd_L2 x13_4 (rd x9_4 t125)).length : Int) : Int) := of_decide_eq_true (by with_reducible assumption); obtain ⟨go105, co105, eo105, gb105, gl105, cl105, HG105⟩ := Kd.R_form HL129_0.out (by omega); (cases eo105); have GB105 := Aside0.mk gb105; have GG105 := Aside0.mk HG105; clear gb105 gl105 HG105; (simp only [add_plain] at hx130_0); obtain ⟨hx105_0, hf105_0⟩ := Kd.R_celln 0 HL129_0.out ((rd x9_4 t125) : Int) p105 q105; replace p105 := eq_true p105; replace q105 := eq_true q105; have hq119 : ((rd x9_4 t125) : Int) < (x13_4.length : Int) := (by have h_ : ((rd x9_4 t125) : Int) < ((x13_4.length : Int) : Int) := of_decide_eq_true (by with_reducible assumption); exact h_); obtain ⟨oki119, ce119, hcl119, hM119, hcc119, hok119, hbk119⟩ := Kd.S_borrow HO_13.out [] ((rd x9_4 t125) : Int) (of_decide_eq_true (by with_reducible assumption)) hq119; obtain ⟨ve119_0, rfl, ge119_0⟩ := hM119; have hv119 := hcc119 0 _ rfl; rw [Nat.add_zero, show ((Kd.slice 3 (Kd.int .i64))).sz = 1 from rfl, Nat.mul_one] at hv119; replace hv119 := Option.some.inj (hv119.symm.trans HX129_0.out); subst hv119; clear hcc119 hcl119; replace ge119_0 := (show Kd.R (Kd.int .i64) 3 _ _ _ _ (rd_L2 x13_4 (rd x9_4 t125)) from ge119_0); have HP119 := Kd.R_putg ge119_0 ((rd x9_4 t125) : Int) (wrap64 ((rd (rd_L2 x13_4 (rd x9_4 t125)) (rd x9_4 t125)) + 1))))
                              repeat (go_quiet (fail); try go_wp2_with (first | ((with_reducible refine gate_store (t := 3) (p := 133) rfl ?_); (try (rw [drewN_self w118]; generalize hq_ : World.drewN w118 _ = w118; have n0_ := Aside0.mk (Kd.R_at hq_ HO_9.out); have n1_ := Aside0.mk (Kd.S_at hq_ HO_13.out); have n2_ := Aside0.mk (Kd.R_at hq_ HL129_0.out); have n3_ := Aside0.mk (blk_at hq_ BK101.out); have n4_ := Aside0.mk (blk_at hq_ BK104.out); have n5_ := Aside0.mk (below_at hq_ HB.out); have nx0_ := Aside0.mk (cell_at hq_ HX129_0.out); clear hq_ HO_9 HO_13 HL129_0 BK101 BK104 HB; clear HX129_0; have HX129_0 := nx0_; clear nx0_; have HO_9 := n0_; have HO_13 := n1_; have HL129_0 := n2_; have BK101 := n3_; have BK104 := n4_; have HB := n5_; clear n0_ n1_ n2_ n3_ n4_ n5_; (try (have hq119 : ((rd x9_4 t125) : Int) < (x13_4.length : Int) := (by have h_ : ((rd x9_4 t125) : Int) < ((x13_4.length : Int) : Int) := of_decide_eq_true (by with_reducible assumption); exact h_))); (try (obtain ⟨oki119, ce119, hcl119, hM119, hcc119, hok119, hbk119⟩ := Kd.S_borrow HO_13.out [] ((rd x9_4 t125) : Int) (of_decide_eq_true (by with_reducible assumption)) hq119)); (try (obtain ⟨ve119_0, rfl, ge119_0⟩ := hM119)); (try (have hv119 := hcc119 0 _ rfl)); (try (rw [Nat.add_zero, show ((Kd.slice 3 (Kd.int .i64))).sz = 1 from rfl, Nat.mul_one] at hv119)); (try (replace hv119 := Option.some.inj (hv119.symm.trans HX129_0.out))); (try (subst hv119)); (try (clear hcc119 hcl119)); (try (replace ge119_0 := (show Kd.R (Kd.int .i64) 3 _ _ _ _ (rd_L2 x13_4 (rd x9_4 t125)) from ge119_0))); (try (obtain ⟨hyr_, hzr_⟩ := Kd.R_celln 0 ge119_0 ((rd x9_4 t125) : Int) (of_decide_eq_true (by with_reducible assumption)) (of_decide_eq_true (by with_reducible assumption)))); (try (have HP119 := Kd.R_putg ge119_0 ((rd x9_4 t125) : Int) (wrap64 ((rd (rd_L2 x13_4 (rd x9_4 t125)) (rd x9_4 t125)) + 1)))))); refine store_event (t := 3) (p := 133) (v := ?vo_w120) (w1 := (w118.setCell ⟨go105, ((rd x9_4 t125) : Int).toNat, none⟩ (.int .i64 (wrap64 ((rd (rd_L2 x13_4 (rd x9_4 t125)) (rd x9_4 t125)) + 1))))) ?hg ?ho ?hn ?hr ?_; (case ho => rfl); (case hg => rfl); (case hn => rfl); (case hr => (go_simp; done)); intro w120 hw; have hg : w118.grownBy w120 (some go105) := (by rw [hw]; exact HP119.2); have hz_ : Kd.R (Kd.int .i64) 3 w120 w.heap.size oki119 (.slice (some ⟨go105, 0, none⟩) (rd_L2 x13_4 (rd x9_4 t125)).length c129_0) y131 := (by rw [hw, Ny131.out]; exact HP119.1); have hp_ : Kd.S (Kd.slice 3 (Kd.int .i64)) 29 w120 w.heap.size (fun k_ => some k_ ≠ (.slice (some ad127) x9_4.length co49 : Value).ownBlock) (.slice (some ad129) x13_4.length co78) y133 := (by rw [Ny133.out]; exact hbk119 hg (fun k_ e_ => by injection e_ with e_; subst e_; exact ge119_0.1 _ rfl) (Kd.M_row hz_)); have hm_ := Kd.R_mono hz_ hok119; clear HP119 hbk119; have n0_ := Aside0.mk (Kd.R_grown1 HO_9.out rfl hg ((HL129_0.out.1 _ rfl).1)); have n1_ := Aside0.mk (hp_); have n2_ := Aside0.mk (blk_grown (g := gb101) (o := .cells #[.int .i64 a0_0, .int .i64 a0_1] 40 (0, 0)) BK101.out hg (Kd.R_ne HL129_0.out BK101.out (by decide))); have n3_ := Aside0.mk (blk_grown (g := gb104) (o := .cells #[.int .i64 a0_0, .int .i64 a0_1, .int .i64 a1] 42 (0, 0)) BK104.out hg (Kd.R_ne HL129_0.out BK104.out (by decide))); have n4_ := Aside0.mk ((by rw [hw]; exact below_set (HB.out) GB105.out : Below w.heap.size w w120)); have n5_ := Aside0.mk (hm_); have n6_ := Aside0.mk ((Kd.R_reads' hm_).2.1); clear HO_9; clear HO_13; clear BK101; clear BK104; clear HB; clear HL129_0; have HO_9 := n0_; have HO_13 := n1_; have BK101 := n2_; have BK104 := n3_; have HB := n4_; have HL153 := n5_; have HC132 := n6_; clear n0_ n1_ n2_ n3_ n4_ n5_ n6_; clear hg hw hp_ hz_ hm_ hok119; have p134 : 0 ≤ ((rd x9_4 t126) : Int) := of_decide_eq_true (by with_reducible assumption); have q134 : (rd x9_4 t126) < (y133.length : Int) := (by have h_ : ((rd x9_4 t126) : Int) < ((x13_4.length : Int) : Int) := of_decide_eq_true (by with_reducible assumption); (have e_ := (Kd.S_reads' HO_13.out).1; omega)); have ql134 : (((rd x9_4 t126) : Int) < ((x13_4.length : Int) : Int)) = True := eq_true (of_decide_eq_true (by with_reducible assumption)); obtain ⟨ad134, A134_0, c134_0, e134, hx134_0, hl134_0, hi134_0⟩ := at_L2 (Kd.S_reads' HO_13.out).2.2 (rd x9_4 t126) p134 q134; obtain rfl : ad129 = ad134 := (by injection e134); obtain ⟨ce134, hce134, hMe134, hcc134⟩ := Kd.S_get HO_13.out [] (rd x9_4 t126) p134 (by exact of_decide_eq_true (by with_reducible assumption)); obtain ⟨ve134_0, rfl, ge134_0⟩ := hMe134; have hv134_0 := hcc134 0 _ rfl; rw [Nat.add_zero, show ((Kd.slice 3 (Kd.int .i64))).sz = 1 from rfl, Nat.mul_one] at hv134_0; replace hv134_0 := Option.some.inj (hv134_0.symm.trans hx134_0); rw [hv134_0] at ge134_0; have HL134_0 := Aside0.mk (show Kd.R (Kd.int .i64) 3 _ _ _ _ (rd_L2 y133 (rd x9_4 t126)) from ge134_0); clear hv134_0 ge134_0; have HX134_0 := Aside0.mk hx134_0; clear hcc134 hce134; have HR134_0 := Aside0.mk hi134_0; have HC134_0 := Aside0.mk hl134_0; clear hi134_0 hl134_0; replace p134 := eq_true p134; replace q134 := eq_true q134; have p135 : 0 ≤ ((rd x9_4 t126) : Int) := of_decide_eq_true (by with_reducible assumption); have q135 : (rd x9_4 t126) < ((rd_L2 y133 (rd x9_4 t126)).length : Int) := of_decide_eq_true (by with_reducible assumption); obtain ⟨ad135, e135, hx135_0⟩ := Kd.at_int HR134_0.out (rd x9_4 t126) p135 q135; cases e135; replace p135 := eq_true p135; replace q135 := eq_true q135; have p109 : 0 ≤ ((rd x9_4 t126) : Int) := of_decide_eq_true (by with_reducible assumption); have q109 : ((rd x9_4 t126) : Int) < (((rd_L2 y133 (rd x9_4 t126)).length : Int) : Int) := of_decide_eq_true (by with_reducible assumption); obtain ⟨go109, co109, eo109, gb109, gl109, cl109, HG109⟩ := Kd.R_form HL134_0.out (by omega); (cases eo109); have GB109 := Aside0.mk gb109; have GG109 := Aside0.mk HG109; clear gb109 gl109 HG109; (simp only [add_plain] at hx135_0); obtain ⟨hx109_0, hf109_0⟩ := Kd.R_celln 0 HL134_0.out ((rd x9_4 t126) : Int) p109 q109; replace p109 := eq_true p109; replace q109 := eq_true q109; have hq121 : ((rd x9_4 t126) : Int) < (x13_4.length : Int) := (by have h_ : ((rd x9_4 t126) : Int) < ((x13_4.length : Int) : Int) := of_decide_eq_true (by with_reducible assumption); exact h_); obtain ⟨oki121, ce121, hcl121, hM121, hcc121, hok121, hbk121⟩ := Kd.S_borrow HO_13.out [] ((rd x9_4 t126) : Int) (of_decide_eq_true (by with_reducible assumption)) hq121; obtain ⟨ve121_0, rfl, ge121_0⟩ := hM121; have hv121 := hcc121 0 _ rfl; rw [Nat.add_zero, show ((Kd.slice 3 (Kd.int .i64))).sz = 1 from rfl, Nat.mul_one] at hv121; replace hv121 := Option.some.inj (hv121.symm.trans HX134_0.out); subst hv121; clear hcc121 hcl121; replace ge121_0 := (show Kd.R (Kd.int .i64) 3 _ _ _ _ (rd_L2 y133 (rd x9_4 t126)) from ge121_0); have HP121 := Kd.R_putg ge121_0 ((rd x9_4 t126) : Int) (wrap64 ((rd (rd_L2 y133 (rd x9_4 t126)) (rd x9_4 t126)) + 1))) | ((with_reducible refine gate_store (t := 3) (p := 142) rfl ?_); (try (rw [drewN_self w120]; generalize hq_ : World.drewN w120 _ = w120; have n0_ := Aside0.mk (Kd.R_at hq_ HO_9.out); have n1_ := Aside0.mk (Kd.S_at hq_ HO_13.out); have n2_ := Aside0.mk (Kd.R_at hq_ HL134_0.out); have n3_ := Aside0.mk (blk_at hq_ BK101.out); have n4_ := Aside0.mk (blk_at hq_ BK104.out); have n5_ := Aside0.mk (below_at hq_ HB.out); have nx0_ := Aside0.mk (cell_at hq_ HX134_0.out); clear hq_ HO_9 HO_13 HL134_0 BK101 BK104 HB; clear HX134_0; have HX134_0 := nx0_; clear nx0_; have HO_9 := n0_; have HO_13 := n1_; have HL134_0 := n2_; have BK101 := n3_; have BK104 := n4_; have HB := n5_; clear n0_ n1_ n2_ n3_ n4_ n5_; (try (have hq121 : ((rd x9_4 t126) : Int) < (x13_4.length : Int) := (by have h_ : ((rd x9_4 t126) : Int) < ((x13_4.length : Int) : Int) := of_decide_eq_true (by fail); fail))); (try (obtain ⟨oki121, ce121, hcl121, hM121, hcc121, hok121, hbk121⟩ := Kd.S_borrow HO_13.out [] ((rd x9_4 t126) : Int) (of_decide_eq_true (by fail)) hq121)); (try (obtain ⟨ve121_0, rfl, ge121_0⟩ := hM121)); (try (have hv121 := hcc121 0 _ rfl)); (try (rw [Nat.add_zero, show ((Kd.slice 3 (Kd.int .i64))).sz = 1 from rfl, Nat.mul_one] at hv121)); (try (replace hv121 := Option.some.inj (hv121.symm.trans HX134_0.out))); (try (subst hv121)); (try (clear hcc121 hcl121)); (try (replace ge121_0 := (show Kd.R (Kd.int .i64) 3 _ _ _ _ (rd_L2 y133 (rd x9_4 t126)) from ge121_0))); (try (obtain ⟨hyr_, hzr_⟩ := Kd.R_celln 0 ge121_0 ((rd x9_4 t126) : Int) (of_decide_eq_true (by fail)) (of_decide_eq_true (by fail)))); (try (have HP121 := Kd.R_putg ge121_0 ((rd x9_4 t126) : Int) (wrap64 ((rd (rd_L2 y133 (rd x9_4 t126)) (rd x9_4 t126)) + 1)))))); refine store_event (t := 3) (p := 142) (v := ?vo_w122) (w1 := (w120.setCell ⟨go109, ((rd x9_4 t126) : Int).toNat, none⟩ (.int .i64 (wrap64 ((rd (rd_L2 y133 (rd x9_4 t126)) (rd x9_4 t126)) + 1))))) ?hg ?ho ?hn ?hr ?_; (case ho => rfl); (case hg => rfl); (case hn => rfl); (case hr => (go_simp; done)); intro w122 hw; have hg : w120.grownBy w122 (some go109) := (by rw [hw]; exact HP121.2); have hz_ : Kd.R (Kd.int .i64) 3 w122 w.heap.size oki121 (.slice (some ⟨go109, 0, none⟩) (rd_L2 y133 (rd x9_4 t126)).length c134_0) y136 := (by rw [hw, Ny136.out]; exact HP121.1); have hp_ : Kd.S (Kd.slice 3 (Kd.int .i64)) 29 w122 w.heap.size (fun k_ => some k_ ≠ (.slice (some ad127) x9_4.length co49 : Value).ownBlock) (.slice (some ad129) x13_4.length co78) y138 := (by rw [Ny138.out]; exact hbk121 hg (fun k_ e_ => by injection e_ with e_; subst e_; exact ge121_0.1 _ rfl) (Kd.M_row hz_)); have hm_ := Kd.R_mono hz_ hok121; clear HP121 hbk121; have n0_ := Aside0.mk (Kd.R_grown1 HO_9.out rfl hg ((HL134_0.out.1 _ rfl).1)); have n1_ := Aside0.mk (hp_); have n2_ := Aside0.mk (blk_grown (g := gb101) (o := .cells #[.int .i64 a0_0, .int .i64 a0_1] 40 (0, 0)) BK101.out hg (Kd.R_ne HL134_0.out BK101.out (by decide))); have n3_ := Aside0.mk (blk_grown (g := gb104) (o := .cells #[.int .i64 a0_0, .int .i64 a0_1, .int .i64 a1] 42 (0, 0)) BK104.out hg (Kd.R_ne HL134_0.out BK104.out (by decide))); have n4_ := Aside0.mk ((by rw [hw]; exact below_set (HB.out) GB109.out : Below w.heap.size w w122)); have n5_ := Aside0.mk (hm_); have n6_ := Aside0.mk ((Kd.R_reads' hm_).2.1); clear HO_9; clear HO_13; clear BK101; clear BK104; clear HB; clear HL153; clear HL134_0; have HO_9 := n0_; have HO_13 := n1_; have BK101 := n2_; have BK104 := n3_; have HB := n4_; have HL154 := n5_; have HC137 := n6_; clear n0_ n1_ n2_ n3_ n4_ n5_ n6_; clear hg hw hp_ hz_ hm_ hok121; have p139 : 0 ≤ ((rd x9_4 t125) : Int) := of_decide_eq_true (by with_reducible assumption); have q139 : (rd x9_4 t125) < (y138.length : Int) := (by have h_ : ((rd x9_4 t125) : Int) < ((x13_4.length : Int) : Int) := of_decide_eq_true (by with_reducible assumption); (have e_ := (Kd.S_reads' HO_13.out).1; omega)); have ql139 : (((rd x9_4 t125) : Int) < ((x13_4.length : Int) : Int)) = True := eq_true (of_decide_eq_true (by with_reducible assumption)); obtain ⟨ad139, A139_0, c139_0, e139, hx139_0, hl139_0, hi139_0⟩ := at_L2 (Kd.S_reads' HO_13.out).2.2 (rd x9_4 t125) p139 q139; obtain rfl : ad129 = ad139 := (by injection e139); obtain ⟨ce139, hce139, hMe139, hcc139⟩ := Kd.S_get HO_13.out [] (rd x9_4 t125) p139 (by exact of_decide_eq_true (by with_reducible assumption)); obtain ⟨ve139_0, rfl, ge139_0⟩ := hMe139; have hv139_0 := hcc139 0 _ rfl; rw [Nat.add_zero, show ((Kd.slice 3 (Kd.int .i64))).sz = 1 from rfl, Nat.mul_one] at hv139_0; replace hv139_0 := Option.some.inj (hv139_0.symm.trans hx139_0); rw [hv139_0] at ge139_0; have HL139_0 := Aside0.mk (show Kd.R (Kd.int .i64) 3 _ _ _ _ (rd_L2 y138 (rd x9_4 t125)) from ge139_0); clear hv139_0 ge139_0; have HX139_0 := Aside0.mk hx139_0; clear hcc139 hce139; have HR139_0 := Aside0.mk hi139_0; have HC139_0 := Aside0.mk hl139_0; clear hi139_0 hl139_0; replace p139 := eq_true p139; replace q139 := eq_true q139; have p140 : 0 ≤ ((rd x9_4 t126) : Int) := of_decide_eq_true (by with_reducible assumption); have q140 : (rd x9_4 t126) < ((rd_L2 y138 (rd x9_4 t125)).length : Int) := of_decide_eq_true (by with_reducible assumption); obtain ⟨ad140, e140, hx140_0⟩ := Kd.at_int HR139_0.out (rd x9_4 t126) p140 q140; cases e140; replace p140 := eq_true p140; replace q140 := eq_true q140; have p111 : 0 ≤ ((rd x9_4 t126) : Int) := of_decide_eq_true (by with_reducible assumption); have q111 : ((rd x9_4 t126) : Int) < (((rd_L2 y138 (rd x9_4 t125)).length : Int) : Int) := of_decide_eq_true (by with_reducible assumption); obtain ⟨go111, co111, eo111, gb111, gl111, cl111, HG111⟩ := Kd.R_form HL139_0.out (by omega); (cases eo111); have GB111 := Aside0.mk gb111; have GG111 := Aside0.mk HG111; clear gb111 gl111 HG111; (simp only [add_plain] at hx140_0); obtain ⟨hx111_0, hf111_0⟩ := Kd.R_celln 0 HL139_0.out ((rd x9_4 t126) : Int) p111 q111; replace p111 := eq_true p111; replace q111 := eq_true q111; have hq123 : ((rd x9_4 t125) : Int) < (x13_4.length : Int) := (by have h_ : ((rd x9_4 t125) : Int) < ((x13_4.length : Int) : Int) := of_decide_eq_true (by with_reducible assumption); exact h_); obtain ⟨oki123, ce123, hcl123, hM123, hcc123, hok123, hbk123⟩ := Kd.S_borrow HO_13.out [] ((rd x9_4 t125) : Int) (of_decide_eq_true (by with_reducible assumption)) hq123; obtain ⟨ve123_0, rfl, ge123_0⟩ := hM123; have hv123 := hcc123 0 _ rfl; rw [Nat.add_zero, show ((Kd.slice 3 (Kd.int .i64))).sz = 1 from rfl, Nat.mul_one] at hv123; replace hv123 := Option.some.inj (hv123.symm.trans HX139_0.out); subst hv123; clear hcc123 hcl123; replace ge123_0 := (show Kd.R (Kd.int .i64) 3 _ _ _ _ (rd_L2 y138 (rd x9_4 t125)) from ge123_0); have HP123 := Kd.R_putg ge123_0 ((rd x9_4 t126) : Int) (wrap64 ((rd (rd_L2 y138 (rd x9_4 t125)) (rd x9_4 t126)) - 1))) | ((with_reducible refine gate_store (t := 3) (p := 151) rfl ?_); (try (rw [drewN_self w122]; generalize hq_ : World.drewN w122 _ = w122; have n0_ := Aside0.mk (Kd.R_at hq_ HO_9.out); have n1_ := Aside0.mk (Kd.S_at hq_ HO_13.out); have n2_ := Aside0.mk (Kd.R_at hq_ HL139_0.out); have n3_ := Aside0.mk (blk_at hq_ BK101.out); have n4_ := Aside0.mk (blk_at hq_ BK104.out); have n5_ := Aside0.mk (below_at hq_ HB.out); have nx0_ := Aside0.mk (cell_at hq_ HX139_0.out); clear hq_ HO_9 HO_13 HL139_0 BK101 BK104 HB; clear HX139_0; have HX139_0 := nx0_; clear nx0_; have HO_9 := n0_; have HO_13 := n1_; have HL139_0 := n2_; have BK101 := n3_; have BK104 := n4_; have HB := n5_; clear n0_ n1_ n2_ n3_ n4_ n5_; (try (have hq123 : ((rd x9_4 t125) : Int) < (x13_4.length : Int) := (by have h_ : ((rd x9_4 t125) : Int) < ((x13_4.length : Int) : Int) := of_decide_eq_true (by fail); fail))); (try (obtain ⟨oki123, ce123, hcl123, hM123, hcc123, hok123, hbk123⟩ := Kd.S_borrow HO_13.out [] ((rd x9_4 t125) : Int) (of_decide_eq_true (by fail)) hq123)); (try (obtain ⟨ve123_0, rfl, ge123_0⟩ := hM123)); (try (have hv123 := hcc123 0 _ rfl)); (try (rw [Nat.add_zero, show ((Kd.slice 3 (Kd.int .i64))).sz = 1 from rfl, Nat.mul_one] at hv123)); (try (replace hv123 := Option.some.inj (hv123.symm.trans HX139_0.out))); (try (subst hv123)); (try (clear hcc123 hcl123)); (try (replace ge123_0 := (show Kd.R (Kd.int .i64) 3 _ _ _ _ (rd_L2 y138 (rd x9_4 t125)) from ge123_0))); (try (obtain ⟨hyr_, hzr_⟩ := Kd.R_celln 0 ge123_0 ((rd x9_4 t126) : Int) (of_decide_eq_true (by fail)) (of_decide_eq_true (by fail)))); (try (have HP123 := Kd.R_putg ge123_0 ((rd x9_4 t126) : Int) (wrap64 ((rd (rd_L2 y138 (rd x9_4 t125)) (rd x9_4 t126)) - 1)))))); refine store_event (t := 3) (p := 151) (v := ?vo_w124) (w1 := (w122.setCell ⟨go111, ((rd x9_4 t126) : Int).toNat, none⟩ (.int .i64 (wrap64 ((rd (rd_L2 y138 (rd x9_4 t125)) (rd x9_4 t126)) - 1))))) ?hg ?ho ?hn ?hr ?_; (case ho => rfl); (case hg => rfl); (case hn => rfl); (case hr => (go_simp; done)); intro w124 hw; have hg : w122.grownBy w124 (some go111) := (by rw [hw]; exact HP123.2); have hz_ : Kd.R (Kd.int .i64) 3 w124 w.heap.size oki123 (.slice (some ⟨go111, 0, none⟩) (rd_L2 y138 (rd x9_4 t125)).length c139_0) y141 := (by rw [hw, Ny141.out]; exact HP123.1); have hp_ : Kd.S (Kd.slice 3 (Kd.int .i64)) 29 w124 w.heap.size (fun k_ => some k_ ≠ (.slice (some ad127) x9_4.length co49 : Value).ownBlock) (.slice (some ad129) x13_4.length co78) y143 := (by rw [Ny143.out]; exact hbk123 hg (fun k_ e_ => by injection e_ with e_; subst e_; exact ge123_0.1 _ rfl) (Kd.M_row hz_)); have hm_ := Kd.R_mono hz_ hok123; clear HP123 hbk123; have n0_ := Aside0.mk (Kd.R_grown1 HO_9.out rfl hg ((HL139_0.out.1 _ rfl).1)); have n1_ := Aside0.mk (hp_); have n2_ := Aside0.mk (blk_grown (g := gb101) (o := .cells #[.int .i64 a0_0, .int .i64 a0_1] 40 (0, 0)) BK101.out hg (Kd.R_ne HL139_0.out BK101.out (by decide))); have n3_ := Aside0.mk (blk_grown (g := gb104) (o := .cells #[.int .i64 a0_0, .int .i64 a0_1, .int .i64 a1] 42 (0, 0)) BK104.out hg (Kd.R_ne HL139_0.out BK104.out (by decide))); have n4_ := Aside0.mk ((by rw [hw]; exact below_set (HB.out) GB111.out : Below w.heap.size w w124)); have n5_ := Aside0.mk (hm_); have n6_ := Aside0.mk ((Kd.R_reads' hm_).2.1); clear HO_9; clear HO_13; clear BK101; clear BK104; clear HB; clear HL154; clear HL139_0; have HO_9 := n0_; have HO_13 := n1_; have BK101 := n2_; have BK104 := n3_; have HB := n4_; have HL155 := n5_; have HC142 := n6_; clear n0_ n1_ n2_ n3_ n4_ n5_ n6_; clear hg hw hp_ hz_ hm_ hok123; have p144 : 0 ≤ ((rd x9_4 t126) : Int) := of_decide_eq_true (by with_reducible assumption); have q144 : (rd x9_4 t126) < (y143.length : Int) := (by have h_ : ((rd x9_4 t126) : Int) < ((x13_4.length : Int) : Int) := of_decide_eq_true (by with_reducible assumption); (have e_ := (Kd.S_reads' HO_13.out).1; omega)); have ql144 : (((rd x9_4 t126) : Int) < ((x13_4.length : Int) : Int)) = True := eq_true (of_decide_eq_true (by with_reducible assumption)); obtain ⟨ad144, A144_0, c144_0, e144, hx144_0, hl144_0, hi144_0⟩ := at_L2 (Kd.S_reads' HO_13.out).2.2 (rd x9_4 t126) p144 q144; obtain rfl : ad129 = ad144 := (by injection e144); obtain ⟨ce144, hce144, hMe144, hcc144⟩ := Kd.S_get HO_13.out [] (rd x9_4 t126) p144 (by exact of_decide_eq_true (by with_reducible assumption)); obtain ⟨ve144_0, rfl, ge144_0⟩ := hMe144; have hv144_0 := hcc144 0 _ rfl; rw [Nat.add_zero, show ((Kd.slice 3 (Kd.int .i64))).sz = 1 from rfl, Nat.mul_one] at hv144_0; replace hv144_0 := Option.some.inj (hv144_0.symm.trans hx144_0); rw [hv144_0] at ge144_0; have HL144_0 := Aside0.mk (show Kd.R (Kd.int .i64) 3 _ _ _ _ (rd_L2 y143 (rd x9_4 t126)) from ge144_0); clear hv144_0 ge144_0; have HX144_0 := Aside0.mk hx144_0; clear hcc144 hce144; have HR144_0 := Aside0.mk hi144_0; have HC144_0 := Aside0.mk hl144_0; clear hi144_0 hl144_0; replace p144 := eq_true p144; replace q144 := eq_true q144; have p145 : 0 ≤ ((rd x9_4 t125) : Int) := of_decide_eq_true (by with_reducible assumption); have q145 : (rd x9_4 t125) < ((rd_L2 y143 (rd x9_4 t126)).length : Int) := of_decide_eq_true (by with_reducible assumption); obtain ⟨ad145, e145, hx145_0⟩ := Kd.at_int HR144_0.out (rd x9_4 t125) p145 q145; cases e145; replace p145 := eq_true p145; replace q145 := eq_true q145; have p113 : 0 ≤ ((rd x9_4 t125) : Int) := of_decide_eq_true (by with_reducible assumption); have q113 : ((rd x9_4 t125) : Int) < (((rd_L2 y143 (rd x9_4 t126)).length : Int) : Int) := of_decide_eq_true (by with_reducible assumption); obtain ⟨go113, co113, eo113, gb113, gl113, cl113, HG113⟩ := Kd.R_form HL144_0.out (by omega); (cases eo113); have GB113 := Aside0.mk gb113; have GG113 := Aside0.mk HG113; clear gb113 gl113 HG113; (simp only [add_plain] at hx145_0); obtain ⟨hx113_0, hf113_0⟩ := Kd.R_celln 0 HL144_0.out ((rd x9_4 t125) : Int) p113 q113; replace p113 := eq_true p113; replace q113 := eq_true q113; have hq125 : ((rd x9_4 t126) : Int) < (x13_4.length : Int) := (by have h_ : ((rd x9_4 t126) : Int) < ((x13_4.length : Int) : Int) := of_decide_eq_true (by with_reducible assumption); exact h_); obtain ⟨oki125, ce125, hcl125, hM125, hcc125, hok125, hbk125⟩ := Kd.S_borrow HO_13.out [] ((rd x9_4 t126) : Int) (of_decide_eq_true (by with_reducible assumption)) hq125; obtain ⟨ve125_0, rfl, ge125_0⟩ := hM125; have hv125 := hcc125 0 _ rfl; rw [Nat.add_zero, show ((Kd.slice 3 (Kd.int .i64))).sz = 1 from rfl, Nat.mul_one] at hv125; replace hv125 := Option.some.inj (hv125.symm.trans HX144_0.out); subst hv125; clear hcc125 hcl125; replace ge125_0 := (show Kd.R (Kd.int .i64) 3 _ _ _ _ (rd_L2 y143 (rd x9_4 t126)) from ge125_0); have HP125 := Kd.R_putg ge125_0 ((rd x9_4 t125) : Int) (wrap64 ((rd (rd_L2 y143 (rd x9_4 t126)) (rd x9_4 t125)) - 1))) | ((with_reducible refine gate_store (t := 3) (p := 160) rfl ?_); (try (rw [drewN_self w124]; generalize hq_ : World.drewN w124 _ = w124; have n0_ := Aside0.mk (Kd.R_at hq_ HO_9.out); have n1_ := Aside0.mk (Kd.S_at hq_ HO_13.out); have n2_ := Aside0.mk (Kd.R_at hq_ HL144_0.out); have n3_ := Aside0.mk (blk_at hq_ BK101.out); have n4_ := Aside0.mk (blk_at hq_ BK104.out); have n5_ := Aside0.mk (below_at hq_ HB.out); have nx0_ := Aside0.mk (cell_at hq_ HX144_0.out); clear hq_ HO_9 HO_13 HL144_0 BK101 BK104 HB; clear HX144_0; have HX144_0 := nx0_; clear nx0_; have HO_9 := n0_; have HO_13 := n1_; have HL144_0 := n2_; have BK101 := n3_; have BK104 := n4_; have HB := n5_; clear n0_ n1_ n2_ n3_ n4_ n5_; (try (have hq125 : ((rd x9_4 t126) : Int) < (x13_4.length : Int) := (by have h_ : ((rd x9_4 t126) : Int) < ((x13_4.length : Int) : Int) := of_decide_eq_true (by fail); fail))); (try (obtain ⟨oki125, ce125, hcl125, hM125, hcc125, hok125, hbk125⟩ := Kd.S_borrow HO_13.out [] ((rd x9_4 t126) : Int) (of_decide_eq_true (by fail)) hq125)); (try (obtain ⟨ve125_0, rfl, ge125_0⟩ := hM125)); (try (have hv125 := hcc125 0 _ rfl)); (try (rw [Nat.add_zero, show ((Kd.slice 3 (Kd.int .i64))).sz = 1 from rfl, Nat.mul_one] at hv125)); (try (replace hv125 := Option.some.inj (hv125.symm.trans HX144_0.out))); (try (subst hv125)); (try (clear hcc125 hcl125)); (try (replace ge125_0 := (show Kd.R (Kd.int .i64) 3 _ _ _ _ (rd_L2 y143 (rd x9_4 t126)) from ge125_0))); (try (obtain ⟨hyr_, hzr_⟩ := Kd.R_celln 0 ge125_0 ((rd x9_4 t125) : Int) (of_decide_eq_true (by fail)) (of_decide_eq_true (by fail)))); (try (have HP125 := Kd.R_putg ge125_0 ((rd x9_4 t125) : Int) (wrap64 ((rd (rd_L2 y143 (rd x9_4 t126)) (rd x9_4 t125)) - 1)))))); refine store_event (t := 3) (p := 160) (v := ?vo_w126) (w1 := (w124.setCell ⟨go113, ((rd x9_4 t125) : Int).toNat, none⟩ (.int .i64 (wrap64 ((rd (rd_L2 y143 (rd x9_4 t126)) (rd x9_4 t125)) - 1))))) ?hg ?ho ?hn ?hr ?_; (case ho => rfl); (case hg => rfl); (case hn => rfl); (case hr => (go_simp; done)); intro w126 hw; have hg : w124.grownBy w126 (some go113) := (by rw [hw]; exact HP125.2); have hz_ : Kd.R (Kd.int .i64) 3 w126 w.heap.size oki125 (.slice (some ⟨go113, 0, none⟩) (rd_L2 y143 (rd x9_4 t126)).length c144_0) y146 := (by rw [hw, Ny146.out]; exact HP125.1); have hp_ : Kd.S (Kd.slice 3 (Kd.int .i64)) 29 w126 w.heap.size (fun k_ => some k_ ≠ (.slice (some ad127) x9_4.length co49 : Value).ownBlock) (.slice (some ad129) x13_4.length co78) y148 := (by rw [Ny148.out]; exact hbk125 hg (fun k_ e_ => by injection e_ with e_; subst e_; exact ge125_0.1 _ rfl) (Kd.M_row hz_)); have hm_ := Kd.R_mono hz_ hok125; clear HP125 hbk125; have n0_ := Aside0.mk (Kd.R_grown1 HO_9.out rfl hg ((HL144_0.out.1 _ rfl).1)); have n1_ := Aside0.mk (hp_); have n2_ := Aside0.mk (blk_grown (g := gb101) (o := .cells #[.int .i64 a0_0, .int .i64 a0_1] 40 (0, 0)) BK101.out hg (Kd.R_ne HL144_0.out BK101.out (by decide))); have n3_ := Aside0.mk (blk_grown (g := gb104) (o := .cells #[.int .i64 a0_0, .int .i64 a0_1, .int .i64 a1] 42 (0, 0)) BK104.out hg (Kd.R_ne HL144_0.out BK104.out (by decide))); have n4_ := Aside0.mk ((by rw [hw]; exact below_set (HB.out) GB113.out : Below w.heap.size w w126)); have n5_ := Aside0.mk (hm_); have n6_ := Aside0.mk ((Kd.R_reads' hm_).2.1); clear HO_9; clear HO_13; clear BK101; clear BK104; clear HB; clear HL155; clear HL144_0; have HO_9 := n0_; have HO_13 := n1_; have BK101 := n2_; have BK104 := n3_; have HB := n4_; have HL156 := n5_; have HC147 := n6_; clear n0_ n1_ n2_ n3_ n4_ n5_ n6_; clear hg hw hp_ hz_ hm_ hok125)))
                              (try simp only [← hl9_4, ← hl13_4])
                              go_roundg k4
                              case measure => have := HJ6.out; have := HK2.out; have := HK3.out; have := HK4.out; omega
                              case rel => exact ⟨(x9_4), (y148), (wrap64 (x15_4 + 1)), (by rfl), H', ⟨by have := HJ6.out; have := HK2.out; have := HK3.out; have := HK4.out; omega⟩, ⟨by (try simp only [hl9_2]); (try simp only [hl13_3]); (try simp only [hl9_4]); (try simp only [hl13_4]); exact HO_9.out⟩, ⟨by (try simp only [hl9_2]); (try simp only [hl13_3]); (try simp only [hl9_4]); (try simp only [hl13_4]); exact HO_13.out⟩, ⟨by (try simp only [hl9_2]); (try simp only [hl13_3]); (try simp only [hl9_4]); (try simp only [hl13_4]); exact BK101.out⟩, ⟨by (try simp only [hl9_2]); (try simp only [hl13_3]); (try simp only [hl9_4]); (try simp only [hl13_4]); exact BK104.out⟩, ⟨by repeat ((with_reducible exact HB.out))⟩⟩
                          · rw [if_neg c90] at H
                            have c90b0 : decide (x15_4 < t124) = false := decide_eq_false c90
                            clear c90
                            obtain ⟨t149, A1270, H⟩ := Option.bind_eq_some_iff.mp H
                            (try dsimp only at H); have A127 := Aside0.mk A1270; clear A1270
                            obtain ⟨t152, A1280, H⟩ := Option.bind_eq_some_iff.mp H
                            (try dsimp only at H); have A128 := Aside0.mk A1280; clear A1280
                            obtain rfl := Option.some.inj H
                            have hnb129 := NB101_104.out
                            have hnc129 := NB104_101.out
                            obtain ⟨hcz130_0, hcz130_1⟩ := kk2_ BK101.1
                            have hfz130_0 := blk_frozen BK101.out 0
                            have hfz130_1 := blk_frozen BK101.out 1
                            go_wp2_with (first | (go_at_call 78; (with_reducible refine (impl_CountGaps.calls a0_0 a0_1 t124 _ A89.out).mono ?_); rintro e w131 ⟨rfl, hb⟩; have n0_ := Aside0.mk (Kd.R_below HO_9.out hb); have n1_ := Aside0.mk (Kd.S_below HO_13.out hb); have n2_ := Aside0.mk (blk_below (g := gb101) (o := .cells #[.int .i64 a0_0, .int .i64 a0_1] 40 (0, 0)) BK101.out hb); have n3_ := Aside0.mk (blk_below (g := gb104) (o := .cells #[.int .i64 a0_0, .int .i64 a0_1, .int .i64 a1] 42 (0, 0)) BK104.out hb); have n4_ := Aside0.mk (below_step HB.out hb); clear HO_9; clear HO_13; clear BK101; clear BK104; clear HB; have HO_9 := n0_; have HO_13 := n1_; have BK101 := n2_; have BK104 := n3_; have HB := n4_; clear n0_ n1_ n2_ n3_ n4_; (try clear hb); (try clear hb2); (try clear hk); (try clear hi)) | (go_at_call 58; (with_reducible refine (impl_without.calls k4 _ _ x13_4 0 t149 _ ?side1 ?side2 A127.out).mono ?_); (case side1 => repeat (exact (Kd.S_reads' HO_13.out).2.2)); (case side2 => exact (Kd.S_reads' HO_13.out).2.1); rintro e w132 ⟨v150, rfl, ho0, hb⟩; have n0_ := Aside0.mk (Kd.R_below HO_9.out hb); have n1_ := Aside0.mk (Kd.S_elder' HO_13.out (Kd.S_base ho0) hb); have n2_ := Aside0.mk (Kd.S_lower (Kd.S_new' (Kd.S_new' ho0 (Kd.R_lt HO_9.out)) (Kd.S_lt HO_13.out)) (below_size HB.out)); have n3_ := Aside0.mk (blk_below (g := gb101) (o := .cells #[.int .i64 a0_0, .int .i64 a0_1] 40 (0, 0)) BK101.out hb); have n4_ := Aside0.mk (blk_below (g := gb104) (o := .cells #[.int .i64 a0_0, .int .i64 a0_1, .int .i64 a1] 42 (0, 0)) BK104.out hb); have n5_ := Aside0.mk (below_step HB.out hb); clear HO_9; clear HO_13; clear BK101; clear BK104; clear HB; have HO_9 := n0_; have HO_13 := n1_; have HO151 := n2_; have BK101 := n3_; have BK104 := n4_; have HB := n5_; clear n0_ n1_ n2_ n3_ n4_ n5_; (try clear hb); (try clear hb2); (try clear hk); (try clear hi); (try clear ho0); obtain ⟨Ao133, co133, eo133⟩ := Kd.S_slice HO151.out; subst eo133) | (go_at_call 57; (with_reducible refine (impl_determinant.calls k4 _ _ t149 t152 _ ?side1 ?side2 A128.out).mono ?_); (case side1 => repeat (exact (Kd.S_reads' HO151.out).2.2)); (case side2 => exact (Kd.S_reads' HO151.out).2.1); rintro e w134 ⟨rfl, hb⟩; have n0_ := Aside0.mk (Kd.R_below HO_9.out hb); have n1_ := Aside0.mk (Kd.S_below HO_13.out hb); have n2_ := Aside0.mk (Kd.S_below HO151.out hb); have n3_ := Aside0.mk (blk_below (g := gb101) (o := .cells #[.int .i64 a0_0, .int .i64 a0_1] 40 (0, 0)) BK101.out hb); have n4_ := Aside0.mk (blk_below (g := gb104) (o := .cells #[.int .i64 a0_0, .int .i64 a0_1, .int .i64 a1] 42 (0, 0)) BK104.out hb); have n5_ := Aside0.mk (below_step HB.out hb); clear HO_9; clear HO_13; clear HO151; clear BK101; clear BK104; clear HB; have HO_9 := n0_; have HO_13 := n1_; have HO151 := n2_; have BK101 := n3_; have BK104 := n4_; have HB := n5_; clear n0_ n1_ n2_ n3_ n4_ n5_; (try clear hb); (try clear hb2); (try clear hk); (try clear hi)))
                            repeat (go_quiet (fail); try go_wp2_with (fail))
                            go_ret
                            exact ⟨by rfl, by repeat ((with_reducible exact HB.out))⟩

end Go.Proofs.Ytoohcdfokejkdaa.P
namespace Go.Proofs.Ytoohcdfokejkdaa.P
open Go.RowKit Go.Proofs.YtoohcdfokejkdaaW.PrintWords Go.Proofs.YtoohcdfokejkdaaW.PrintLast Go.Proofs.YtoohcdfokejkdaaW.PrintMore
attribute [local go_sem] max2_int min2_int max_two min_two max_three min_three max_four min_four   -- for this text's walks alone
set_option linter.unusedVariables false
set_option linter.unusedSimpArgs false

/-! ### impl_CountTrees: function 35 -/
def impl_CountTrees.f (k : Nat) (a0_0 : Int) (a0_1 : Int) (a0_2 : Int) : Option (Int) := (impl_MazeOk.f a0_0 a0_1 a0_2).bind fun t102 => (if t102 = true then ((impl_CountGaps.f a0_0 a0_1).bind fun t103 => (if 0 ≤ t103 then ((impl_CountFixed.f k a0_0 a0_1 0 (Go.bits .andNot .i64 (wrap64 ((shl .i64 1 t103) - 1)) a0_2)).bind fun t104 => (some t104)) else (none))) else (some 0))
def impl_CountTrees.T3 : Bool × List (List Nat × List Nat) := (true, [([], []), ([0], [0]), ([], []), ([2], [2]), ([3], [3]), ([4], [4]), ([5], [5]), ([], []), ([7], [7]), ([6, 8], [6, 8]), ([1, 9, 4], [1, 9]), ([10, 10, 0, 1, 2, 3, 4, 5, 6, 7, 8, 9, 10], [10])])
def impl_CountTrees.B3 : List Nat := [0, 1, 0, 4, 12, 28, 60, 0, 128, 508, 1023, 2047]
theorem impl_CountTrees.tab3 : rtab .any (opsOf Try.f35 3) = impl_CountTrees.T3 := by kernel_rfl
theorem impl_CountTrees.bits3 : waitsOk impl_CountTrees.T3.2 impl_CountTrees.B3 = true := by kernel_rfl
set_option maxHeartbeats 8000000 in
set_option maxRecDepth 100000 in
theorem impl_CountTrees.calls (k : Nat) (a0_0 : Int) (a0_1 : Int) (a0_2 : Int) (r : Int) (w : World) (h : impl_CountTrees.f k a0_0 a0_1 a0_2 = some r) :
    Calls Try.prog 35 #[.agg #[.int .i64 a0_0, .int .i64 a0_1, .int .i64 a0_2]] w fun e w' => e = .returned (.int .i64 r) ∧ Below w.heap.size w w' := by
  have hu42 := Try.underlying42
  have hu40 := Try.underlying40
  have HB := Aside0.mk (Below.refl w.heap.size w)
  have H : ((impl_MazeOk.f a0_0 a0_1 a0_2).bind fun t102 => (if t102 = true then ((impl_CountGaps.f a0_0 a0_1).bind fun t103 => (if 0 ≤ t103 then ((impl_CountFixed.f k a0_0 a0_1 0 (Go.bits .andNot .i64 (wrap64 ((shl .i64 1 t103) - 1)) a0_2)).bind fun t104 => (some t104)) else (none))) else (some 0))) = some r := h
  clear h
  obtain ⟨t102, A20, H⟩ := Option.bind_eq_some_iff.mp H
  (try dsimp only at H); have A2 := Aside0.mk A20; clear A20
  by_cases c3 : t102 = true
  · subst c3
    rw [if_pos rfl] at H
    obtain ⟨t103, A40, H⟩ := Option.bind_eq_some_iff.mp H
    (try dsimp only at H); have A4 := Aside0.mk A40; clear A40
    replace H := iN_ H; obtain ⟨c5, H⟩ := H
    have c5b0 := eq_true c5
    have c5b1 : decide (0 ≤ t103) = true := decide_eq_true c5
    clear c5
    obtain ⟨ji6, hji6⟩ : ∃ j_ : Int, (shl .i64 1 t103) = j_ := ⟨_, rfl⟩
    replace H : ((impl_CountFixed.f k a0_0 a0_1 0 (Go.bits .andNot .i64 (wrap64 ((ji6) - 1)) a0_2)).bind fun t104 => (some t104)) = some r := by (rw [hji6] at H; exact H)
    (try rw [hji6] at A2)
    (try rw [hji6] at A4)
    have hji6_ : (IntKind.i64.wrap (1 * 2 ^ min t103.toNat 64)) = ji6 := hji6
    have hji6z : t103 ≤ 64 → (IntKind.i64.wrap (1 * 2 ^ t103.toNat)) = ji6 := shl_small hji6
    have hji6u : (IntKind.i64.wrap (2 ^ min t103.toNat 64)) = ji6 := by have h_ := hji6_; rw [Int.one_mul] at h_; exact h_
    have hji6v : t103 ≤ 64 → (IntKind.i64.wrap (2 ^ t103.toNat)) = ji6 := fun hle_ => by have h_ := hji6z hle_; rw [Int.one_mul] at h_; exact h_
    have hji6y : (wrap64 (1 * 2 ^ min t103.toNat 64)) = ji6 := (i64_w _).symm.trans hji6_
    have hji6x : t103 ≤ 64 → (wrap64 (1 * 2 ^ t103.toNat)) = ji6 := fun h_ => (i64_w _).symm.trans (hji6z h_)
    obtain ⟨t104, A70, H⟩ := Option.bind_eq_some_iff.mp H
    (try dsimp only at H); have A7 := Aside0.mk A70; clear A70
    obtain rfl := Option.some.inj H
    go_enter Try.func35, Try.ntmps35
    try go_wp2_with (first | ((with_reducible refine gate_dst (N := 1) rfl ?_); refine box_event ?hg (N := 1) ?hd (cs := #[.int .i64 a0_0, .int .i64 a0_1, .int .i64 a0_2]) (t := 42) ?hr ?_; (case hd => rfl); (case hg => rfl); (case hr => (go_simp; done)); intro gb101 hg w8 hbox hb; have n0_ := Aside0.mk (below_step HB.out hb); have n1_ := Aside0.mk (hbox); have n2_ := Aside0.mk ((by rw [hg]; exact (below_size HB.out) : w.heap.size ≤ gb101)); have n3_ := Aside0.mk ((by rw [hg]; exact (below_size HB.out) : w.heap.size ≤ gb101)); clear HB; have HB := n0_; have BK101 := n1_; have GW101 := n2_; have GE101 := n3_; clear n0_ n1_ n2_ n3_; clear hb hbox hg; obtain ⟨hcz9_0, hcz9_1, hcz9_2⟩ := kk3_ BK101.1; have hfz9_0 := blk_frozen BK101.out 0; have hfz9_1 := blk_frozen BK101.out 1; have hfz9_2 := blk_frozen BK101.out 2) | ((with_reducible refine gate_callee (f := 69) rfl ?_); refine goesL_ (some 4) rfl rfl Try.func69 (by kernel_rfl) rfl #[.agg #[.int .i64 a0_0, .int .i64 a0_1, .int .i64 a0_2]] rfl (by (try simp only [List.map_toArray, List.map_cons, List.map_nil]); rfl) ?_; (with_reducible refine (impl_MazeOk.calls a0_0 a0_1 a0_2 true _ A2.out).mono ?_); rintro e w10 ⟨rfl, hb⟩; refine ⟨_, rfl, ?_⟩; have n0_ := Aside0.mk (blk_below (g := gb101) (o := .cells #[.int .i64 a0_0, .int .i64 a0_1, .int .i64 a0_2] 42 (0, 0)) BK101.out hb); have n1_ := Aside0.mk (below_step HB.out hb); clear BK101; clear HB; have BK101 := n0_; have HB := n1_; clear n0_ n1_; (try clear hb); (try clear hb2); (try clear hk); (try clear hi)))
    have n0_ := Aside0.mk (blk_drew BK101.out); have n1_ := Aside0.mk (below_drew1 HB.out); clear BK101; clear HB; have BK101 := n0_; have HB := n1_; clear n0_ n1_
    refine start_ (n := 12) (S := fun w' => w'.cell? ⟨gb101, 0, none⟩ = some (.int .i64 a0_0) ∧ w'.cell? ⟨gb101, 1, none⟩ = some (.int .i64 a0_1) ∧ w'.cell? ⟨gb101, 2, none⟩ = some (.int .i64 a0_2)) (ds := []) #[false, false, false, false, false, false, false, false, false, false, false, false] (by kernel_rfl) rfl rfl ⟨(blk_cell BK101.out 0).trans rfl, (blk_cell BK101.out 1).trans rfl, (blk_cell BK101.out 2).trans rfl⟩ (fun hHeld => ?_); refine with_tabW impl_CountTrees.tab3 impl_CountTrees.bits3 (fun HT_ HW_ => ?_)
    generalize w10.drew = w11 at BK101 HB hHeld ⊢
    refine pu_ (v := ?_) (a' := ?_) 0 (some 6) rfl rfl HT_ (by kernel_rfl) (.inl ⟨by rfl, ?_⟩) ?_ ?_; rotate_left 2; (intro w'; go_simp; with_reducible rfl); (simp only [P6_]; rfl)
    refine pu_ (v := ?_) (a' := ?_) 2 (some 8) rfl rfl HT_ (by kernel_rfl) (.inl ⟨by rfl, ?_⟩) ?_ ?_; rotate_left 2; (intro w'; go_simp; with_reducible rfl); (simp only [P6_]; rfl)
    refine pu_ (v := ?_) (a' := ?_) 7 (some 13) rfl rfl HT_ (by kernel_rfl) (.inl ⟨by rfl, ?_⟩) ?_ ?_; rotate_left 2; (intro w'; go_simp; with_reducible rfl); (simp only [P6_]; rfl)
    refine ta_ (v := ?_) (a' := ?_) 1 (some 7) rfl rfl HT_ HW_ (by kernel_rfl) (.inl ⟨by rfl, ?_⟩) hHeld ?_ ?_; rotate_left 2; (rintro w' ⟨s0, s1, s2⟩; go_simp; with_reducible rfl); (simp only [P6_]; rfl)
    refine ta_ (v := ?_) (a' := ?_) 3 (some 9) rfl rfl HT_ HW_ (by kernel_rfl) (.inl ⟨by rfl, ?_⟩) hHeld ?_ ?_; rotate_left 2; (rintro w' ⟨s0, s1, s2⟩; go_simp; with_reducible rfl); (simp only [P6_]; rfl)
    refine ta_ (v := ?_) (a' := ?_) 8 (some 14) rfl rfl HT_ HW_ (by kernel_rfl) (.inl ⟨by rfl, ?_⟩) hHeld ?_ ?_; rotate_left 2; (rintro w' ⟨s0, s1, s2⟩; go_simp; with_reducible rfl); (simp only [P6_]; rfl)
    refine on_ 4 (some 10) rfl rfl HT_ (by kernel_rfl) (by decide) (fun K hK => ?_)
    refine goes_ Try.func78 (by kernel_rfl) rfl #[.agg #[.int .i64 a0_0, .int .i64 a0_1]] (by rfl) rfl rfl (by (try simp only [List.map_toArray, List.map_cons, List.map_nil]); rfl) ?_
    with_reducible refine (impl_CountGaps.calls a0_0 a0_1 t103 _ A4.out).mono ?_
    rintro e w12 ⟨rfl, hb⟩
    refine ⟨_, rfl, ?_⟩
    have n0_ := Aside0.mk (blk_below (g := gb101) (o := .cells #[.int .i64 a0_0, .int .i64 a0_1, .int .i64 a0_2] 42 (0, 0)) BK101.out hb)
    have n1_ := Aside0.mk (below_step HB.out hb)
    clear BK101; clear HB; have BK101 := n0_; have HB := n1_; clear n0_ n1_; (try clear hb); (try clear hb2); (try clear hk); (try clear hi)
    refine hK.out _ _ ⟨(blk_cell BK101.out 0).trans rfl, (blk_cell BK101.out 1).trans rfl, (blk_cell BK101.out 2).trans rfl⟩ (fun hHeld => ?_)
    clear hK K
    refine norm_ (a' := ?_) ?_ ?_; rotate_left; (show Act.put _ (some 10) _ = _; simp only [P6_]; rfl)
    refine pu_ (v := ?_) (a' := ?_) 5 (some 11) rfl rfl HT_ (by kernel_rfl) (.inl ⟨by rfl, ?_⟩) ?_ ?_; rotate_left 2; (intro w'; go_simp; with_reducible rfl); (simp only [P6_]; rfl)
    refine pu_ (v := ?_) (a' := ?_) 6 (some 12) rfl rfl HT_ (by kernel_rfl) (.inl ⟨by rfl, ?_⟩) ?_ ?_; rotate_left 2; (intro w'; go_simp; with_reducible rfl); (simp only [P6_]; rfl)
    refine pu_ (v := ?_) (a' := ?_) 9 (some 15) rfl rfl HT_ (by kernel_rfl) (.inl ⟨by rfl, ?_⟩) ?_ ?_; rotate_left 2; (intro w'; go_simp; with_reducible rfl); (simp only [P6_]; rfl)
    refine on_ 10 (some 16) rfl rfl HT_ (by kernel_rfl) (by decide) (fun K hK => ?_)
    refine goes_ Try.func34 (by kernel_rfl) rfl #[.agg #[.int .i64 a0_0, .int .i64 a0_1], .int .i64 0, .int .i64 (Go.bits .andNot .i64 (wrap64 ((ji6) - 1)) a0_2)] (by rfl) rfl rfl (by (try simp only [List.map_toArray, List.map_cons, List.map_nil]); rfl) ?_
    with_reducible refine (impl_CountFixed.calls k a0_0 a0_1 0 (Go.bits .andNot .i64 (wrap64 ((ji6) - 1)) a0_2) t104 _ A7.out).mono ?_
    rintro e w13 ⟨rfl, hb⟩
    refine ⟨_, rfl, ?_⟩
    have n0_ := Aside0.mk (blk_below (g := gb101) (o := .cells #[.int .i64 a0_0, .int .i64 a0_1, .int .i64 a0_2] 42 (0, 0)) BK101.out hb)
    have n1_ := Aside0.mk (below_step HB.out hb)
    clear BK101; clear HB; have BK101 := n0_; have HB := n1_; clear n0_ n1_; (try clear hb); (try clear hb2); (try clear hk); (try clear hi)
    refine hK.out _ _ ⟨(blk_cell BK101.out 0).trans rfl, (blk_cell BK101.out 1).trans rfl, (blk_cell BK101.out 2).trans rfl⟩ (fun hHeld => ?_)
    clear hK K
    refine norm_ (a' := ?_) ?_ ?_; rotate_left; (show Act.put _ (some 16) _ = _; simp only [P6_]; rfl)
    refine pu_ (v := ?_) (a' := ?_) 11 (some 2) rfl rfl HT_ (by kernel_rfl) (.inl ⟨by rfl, ?_⟩) ?_ ?_; rotate_left 2; (intro w'; go_simp; with_reducible rfl); (simp only [P6_]; rfl)
    refine done_ (done_of HT_.out (by kernel_rfl)) ?_
    try go_wp2
    go_ret
    exact ⟨by rfl, by repeat ((with_reducible exact HB.out))⟩
  · replace c3 := Bool.eq_false_iff.mpr c3
    subst c3
    have H1 : (some 0) = some r := by rw [if_neg (show ¬ (false = true) by decide)] at H; exact H
    clear H
    have H := H1
    clear H1
    obtain rfl := Option.some.inj H
    go_enter Try.func35, Try.ntmps35
    go_wp2_with (first | ((with_reducible refine gate_dst (N := 1) rfl ?_); refine box_event ?hg (N := 1) ?hd (cs := #[.int .i64 a0_0, .int .i64 a0_1, .int .i64 a0_2]) (t := 42) ?hr ?_; (case hd => rfl); (case hg => rfl); (case hr => (go_simp; done)); intro gb101 hg w14 hbox hb; have n0_ := Aside0.mk (below_step HB.out hb); have n1_ := Aside0.mk (hbox); have n2_ := Aside0.mk ((by rw [hg]; exact (below_size HB.out) : w.heap.size ≤ gb101)); have n3_ := Aside0.mk ((by rw [hg]; exact (below_size HB.out) : w.heap.size ≤ gb101)); clear HB; have HB := n0_; have BK101 := n1_; have GW101 := n2_; have GE101 := n3_; clear n0_ n1_ n2_ n3_; clear hb hbox hg; obtain ⟨hcz15_0, hcz15_1, hcz15_2⟩ := kk3_ BK101.1; have hfz15_0 := blk_frozen BK101.out 0; have hfz15_1 := blk_frozen BK101.out 1; have hfz15_2 := blk_frozen BK101.out 2) | ((with_reducible refine gate_callee (f := 69) rfl ?_); refine goesL_ (some 4) rfl rfl Try.func69 (by kernel_rfl) rfl #[.agg #[.int .i64 a0_0, .int .i64 a0_1, .int .i64 a0_2]] rfl (by (try simp only [List.map_toArray, List.map_cons, List.map_nil]); rfl) ?_; (with_reducible refine (impl_MazeOk.calls a0_0 a0_1 a0_2 false _ A2.out).mono ?_); rintro e w16 ⟨rfl, hb⟩; refine ⟨_, rfl, ?_⟩; have n0_ := Aside0.mk (blk_below (g := gb101) (o := .cells #[.int .i64 a0_0, .int .i64 a0_1, .int .i64 a0_2] 42 (0, 0)) BK101.out hb); have n1_ := Aside0.mk (below_step HB.out hb); clear BK101; clear HB; have BK101 := n0_; have HB := n1_; clear n0_ n1_; (try clear hb); (try clear hb2); (try clear hk); (try clear hi)))
    go_ret
    exact ⟨by rfl, by repeat ((with_reducible exact HB.out))⟩

/-! ### impl_CountAll: function 40 -/
def impl_CountAll.f (k : Nat) (a0_0 : Int) (a0_1 : Int) : Option (Int) := (impl_CountFixed.f k a0_0 a0_1 0 0).bind fun t102 => (some t102)
set_option maxHeartbeats 8000000 in
set_option maxRecDepth 100000 in
theorem impl_CountAll.calls (k : Nat) (a0_0 : Int) (a0_1 : Int) (r : Int) (w : World) (h : impl_CountAll.f k a0_0 a0_1 = some r) :
    Calls Try.prog 40 #[.agg #[.int .i64 a0_0, .int .i64 a0_1]] w fun e w' => e = .returned (.int .i64 r) ∧ Below w.heap.size w w' := by
  have hu40 := Try.underlying40
  have HB := Aside0.mk (Below.refl w.heap.size w)
  have H : ((impl_CountFixed.f k a0_0 a0_1 0 0).bind fun t102 => (some t102)) = some r := h
  clear h
  obtain ⟨t102, A20, H⟩ := Option.bind_eq_some_iff.mp H
  (try dsimp only at H); have A2 := Aside0.mk A20; clear A20
  obtain rfl := Option.some.inj H
  go_enter Try.func40, Try.ntmps40
  go_wp2_with (first | ((with_reducible refine gate_dst (N := 1) rfl ?_); refine box_event ?hg (N := 1) ?hd (cs := #[.int .i64 a0_0, .int .i64 a0_1]) (t := 40) ?hr ?_; (case hd => rfl); (case hg => rfl); (case hr => (go_simp; done)); intro gb101 hg w3 hbox hb; have n0_ := Aside0.mk (below_step HB.out hb); have n1_ := Aside0.mk (hbox); have n2_ := Aside0.mk ((by rw [hg]; exact (below_size HB.out) : w.heap.size ≤ gb101)); have n3_ := Aside0.mk ((by rw [hg]; exact (below_size HB.out) : w.heap.size ≤ gb101)); clear HB; have HB := n0_; have BK101 := n1_; have GW101 := n2_; have GE101 := n3_; clear n0_ n1_ n2_ n3_; clear hb hbox hg; obtain ⟨hcz4_0, hcz4_1⟩ := kk2_ BK101.1; have hfz4_0 := blk_frozen BK101.out 0; have hfz4_1 := blk_frozen BK101.out 1) | ((with_reducible refine gate_callee (f := 34) rfl ?_); refine goesL_ (some 4) rfl rfl Try.func34 (by kernel_rfl) rfl #[.agg #[.int .i64 a0_0, .int .i64 a0_1], .int .i64 0, .int .i64 0] rfl (by (try simp only [List.map_toArray, List.map_cons, List.map_nil]); rfl) ?_; (with_reducible refine (impl_CountFixed.calls k a0_0 a0_1 0 0 t102 _ A2.out).mono ?_); rintro e w5 ⟨rfl, hb⟩; refine ⟨_, rfl, ?_⟩; have n0_ := Aside0.mk (blk_below (g := gb101) (o := .cells #[.int .i64 a0_0, .int .i64 a0_1] 40 (0, 0)) BK101.out hb); have n1_ := Aside0.mk (below_step HB.out hb); clear BK101; clear HB; have BK101 := n0_; have HB := n1_; clear n0_ n1_; (try clear hb); (try clear hb2); (try clear hk); (try clear hi)))
  go_ret
  exact ⟨by rfl, by repeat ((with_reducible exact HB.out))⟩

/-- A state of type 86 at block g of W; what its slices lead to came in by w0. -/
def IsS86 (w0 W : World) (g : Nat) (f0 : List Int) (f1 : Int) (f2 : Int) : Prop := ∃ A0 c0, W.heap[g]? = some (.cells #[.slice A0 f0.length c0, .int .i64 f1, .int .i64 f2] 86 (0, 0)) ∧ w0.heap.size ≤ g ∧ Kd.C (Kd.int .u8) w0 A0 f0.length f0
theorem IsS86.grown {w0 W : World} {g : Nat} {f0 : List Int} {f1 : Int} {f2 : Int} {W1 : World} {row : Option Nat} (h : IsS86 w0 W g f0 f1 f2) (hw : W.grownBy W1 row) (hne : some g ≠ row) : IsS86 w0 W1 g f0 f1 f2 := by
  obtain ⟨A0, c0, hb, hg, hr0⟩ := h
  exact ⟨A0, c0, blk_grown hb hw hne, hg, hr0⟩
theorem IsS86.kept {w0 W : World} {g : Nat} {f0 : List Int} {f1 : Int} {f2 : Int} {W1 : World} {S : Nat → Prop} (h : IsS86 w0 W g f0 f1 f2) (hk : Kept W W1 S) (hne : ¬ S g) : IsS86 w0 W1 g f0 f1 f2 := by
  obtain ⟨A0, c0, hb, hg, hr0⟩ := h
  exact ⟨A0, c0, blk_kept hb hk hne, hg, hr0⟩
theorem IsS86.below {w0 W : World} {g : Nat} {f0 : List Int} {f1 : Int} {f2 : Int} {W1 : World} (h : IsS86 w0 W g f0 f1 f2) (hw : Below W.heap.size W W1) : IsS86 w0 W1 g f0 f1 f2 := h.grown (grown_of_below hw none) (by simp)
theorem IsS86.alloc {w0 W : World} {g : Nat} {f0 : List Int} {f1 : Int} {f2 : Int} (h : IsS86 w0 W g f0 f1 f2) (o : Obj) : IsS86 w0 (W.alloc o) g f0 f1 f2 := h.below (below_alloc (Below.refl _ _) o)
theorem IsS86.drewN {w0 W : World} {g : Nat} {f0 : List Int} {f1 : Int} {f2 : Int} (h : IsS86 w0 W g f0 f1 f2) (m : Nat) : IsS86 w0 (W.drewN m) g f0 f1 f2 := h
theorem IsS86.drew {w0 W : World} {g : Nat} {f0 : List Int} {f1 : Int} {f2 : Int} (h : IsS86 w0 W g f0 f1 f2) : IsS86 w0 W.drew g f0 f1 f2 := h
theorem IsS86.at_ {w0 W : World} {g : Nat} {f0 : List Int} {f1 : Int} {f2 : Int} {w' : World} {m : Nat} (hq : W.drewN m = w') (h : IsS86 w0 W g f0 f1 f2) : IsS86 w0 w' g f0 f1 f2 := by subst hq; exact IsS86.drewN h m
theorem IsS86.apart {w0 W : World} {g : Nat} {f0 : List Int} {f1 : Int} {f2 : Int} {α : Type} {d : Kd α} {e : Nat} {base : Nat} {ok : Nat → Prop} {v : Value} {xs : List α} (h : IsS86 w0 W g f0 f1 f2) (ho : d.R e W base ok v xs) (ht : ∀ q, q ∈ e :: d.E → q ≠ 86) : d.R e W base (fun k => ok k ∧ k ≠ g) v xs := by
  obtain ⟨A0, c0, hb, hg, hr0⟩ := h
  exact Kd.R_types ho hb ht
theorem IsS86.own_ne {w0 W : World} {g : Nat} {f0 : List Int} {f1 : Int} {f2 : Int} {α : Type} {d : Kd α} {e : Nat} {base : Nat} {ok : Nat → Prop} {v : Value} {xs : List α} (h : IsS86 w0 W g f0 f1 f2) (ho : d.R e W base ok v xs) (ht : e ≠ 86) : some g ≠ v.ownBlock := by
  obtain ⟨A0, c0, hb, hg, hr0⟩ := h
  exact Kd.R_ne ho hb ht
theorem IsS86.lt {w0 W : World} {g : Nat} {f0 : List Int} {f1 : Int} {f2 : Int} (h : IsS86 w0 W g f0 f1 f2) : g < W.heap.size := by
  obtain ⟨A0, c0, hb, hg, hr0⟩ := h
  exact blk_lt hb
theorem IsS86.ge {w0 W : World} {g : Nat} {f0 : List Int} {f1 : Int} {f2 : Int} (h : IsS86 w0 W g f0 f1 f2) : w0.heap.size ≤ g := by
  obtain ⟨A0, c0, hb, hg, hr0⟩ := h
  exact hg
theorem IsS86.ne_blk {w0 W : World} {g : Nat} {f0 : List Int} {f1 : Int} {f2 : Int} {a : Nat} {cs : Array Value} {t : TypeId} {fr : Nat × Nat} (h : IsS86 w0 W g f0 f1 f2) (hb2 : W.heap[a]? = some (.cells cs t fr)) (ht : t ≠ 86) : g ≠ a := by
  obtain ⟨A0, c0, hb, hg, hr0⟩ := h
  rintro rfl
  rw [hb] at hb2
  injection hb2 with hb2
  injection hb2 with _ ht2
  exact ht ht2.symm
theorem IsS86.far {w0 W : World} {g : Nat} {f0 : List Int} {f1 : Int} {f2 : Int} {p : Addr} (h : IsS86 w0 W g f0 f1 f2) (hne : g ≠ p.block) (u : Value) : IsS86 w0 (W.setCell p u) g f0 f1 f2 := by
  obtain ⟨A0, c0, hb, hg, hr0⟩ := h
  exact ⟨A0, c0, blk_far hb hne u, hg, hr0⟩
theorem cellS86_0 {W : World} {g : Nat} {A0 : Option Addr} {c0 : Nat} {f0 : List Int} {f1 : Int} {f2 : Int} (h : W.heap[g]? = some (.cells #[.slice A0 f0.length c0, .int .i64 f1, .int .i64 f2] 86 (0, 0))) : W.cell? ⟨g, 0, none⟩ = some (.slice A0 f0.length c0) := (blk_cell h 0).trans rfl
theorem cellS86_1 {W : World} {g : Nat} {A0 : Option Addr} {c0 : Nat} {f0 : List Int} {f1 : Int} {f2 : Int} (h : W.heap[g]? = some (.cells #[.slice A0 f0.length c0, .int .i64 f1, .int .i64 f2] 86 (0, 0))) : W.cell? ⟨g, 1, none⟩ = some (.int .i64 f1) := (blk_cell h 1).trans rfl
theorem IsS86.set_1 {w0 W : World} {g : Nat} {f0 : List Int} {f1 : Int} {f2 : Int} (h : IsS86 w0 W g f0 f1 f2) (x : Int) : IsS86 w0 (W.setCell ⟨g, 1, none⟩ (.int .i64 x)) g f0 x f2 := by
  obtain ⟨A0, c0, hb, hg, hr0⟩ := h
  exact ⟨A0, c0, by simpa using blk_set hb 1 (.int .i64 x), hg, hr0⟩
theorem cellS86_2 {W : World} {g : Nat} {A0 : Option Addr} {c0 : Nat} {f0 : List Int} {f1 : Int} {f2 : Int} (h : W.heap[g]? = some (.cells #[.slice A0 f0.length c0, .int .i64 f1, .int .i64 f2] 86 (0, 0))) : W.cell? ⟨g, 2, none⟩ = some (.int .i64 f2) := (blk_cell h 2).trans rfl
theorem IsS86.set_2 {w0 W : World} {g : Nat} {f0 : List Int} {f1 : Int} {f2 : Int} (h : IsS86 w0 W g f0 f1 f2) (x : Int) : IsS86 w0 (W.setCell ⟨g, 2, none⟩ (.int .i64 x)) g f0 f1 x := by
  obtain ⟨A0, c0, hb, hg, hr0⟩ := h
  exact ⟨A0, c0, by simpa using blk_set hb 2 (.int .i64 x), hg, hr0⟩
/-! ### spec_l01Byte: function 118 -/
def spec_l01Byte.f (s0_0 : List Int) (s0_1 : Int) (s0_2 : Int) : Option (Int × Int × Int) := if s0_1 < (s0_0.length : Int) then (if 0 ≤ s0_1 then (some (Go.bits .and .i64 (wrap64 ((Go.bits .and .i64 (Go.bits .xor .i64 ((wrap64 ((wrap64 (s0_2 * 6364136223846793005)) + 1442695040888963407)) / 8589934592) ((wrap64 ((wrap64 (s0_2 * 6364136223846793005)) + 1442695040888963407)) / 35184372088832)) 255) + (wrap64 (rd s0_0 s0_1)))) 255, wrap64 (s0_1 + 1), wrap64 ((wrap64 (s0_2 * 6364136223846793005)) + 1442695040888963407))) else (none)) else (some (Go.bits .and .i64 (Go.bits .xor .i64 ((wrap64 ((wrap64 (s0_2 * 6364136223846793005)) + 1442695040888963407)) / 8589934592) ((wrap64 ((wrap64 (s0_2 * 6364136223846793005)) + 1442695040888963407)) / 35184372088832)) 255, s0_1, wrap64 ((wrap64 (s0_2 * 6364136223846793005)) + 1442695040888963407)))
set_option maxHeartbeats 8000000 in
set_option maxRecDepth 100000 in
theorem spec_l01Byte.calls (g : Nat) (s0_0 : List Int) (s0_1 : Int) (s0_2 : Int) (r1 : Int) (r2 : Int) (r3 : Int) (w0 w : World) (hI : IsS86 w0 w g s0_0 s0_1 s0_2) (hB : Below w0.heap.size w0 w) (h : spec_l01Byte.f s0_0 s0_1 s0_2 = some (r1, r2, r3)) :
    Calls Try.prog 118 #[.pointer (some ⟨g, 0, none⟩)] w fun e w' => e = .returned (.int .i64 r1) ∧ IsS86 w0 w' g s0_0 r2 r3 ∧ Below w0.heap.size w0 w' ∧ KeepBut w w' g none := by
  have HI0 := Aside0.mk hI
  have HK := Aside0.mk (KeepBut.refl w g none)
  have HL := Aside0.mk hB.size
  clear hI
  have HW0 := Aside0.mk hB.size
  have HB := Aside0.mk hB
  clear hB
  have H : (if s0_1 < (s0_0.length : Int) then (if 0 ≤ s0_1 then (some (Go.bits .and .i64 (wrap64 ((Go.bits .and .i64 (Go.bits .xor .i64 ((wrap64 ((wrap64 (s0_2 * 6364136223846793005)) + 1442695040888963407)) / 8589934592) ((wrap64 ((wrap64 (s0_2 * 6364136223846793005)) + 1442695040888963407)) / 35184372088832)) 255) + (wrap64 (rd s0_0 s0_1)))) 255, wrap64 (s0_1 + 1), wrap64 ((wrap64 (s0_2 * 6364136223846793005)) + 1442695040888963407))) else (none)) else (some (Go.bits .and .i64 (Go.bits .xor .i64 ((wrap64 ((wrap64 (s0_2 * 6364136223846793005)) + 1442695040888963407)) / 8589934592) ((wrap64 ((wrap64 (s0_2 * 6364136223846793005)) + 1442695040888963407)) / 35184372088832)) 255, s0_1, wrap64 ((wrap64 (s0_2 * 6364136223846793005)) + 1442695040888963407)))) = some (r1, r2, r3) := h
  clear h
  by_cases c2 : s0_1 < (s0_0.length : Int)
  · rw [if_pos c2] at H
    have c2b0 : decide (s0_1 < (s0_0.length : Int)) = true := decide_eq_true c2
    clear c2
    replace H := iN_ H; obtain ⟨c3, H⟩ := H
    have c3b0 : decide (0 ≤ s0_1) = true := decide_eq_true c3
    clear c3
    simp only [Option.some.injEq, Prod.mk.injEq] at H
    obtain ⟨rfl, rfl, rfl⟩ := H
    obtain ⟨ASz4_0, cSz4_0, HGz4, hgz4, HSz4_0⟩ := HI0.out
    have hcz4_0 := cellS86_0 HGz4
    have hcz4_1 := cellS86_1 HGz4
    have hcz4_2 := cellS86_2 HGz4
    have hfz4_1 := blk_frozen HGz4 1
    have hfz4_2 := blk_frozen HGz4 2
    clear HGz4 hgz4
    have p101 : 0 ≤ (s0_1 : Int) := of_decide_eq_true (by first | (with_reducible assumption) | assumption)
    have q101 : s0_1 < (s0_0.length : Int) := of_decide_eq_true (by first | (with_reducible assumption) | assumption)
    obtain ⟨ad101, e101, hx101_0⟩ := Kd.at_int HSz4_0 s0_1 p101 q101
    cases e101
    have hn101_0 : ad101.block ≠ g := Nat.ne_of_lt (Nat.lt_of_lt_of_le (by have := World.block_lt_of_cell? _ _ hx101_0; first | rwa [add_block] at this | exact this) (IsS86.ge HI0.out))
    replace hx101_0 := pw_cell_below HB.out hx101_0
    replace hx101_0 := (cell_far (p := ⟨g, 2, none⟩) (by first | (rw [add_block]; exact hn101_0) | (show (Addr.add _ _).block ≠ _; rw [add_block]; exact hn101_0) | exact hn101_0) (.int .i64 (wrap64 ((wrap64 (s0_2 * 6364136223846793005)) + 1442695040888963407)))).trans hx101_0
    (try have hy101_0 := fun (n_ : Nat) => (show (((w.drewN n_).setCell ⟨g, 2, none⟩ (.int .i64 (wrap64 ((wrap64 (s0_2 * 6364136223846793005)) + 1442695040888963407))))).cell? _ = some _ from hx101_0))
    clear hn101_0; replace p101 := eq_true p101; replace q101 := eq_true q101
    go_enter Try.func118, Try.ntmps118
    go_wp2
    repeat (go_quiet (fail); try go_wp2)
    go_ret
    exact ⟨by first | rfl | (simp [errW_none, errW_some] <;> rfl) | (simp [*, errW_none, errW_some] <;> rfl), by repeat (first | (with_reducible first | exact HI0.out | apply IsS86.alloc | apply IsS86.drewN | apply IsS86.drew | apply IsS86.set_1 | apply IsS86.set_2) | exact HI0.out), by repeat (first | (with_reducible first | exact HB.out | apply below_alloc | apply pw_below_drewN | apply below_drew1 | refine below_set ?_ (IsS86.ge HI0.out)) | exact HB.out), by repeat (first | (with_reducible first | exact HK.out | apply KeepBut.set_ | apply keep_drewN | apply keep_drew | apply keep_alloc) | exact HK.out)⟩
  · rw [if_neg c2] at H
    have c2b0 : decide (s0_1 < (s0_0.length : Int)) = false := decide_eq_false c2
    clear c2
    simp only [Option.some.injEq, Prod.mk.injEq] at H
    obtain ⟨rfl, rfl, rfl⟩ := H
    obtain ⟨ASz5_0, cSz5_0, HGz5, hgz5, HSz5_0⟩ := HI0.out
    have hcz5_0 := cellS86_0 HGz5
    have hcz5_1 := cellS86_1 HGz5
    have hcz5_2 := cellS86_2 HGz5
    have hfz5_1 := blk_frozen HGz5 1
    have hfz5_2 := blk_frozen HGz5 2
    clear HGz5 hgz5
    go_enter Try.func118, Try.ntmps118
    go_wp2
    repeat (go_quiet (fail); try go_wp2)
    go_ret
    exact ⟨by first | rfl | (simp [errW_none, errW_some] <;> rfl) | (simp [*, errW_none, errW_some] <;> rfl), by repeat (first | (with_reducible first | exact HI0.out | apply IsS86.alloc | apply IsS86.drewN | apply IsS86.drew | apply IsS86.set_1 | apply IsS86.set_2) | exact HI0.out), by repeat (first | (with_reducible first | exact HB.out | apply below_alloc | apply pw_below_drewN | apply below_drew1 | refine below_set ?_ (IsS86.ge HI0.out)) | exact HB.out), by repeat (first | (with_reducible first | exact HK.out | apply KeepBut.set_ | apply keep_drewN | apply keep_drew | apply keep_alloc) | exact HK.out)⟩

/-! ### spec_l01New: function 56 -/
def spec_l01New.l0 : Nat → List Int → Int → Int → Option (List Int × Int × Int)
  | 0, _, _, _ => none
  | k + 1, x0, x3, x4 => if x4 < (x0.length : Int) then (if x4 < 4000 then (if 0 ≤ x4 then (spec_l01New.l0 k x0 (Go.bits .and .i64 (wrap64 ((wrap64 ((wrap64 (x3 * 131)) + (wrap64 (rd x0 x4)))) + 7)) 1073741823) (wrap64 (x4 + 1))) else (none)) else (some (x0, 0, x3))) else (some (x0, 0, x3))
def spec_l01New.f (k : Nat) (l0 : List Int) : Option (List Int × Int × Int) := spec_l01New.l0 k l0 (wrap64 (99041 + (l0.length : Int))) 0
set_option maxHeartbeats 8000000 in
set_option maxRecDepth 100000 in
theorem spec_l01New.calls (k : Nat) (A0 : Option Addr) (c0 : Nat) (l0 : List Int) (r1 : List Int) (r2 : Int) (r3 : Int) (w0 w : World) (hB : Below w0.heap.size w0 w) (hr0 : Kd.C (Kd.int .u8) w0 A0 l0.length l0) (hc0 : l0.length ≤ c0) (h : spec_l01New.f k l0 = some (r1, r2, r3)) :
    Calls Try.prog 56 #[.slice A0 l0.length c0] w fun e w' => ∃ g_ : Nat, e = .returned (.pointer (some ⟨g_, 0, none⟩)) ∧ IsS86 w0 w' g_ r1 r2 r3 ∧ Below w0.heap.size w0 w' ∧ Below w.heap.size w w' := by
  have hu86 := Try.underlying86
  have HR0 := Aside0.mk hr0
  have HC0 := Aside0.mk hc0
  clear hr0 hc0
  have HBW := Aside0.mk (Below.refl w.heap.size w)
  have HW0 := Aside0.mk hB.size
  have HB := Aside0.mk hB
  clear hB
  have H : (spec_l01New.l0 k l0 (wrap64 (99041 + (l0.length : Int))) 0) = some (r1, r2, r3) := h
  clear h
  have H' := Aside0.mk H
  clear H
  go_enter Try.func56, Try.ntmps56
  go_wp2
  go_loopg [3, 4] k (fun kq v3 v4 w' => ∃ (x3_1 : Int) (x4_1 : Int), v3 = .int .i64 x3_1 ∧ v4 = .int .i64 x4_1 ∧ Aside0 (spec_l01New.l0 kq l0 x3_1 x4_1 = some (r1, r2, r3)) ∧ Aside0 (kq ≤ k) ∧ Aside0 (Below w0.heap.size w0 w') ∧ Aside0 (Below w.heap.size w w'))
  case atStart => exact ⟨(wrap64 (99041 + (l0.length : Int))), (0), (by first | rfl | (simp; done) | (simp [*]; done)), (by first | rfl | (simp; done) | (simp [*]; done)), H', ⟨Nat.le_refl _⟩, ⟨by repeat (first | (with_reducible first | exact HB.out | apply below_alloc | apply pw_below_drewN | apply below_drew1) | exact HB.out)⟩, ⟨by repeat (first | (with_reducible first | exact HBW.out | apply below_alloc | apply pw_below_drewN | apply below_drew1) | exact HBW.out)⟩⟩
  case round =>
    clear H'
    obtain ⟨x3_1, x4_1, rfl, rfl, HA, HK1, HB, HBW⟩ := hrel
    cases gk with
    | zero => exact absurd HA.out (by simp [spec_l01New.l0])
    | succ k1 =>
      have H := HA.out
      clear HA
      simp only [spec_l01New.l0] at H
      by_cases c2 : x4_1 < (l0.length : Int)
      · rw [if_pos c2] at H
        have c2b0 : decide (x4_1 < (l0.length : Int)) = true := decide_eq_true c2
        clear c2
        by_cases c3 : x4_1 < 4000
        · rw [if_pos c3] at H
          have c3b0 : decide (x4_1 < 4000) = true := decide_eq_true c3
          clear c3
          replace H := iN_ H; obtain ⟨c4, H⟩ := H
          have c4b0 : decide (0 ≤ x4_1) = true := decide_eq_true c4
          clear c4
          have H' := Aside0.mk H
          clear H
          have p101 : 0 ≤ (x4_1 : Int) := of_decide_eq_true (by first | (with_reducible assumption) | assumption)
          have q101 : x4_1 < (l0.length : Int) := of_decide_eq_true (by first | (with_reducible assumption) | assumption)
          obtain ⟨ad101, e101, hx101_0⟩ := Kd.at_int HR0.out x4_1 p101 q101
          cases e101
          replace hx101_0 := pw_cell_below HB.out hx101_0
          replace p101 := eq_true p101; replace q101 := eq_true q101
          go_wp2
          go_roundg k1
          case measure => have := HK1.out; omega
          case rel => exact ⟨(Go.bits .and .i64 (wrap64 ((wrap64 ((wrap64 (x3_1 * 131)) + (wrap64 (rd l0 x4_1)))) + 7)) 1073741823), (wrap64 (x4_1 + 1)), (by first | rfl | (simp; done) | (simp [*]; done)), (by first | rfl | (simp; done) | (simp [*]; done)), H', ⟨by have := HK1.out; omega⟩, ⟨by repeat (first | (with_reducible first | exact HB.out | apply below_alloc | apply pw_below_drewN | apply below_drew1) | exact HB.out)⟩, ⟨by repeat (first | (with_reducible first | exact HBW.out | apply below_alloc | apply pw_below_drewN | apply below_drew1) | exact HBW.out)⟩⟩
        · rw [if_neg c3] at H
          have c3b0 : decide (x4_1 < 4000) = false := decide_eq_false c3
          clear c3
          simp only [Option.some.injEq, Prod.mk.injEq] at H
          obtain ⟨rfl, rfl, rfl⟩ := H
          go_wp2_with (first | ((with_reducible refine gate_dst (N := 31) rfl ?_); refine box_event ?hg (N := 31) ?hd (cs := #[.slice A0 l0.length c0, .int .i64 0, .int .i64 x3_1]) (t := 86) ?hr ?_; (case hd => rfl); (case hg => rfl); (case hr => first | (go_simp; done) | (go_simp; rfl)); intro gb102 hg w5 hbox hb; have n0_ := Aside0.mk (below_step HBW.out hb); have n1_ := Aside0.mk (below_step (by repeat first | exact HB.1 | apply bA_ | apply bB_ | apply bC_) hb); have n2_ := Aside0.mk (hbox); have n3_ := Aside0.mk ((by rw [hg]; exact (below_size (by repeat first | exact HBW.1 | apply bA_ | apply bB_ | apply bC_)) : w.heap.size ≤ gb102)); have n4_ := Aside0.mk ((Nat.le_trans HW0.out (by rw [hg]; exact (below_size (by repeat first | exact HBW.1 | apply bA_ | apply bB_ | apply bC_)) : w.heap.size ≤ gb102) : w0.heap.size ≤ gb102)); clear HBW; clear HB; have HBW := n0_; have HB := n1_; have BK102 := n2_; have GW102 := n3_; have GE102 := n4_; clear n0_ n1_ n2_ n3_ n4_; clear hb hbox hg))
          go_ret
          exact ⟨_, rfl, (show IsS86 w0 _ gb102 l0 0 x3_1 from ⟨_, _, by (with_reducible repeat (first | refine blk_drewN ?_ _ | refine blk_drew ?_ | refine blk_alloc ?_ _)); exact BK102.out, GE102.out, HR0.out⟩), by repeat (first | (with_reducible first | exact HB.out | apply below_alloc | apply pw_below_drewN | apply below_drew1 | refine below_set ?_ GE102.out) | exact HB.out), by repeat (first | (with_reducible first | exact HBW.out | apply below_alloc | apply pw_below_drewN | apply below_drew1 | refine below_set ?_ GW102.out) | exact HBW.out)⟩
      · rw [if_neg c2] at H
        have c2b0 : decide (x4_1 < (l0.length : Int)) = false := decide_eq_false c2
        clear c2
        simp only [Option.some.injEq, Prod.mk.injEq] at H
        obtain ⟨rfl, rfl, rfl⟩ := H
        go_wp2_with (first | ((with_reducible refine gate_dst (N := 31) rfl ?_); refine box_event ?hg (N := 31) ?hd (cs := #[.slice A0 l0.length c0, .int .i64 0, .int .i64 x3_1]) (t := 86) ?hr ?_; (case hd => rfl); (case hg => rfl); (case hr => first | (go_simp; done) | (go_simp; rfl)); intro gb103 hg w6 hbox hb; have n0_ := Aside0.mk (below_step HBW.out hb); have n1_ := Aside0.mk (below_step (by repeat first | exact HB.1 | apply bA_ | apply bB_ | apply bC_) hb); have n2_ := Aside0.mk (hbox); have n3_ := Aside0.mk ((by rw [hg]; exact (below_size (by repeat first | exact HBW.1 | apply bA_ | apply bB_ | apply bC_)) : w.heap.size ≤ gb103)); have n4_ := Aside0.mk ((Nat.le_trans HW0.out (by rw [hg]; exact (below_size (by repeat first | exact HBW.1 | apply bA_ | apply bB_ | apply bC_)) : w.heap.size ≤ gb103) : w0.heap.size ≤ gb103)); clear HBW; clear HB; have HBW := n0_; have HB := n1_; have BK103 := n2_; have GW103 := n3_; have GE103 := n4_; clear n0_ n1_ n2_ n3_ n4_; clear hb hbox hg))
        go_ret
        exact ⟨_, rfl, (show IsS86 w0 _ gb103 l0 0 x3_1 from ⟨_, _, by (with_reducible repeat (first | refine blk_drewN ?_ _ | refine blk_drew ?_ | refine blk_alloc ?_ _)); exact BK103.out, GE103.out, HR0.out⟩), by repeat (first | (with_reducible first | exact HB.out | apply below_alloc | apply pw_below_drewN | apply below_drew1 | refine below_set ?_ GE103.out) | exact HB.out), by repeat (first | (with_reducible first | exact HBW.out | apply below_alloc | apply pw_below_drewN | apply below_drew1 | refine below_set ?_ GW103.out) | exact HBW.out)⟩

/-! ### spec_l01Below: function 97 -/
def spec_l01Below.f (s0_0 : List Int) (s0_1 : Int) (s0_2 : Int) (a1 : Int) : Option (Int × Int × Int) := if a1 ≤ 0 then (some (0, s0_1, s0_2)) else (if a1 ≤ 256 then ((spec_l01Byte.f s0_0 s0_1 s0_2).bind fun bt101 => (if a1 = 0 then (none) else (some (Int.tmod bt101.1 a1, bt101.2.1, bt101.2.2)))) else ((spec_l01Byte.f s0_0 s0_1 s0_2).bind fun bt104 => ((spec_l01Byte.f s0_0 bt104.2.1 bt104.2.2).bind fun bt107 => ((spec_l01Byte.f s0_0 bt107.2.1 bt107.2.2).bind fun bt110 => ((spec_l01Byte.f s0_0 bt110.2.1 bt110.2.2).bind fun bt113 => (if a1 = 0 then (none) else (some (Int.tmod (wrap64 ((wrap64 ((wrap64 ((wrap64 (bt104.1 * 16777216)) + (wrap64 (bt107.1 * 65536)))) + (wrap64 (bt110.1 * 256)))) + bt113.1)) a1, bt113.2.1, bt113.2.2))))))))
set_option maxHeartbeats 8000000 in
set_option maxRecDepth 100000 in
theorem spec_l01Below.calls (g : Nat) (s0_0 : List Int) (s0_1 : Int) (s0_2 : Int) (a1 : Int) (r1 : Int) (r2 : Int) (r3 : Int) (w0 w : World) (hI : IsS86 w0 w g s0_0 s0_1 s0_2) (hB : Below w0.heap.size w0 w) (h : spec_l01Below.f s0_0 s0_1 s0_2 a1 = some (r1, r2, r3)) :
    Calls Try.prog 97 #[.pointer (some ⟨g, 0, none⟩), .int .i64 a1] w fun e w' => e = .returned (.int .i64 r1) ∧ IsS86 w0 w' g s0_0 r2 r3 ∧ Below w0.heap.size w0 w' ∧ KeepBut w w' g none := by
  have HI0 := Aside0.mk hI
  have HK := Aside0.mk (KeepBut.refl w g none)
  have HL := Aside0.mk hB.size
  clear hI
  have HW0 := Aside0.mk hB.size
  have HB := Aside0.mk hB
  clear hB
  have H : (if a1 ≤ 0 then (some (0, s0_1, s0_2)) else (if a1 ≤ 256 then ((spec_l01Byte.f s0_0 s0_1 s0_2).bind fun bt101 => (if a1 = 0 then (none) else (some (Int.tmod bt101.1 a1, bt101.2.1, bt101.2.2)))) else ((spec_l01Byte.f s0_0 s0_1 s0_2).bind fun bt104 => ((spec_l01Byte.f s0_0 bt104.2.1 bt104.2.2).bind fun bt107 => ((spec_l01Byte.f s0_0 bt107.2.1 bt107.2.2).bind fun bt110 => ((spec_l01Byte.f s0_0 bt110.2.1 bt110.2.2).bind fun bt113 => (if a1 = 0 then (none) else (some (Int.tmod (wrap64 ((wrap64 ((wrap64 ((wrap64 (bt104.1 * 16777216)) + (wrap64 (bt107.1 * 65536)))) + (wrap64 (bt110.1 * 256)))) + bt113.1)) a1, bt113.2.1, bt113.2.2))))))))) = some (r1, r2, r3) := h
  clear h
  by_cases c3 : a1 ≤ 0
  · rw [if_pos c3] at H
    have c3b0 : decide (a1 ≤ 0) = true := decide_eq_true c3
    clear c3
    simp only [Option.some.injEq, Prod.mk.injEq] at H
    obtain ⟨rfl, rfl, rfl⟩ := H
    go_enter Try.func97, Try.ntmps97
    go_wp2
    go_ret
    exact ⟨by first | rfl | (simp [errW_none, errW_some] <;> rfl) | (simp [*, errW_none, errW_some] <;> rfl), by repeat (first | (with_reducible first | exact HI0.out | apply IsS86.alloc | apply IsS86.drewN | apply IsS86.drew | apply IsS86.set_1 | apply IsS86.set_2) | exact HI0.out), by repeat (first | (with_reducible first | exact HB.out | apply below_alloc | apply pw_below_drewN | apply below_drew1 | refine below_set ?_ (IsS86.ge HI0.out)) | exact HB.out), by repeat (first | (with_reducible first | exact HK.out | apply KeepBut.set_ | apply keep_drewN | apply keep_drew | apply keep_alloc) | exact HK.out)⟩
  · rw [if_neg c3] at H
    have c3b0 : decide (a1 ≤ 0) = false := decide_eq_false c3
    clear c3
    by_cases c4 : a1 ≤ 256
    · rw [if_pos c4] at H
      have c4b0 : decide (a1 ≤ 256) = true := decide_eq_true c4
      clear c4
      obtain ⟨⟨t101, t102, t103⟩, A50, H⟩ := Option.bind_eq_some_iff.mp H
      (try dsimp only at H); have A5 := Aside0.mk A50; clear A50
      by_cases c6 : a1 = 0
      · rw [if_pos c6] at H
        exact absurd H (by simp)
      · rw [if_neg c6] at H
        have c6b0 : (a1 == 0) = false := beq_eq_false_iff_ne.mpr c6
        have c6b1 : (a1 != 0) = true := bne_iff_ne.mpr c6
        simp only [Option.some.injEq, Prod.mk.injEq] at H
        obtain ⟨rfl, rfl, rfl⟩ := H
        go_enter Try.func97, Try.ntmps97
        go_wp2_with (first | ((with_reducible refine gate_callee (f := 118) rfl ?_); refine goesL_ (some 14) rfl rfl Try.func118 (by kernel_rfl) rfl #[.pointer (some ⟨g, 0, none⟩)] rfl (by (try simp only [M3_]); first | done | rfl | (simp only [List.length_drop, List.length_take]; rfl)) ?_; (with_reducible refine (spec_l01Byte.calls g s0_0 s0_1 s0_2 t101 t102 t103 w0 _ ?side1 ?side2 A5.out).mono ?_); (case side1 => repeat (first | (with_reducible first | exact HI0.out | apply IsS86.alloc | apply IsS86.drewN | apply IsS86.drew | apply IsS86.set_1 | apply IsS86.set_2) | exact HI0.out)); (case side2 => repeat (first | (with_reducible first | exact HB.out | apply below_alloc | apply pw_below_drewN | apply below_drew1 | refine below_set ?_ (IsS86.ge HI0.out)) | exact HB.out)); rintro e w7 ⟨rfl, hi, hb, hk⟩; (try clear A5); refine ⟨_, rfl, ?_⟩; have n0_ := Aside0.mk (KeepBut.trans (by repeat first | exact HK.1 | apply KeepBut.set_ | apply keep_drewN | apply keep_drew | apply keep_alloc) hk (.inl rfl)); have n1_ := Aside0.mk (hb); have n2_ := Aside0.mk (hi); clear HK; clear HB; clear HI0; have HK := n0_; have HB := n1_; have HI0 := n2_; clear n0_ n1_ n2_; (try clear hb); (try clear hb2); (try clear hk); (try clear hi)))
        go_ret
        exact ⟨by first | rfl | (simp [errW_none, errW_some] <;> rfl) | (simp [*, errW_none, errW_some] <;> rfl), by repeat (first | (with_reducible first | exact HI0.out | apply IsS86.alloc | apply IsS86.drewN | apply IsS86.drew | apply IsS86.set_1 | apply IsS86.set_2) | exact HI0.out), by repeat (first | (with_reducible first | exact HB.out | apply below_alloc | apply pw_below_drewN | apply below_drew1 | refine below_set ?_ (IsS86.ge HI0.out)) | exact HB.out), by repeat (first | (with_reducible first | exact HK.out | apply KeepBut.set_ | apply keep_drewN | apply keep_drew | apply keep_alloc) | exact HK.out)⟩
    · rw [if_neg c4] at H
      have c4b0 : decide (a1 ≤ 256) = false := decide_eq_false c4
      clear c4
      obtain ⟨⟨t104, t105, t106⟩, A80, H⟩ := Option.bind_eq_some_iff.mp H
      (try dsimp only at H); have A8 := Aside0.mk A80; clear A80
      obtain ⟨⟨t107, t108, t109⟩, A90, H⟩ := Option.bind_eq_some_iff.mp H
      (try dsimp only at H); have A9 := Aside0.mk A90; clear A90
      obtain ⟨⟨t110, t111, t112⟩, A100, H⟩ := Option.bind_eq_some_iff.mp H
      (try dsimp only at H); have A10 := Aside0.mk A100; clear A100
      obtain ⟨⟨t113, t114, t115⟩, A110, H⟩ := Option.bind_eq_some_iff.mp H
      (try dsimp only at H); have A11 := Aside0.mk A110; clear A110
      by_cases c12 : a1 = 0
      · rw [if_pos c12] at H
        exact absurd H (by simp)
      · rw [if_neg c12] at H
        have c12b0 : (a1 == 0) = false := beq_eq_false_iff_ne.mpr c12
        have c12b1 : (a1 != 0) = true := bne_iff_ne.mpr c12
        simp only [Option.some.injEq, Prod.mk.injEq] at H
        obtain ⟨rfl, rfl, rfl⟩ := H
        go_enter Try.func97, Try.ntmps97
        go_wp2_with (first | ((with_reducible refine gate_callee (f := 118) rfl ?_); refine goesL_ (some 18) rfl rfl Try.func118 (by kernel_rfl) rfl #[.pointer (some ⟨g, 0, none⟩)] rfl (by (try simp only [M3_]); first | done | rfl | (simp only [List.length_drop, List.length_take]; rfl)) ?_; (with_reducible refine (spec_l01Byte.calls g s0_0 s0_1 s0_2 t104 t105 t106 w0 _ ?side1 ?side2 A8.out).mono ?_); (case side1 => repeat (first | (with_reducible first | exact HI0.out | apply IsS86.alloc | apply IsS86.drewN | apply IsS86.drew | apply IsS86.set_1 | apply IsS86.set_2) | exact HI0.out)); (case side2 => repeat (first | (with_reducible first | exact HB.out | apply below_alloc | apply pw_below_drewN | apply below_drew1 | refine below_set ?_ (IsS86.ge HI0.out)) | exact HB.out)); rintro e w13 ⟨rfl, hi, hb, hk⟩; (try clear A8); refine ⟨_, rfl, ?_⟩; have n0_ := Aside0.mk (KeepBut.trans (by repeat first | exact HK.1 | apply KeepBut.set_ | apply keep_drewN | apply keep_drew | apply keep_alloc) hk (.inl rfl)); have n1_ := Aside0.mk (hb); have n2_ := Aside0.mk (hi); clear HK; clear HB; clear HI0; have HK := n0_; have HB := n1_; have HI0 := n2_; clear n0_ n1_ n2_; (try clear hb); (try clear hb2); (try clear hk); (try clear hi)) | ((with_reducible refine gate_callee (f := 118) rfl ?_); refine goesL_ (some 20) rfl rfl Try.func118 (by kernel_rfl) rfl #[.pointer (some ⟨g, 0, none⟩)] rfl (by (try simp only [M3_]); first | done | rfl | (simp only [List.length_drop, List.length_take]; rfl)) ?_; (with_reducible refine (spec_l01Byte.calls g s0_0 t105 t106 t107 t108 t109 w0 _ ?side1 ?side2 A9.out).mono ?_); (case side1 => repeat (first | (with_reducible first | exact HI0.out | apply IsS86.alloc | apply IsS86.drewN | apply IsS86.drew | apply IsS86.set_1 | apply IsS86.set_2) | exact HI0.out)); (case side2 => repeat (first | (with_reducible first | exact HB.out | apply below_alloc | apply pw_below_drewN | apply below_drew1 | refine below_set ?_ (IsS86.ge HI0.out)) | exact HB.out)); rintro e w14 ⟨rfl, hi, hb, hk⟩; (try clear A9); refine ⟨_, rfl, ?_⟩; have n0_ := Aside0.mk (KeepBut.trans (by repeat first | exact HK.1 | apply KeepBut.set_ | apply keep_drewN | apply keep_drew | apply keep_alloc) hk (.inl rfl)); have n1_ := Aside0.mk (hb); have n2_ := Aside0.mk (hi); clear HK; clear HB; clear HI0; have HK := n0_; have HB := n1_; have HI0 := n2_; clear n0_ n1_ n2_; (try clear hb); (try clear hb2); (try clear hk); (try clear hi)) | ((with_reducible refine gate_callee (f := 118) rfl ?_); refine goesL_ (some 22) rfl rfl Try.func118 (by kernel_rfl) rfl #[.pointer (some ⟨g, 0, none⟩)] rfl (by (try simp only [M3_]); first | done | rfl | (simp only [List.length_drop, List.length_take]; rfl)) ?_; (with_reducible refine (spec_l01Byte.calls g s0_0 t108 t109 t110 t111 t112 w0 _ ?side1 ?side2 A10.out).mono ?_); (case side1 => repeat (first | (with_reducible first | exact HI0.out | apply IsS86.alloc | apply IsS86.drewN | apply IsS86.drew | apply IsS86.set_1 | apply IsS86.set_2) | exact HI0.out)); (case side2 => repeat (first | (with_reducible first | exact HB.out | apply below_alloc | apply pw_below_drewN | apply below_drew1 | refine below_set ?_ (IsS86.ge HI0.out)) | exact HB.out)); rintro e w15 ⟨rfl, hi, hb, hk⟩; (try clear A10); refine ⟨_, rfl, ?_⟩; have n0_ := Aside0.mk (KeepBut.trans (by repeat first | exact HK.1 | apply KeepBut.set_ | apply keep_drewN | apply keep_drew | apply keep_alloc) hk (.inl rfl)); have n1_ := Aside0.mk (hb); have n2_ := Aside0.mk (hi); clear HK; clear HB; clear HI0; have HK := n0_; have HB := n1_; have HI0 := n2_; clear n0_ n1_ n2_; (try clear hb); (try clear hb2); (try clear hk); (try clear hi)) | ((with_reducible refine gate_callee (f := 118) rfl ?_); refine goesL_ (some 24) rfl rfl Try.func118 (by kernel_rfl) rfl #[.pointer (some ⟨g, 0, none⟩)] rfl (by (try simp only [M3_]); first | done | rfl | (simp only [List.length_drop, List.length_take]; rfl)) ?_; (with_reducible refine (spec_l01Byte.calls g s0_0 t111 t112 t113 t114 t115 w0 _ ?side1 ?side2 A11.out).mono ?_); (case side1 => repeat (first | (with_reducible first | exact HI0.out | apply IsS86.alloc | apply IsS86.drewN | apply IsS86.drew | apply IsS86.set_1 | apply IsS86.set_2) | exact HI0.out)); (case side2 => repeat (first | (with_reducible first | exact HB.out | apply below_alloc | apply pw_below_drewN | apply below_drew1 | refine below_set ?_ (IsS86.ge HI0.out)) | exact HB.out)); rintro e w16 ⟨rfl, hi, hb, hk⟩; (try clear A11); refine ⟨_, rfl, ?_⟩; have n0_ := Aside0.mk (KeepBut.trans (by repeat first | exact HK.1 | apply KeepBut.set_ | apply keep_drewN | apply keep_drew | apply keep_alloc) hk (.inl rfl)); have n1_ := Aside0.mk (hb); have n2_ := Aside0.mk (hi); clear HK; clear HB; clear HI0; have HK := n0_; have HB := n1_; have HI0 := n2_; clear n0_ n1_ n2_; (try clear hb); (try clear hb2); (try clear hk); (try clear hi)))
        go_ret
        exact ⟨by first | rfl | (simp [errW_none, errW_some] <;> rfl) | (simp [*, errW_none, errW_some] <;> rfl), by repeat (first | (with_reducible first | exact HI0.out | apply IsS86.alloc | apply IsS86.drewN | apply IsS86.drew | apply IsS86.set_1 | apply IsS86.set_2) | exact HI0.out), by repeat (first | (with_reducible first | exact HB.out | apply below_alloc | apply pw_below_drewN | apply below_drew1 | refine below_set ?_ (IsS86.ge HI0.out)) | exact HB.out), by repeat (first | (with_reducible first | exact HK.out | apply KeepBut.set_ | apply keep_drewN | apply keep_drew | apply keep_alloc) | exact HK.out)⟩

/-! ### spec_l01PickInt: function 120 -/
def spec_l01PickInt.f (s0_0 : List Int) (s0_1 : Int) (s0_2 : Int) (l1 : List Int) : Option (Int × Int × Int) := (spec_l01Below.f s0_0 s0_1 s0_2 (l1.length : Int)).bind fun bt101 => (if 0 ≤ bt101.1 then (if bt101.1 < (l1.length : Int) then (some (rd l1 bt101.1, bt101.2.1, bt101.2.2)) else (none)) else (none))
set_option maxHeartbeats 8000000 in
set_option maxRecDepth 100000 in
theorem spec_l01PickInt.calls (g : Nat) (s0_0 : List Int) (s0_1 : Int) (s0_2 : Int) (A1 : Option Addr) (c1 : Nat) (l1 : List Int) (r1 : Int) (r2 : Int) (r3 : Int) (w0 w : World) (hI : IsS86 w0 w g s0_0 s0_1 s0_2) (hB : Below w0.heap.size w0 w) (hr1 : Kd.C (Kd.int .i64) w A1 l1.length l1) (hc1 : l1.length ≤ c1) (hf1 : ∀ ad, A1 = some ad → 0 < l1.length → ad.block ≠ g) (h : spec_l01PickInt.f s0_0 s0_1 s0_2 l1 = some (r1, r2, r3)) :
    Calls Try.prog 120 #[.pointer (some ⟨g, 0, none⟩), .slice A1 l1.length c1] w fun e w' => e = .returned (.int .i64 r1) ∧ IsS86 w0 w' g s0_0 r2 r3 ∧ Below w0.heap.size w0 w' ∧ KeepBut w w' g none := by
  have HR1 := Aside0.mk hr1
  have HC1 := Aside0.mk hc1
  clear hr1 hc1
  have HI0 := Aside0.mk hI
  have HK := Aside0.mk (KeepBut.refl w g none)
  have HL := Aside0.mk hB.size
  clear hI
  have HW0 := Aside0.mk hB.size
  have HB := Aside0.mk hB
  clear hB
  have H : ((spec_l01Below.f s0_0 s0_1 s0_2 (l1.length : Int)).bind fun bt101 => (if 0 ≤ bt101.1 then (if bt101.1 < (l1.length : Int) then (some (rd l1 bt101.1, bt101.2.1, bt101.2.2)) else (none)) else (none))) = some (r1, r2, r3) := h
  clear h
  obtain ⟨⟨t101, t102, t103⟩, A30, H⟩ := Option.bind_eq_some_iff.mp H
  (try dsimp only at H); have A3 := Aside0.mk A30; clear A30
  replace H := iN_ H; obtain ⟨c4, H⟩ := H
  have c4b0 : decide (0 ≤ t101) = true := decide_eq_true c4
  clear c4
  replace H := iN_ H; obtain ⟨c5, H⟩ := H
  have c5b0 : decide (t101 < (l1.length : Int)) = true := decide_eq_true c5
  clear c5
  simp only [Option.some.injEq, Prod.mk.injEq] at H
  obtain ⟨rfl, rfl, rfl⟩ := H
  go_enter Try.func120, Try.ntmps120
  go_wp2_with (first | ((with_reducible refine gate_callee (f := 97) rfl ?_); refine goesL_ (some 9) rfl rfl Try.func97 (by kernel_rfl) rfl #[.pointer (some ⟨g, 0, none⟩), .int .i64 (l1.length : Int)] rfl (by (try simp only [M3_]); first | done | rfl | (simp only [List.length_drop, List.length_take]; rfl)) ?_; (with_reducible refine (spec_l01Below.calls g s0_0 s0_1 s0_2 (l1.length : Int) t101 t102 t103 w0 _ ?side1 ?side2 A3.out).mono ?_); (case side1 => repeat (first | (with_reducible first | exact HI0.out | apply IsS86.alloc | apply IsS86.drewN | apply IsS86.drew | apply IsS86.set_1 | apply IsS86.set_2) | exact HI0.out)); (case side2 => repeat (first | (with_reducible first | exact HB.out | apply below_alloc | apply pw_below_drewN | apply below_drew1 | refine below_set ?_ (IsS86.ge HI0.out)) | exact HB.out)); rintro e w6 ⟨rfl, hi, hb, hk⟩; refine ⟨_, rfl, ?_⟩; have n0_ := Aside0.mk (KeepBut.trans (by repeat first | exact HK.1 | apply KeepBut.set_ | apply keep_drewN | apply keep_drew | apply keep_alloc) hk (.inl rfl)); have n1_ := Aside0.mk (hb); have n2_ := Aside0.mk (hi); clear HK; clear HB; clear HI0; have HK := n0_; have HB := n1_; have HI0 := n2_; clear n0_ n1_ n2_; (try clear hb); (try clear hb2); (try clear hk); (try clear hi); have p104 : 0 ≤ (t101 : Int) := of_decide_eq_true (by first | (with_reducible assumption) | assumption); have q104 : t101 < (l1.length : Int) := of_decide_eq_true (by first | (with_reducible assumption) | assumption); obtain ⟨ad104, e104, hx104_0⟩ := Kd.at_int HR1.out t101 p104 q104; cases e104; replace hx104_0 := keep_cell HK.out hx104_0 (by first | (rw [add_block]; exact hf1 _ rfl (by omega)) | exact hf1 _ rfl (by omega) | exact hf1 ad104 rfl (by omega)); replace p104 := eq_true p104; replace q104 := eq_true q104))
  go_ret
  exact ⟨by first | rfl | (simp [errW_none, errW_some] <;> rfl) | (simp [*, errW_none, errW_some] <;> rfl), by repeat (first | (with_reducible first | exact HI0.out | apply IsS86.alloc | apply IsS86.drewN | apply IsS86.drew | apply IsS86.set_1 | apply IsS86.set_2) | exact HI0.out), by repeat (first | (with_reducible first | exact HB.out | apply below_alloc | apply pw_below_drewN | apply below_drew1 | refine below_set ?_ (IsS86.ge HI0.out)) | exact HB.out), by repeat (first | (with_reducible first | exact HK.out | apply KeepBut.set_ | apply keep_drewN | apply keep_drew | apply keep_alloc) | exact HK.out)⟩

end Go.Proofs.Ytoohcdfokejkdaa.P
