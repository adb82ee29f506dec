/- The statement FnExactIsBraid of the seat, out of its plain form (FnExactIsBraid_pure) and the walk of its Go function. Part 3 of 3: each Go function's walk, then the plain lemmas, then the row. No condition: it holds for every input. -/
import Derived.Test.YtbeajmcjfhbcjaaBFnExactIsBraid2
import Derived.Test.YtbeajmcjfhbcjaaRows
import Derived.Below
import Derived.ChangeOld
import Derived.ChangeSlices
import Derived.Deep.Matrix
import Derived.Lib.SmallJoins
import Derived.OpenShut
import Derived.ProofKit
import Derived.ShutString
import Derived.SizedLaws
import Derived.WalkKit
namespace Go.Proofs.Ytbeajmcjfhbcjaa.P
open Go.RowKit Go.Proofs.YtbeajmcjfhbcjaaW.PrintWords Go.Proofs.YtbeajmcjfhbcjaaW.PrintLast Go.Proofs.YtbeajmcjfhbcjaaW.PrintMore
attribute [local go_sem] max2_int min2_int max_two min_two max_three min_three max_four min_four   -- for this text's walks alone
set_option linter.unusedVariables false
set_option linter.unusedSimpArgs false

/-! ### impl_WaysFrom: function 52 -/
def impl_WaysFrom.l0 : Nat → Int → List Int → Int → Int → Int → Int → Option (List Int)
  | 0, _, _, _, _, _, _ => none
  | k + 1, x1, x5, x6, x102000, x102001, x102002 => if x6 ≤ 3 then ((impl_Step.f k x102000 x102001 x102002 x1 x6).bind fun t102 => (if t102 ≥ 0 then (if x5.length < 17592186044416 then (impl_WaysFrom.l0 k x1 (x5 ++ [x6]) (wrap64 (x6 + 1)) x102000 x102001 x102002) else (none)) else (impl_WaysFrom.l0 k x1 x5 (wrap64 (x6 + 1)) x102000 x102001 x102002))) else (some x5)
def impl_WaysFrom.f (k : Nat) (a0_0 : Int) (a0_1 : Int) (a0_2 : Int) (a1 : Int) : Option (List Int) := impl_WaysFrom.l0 k a1 ([] : List Int) 0 a0_0 a0_1 a0_2
set_option maxHeartbeats 8000000 in
set_option maxRecDepth 100000 in
theorem impl_WaysFrom.calls (k : Nat) (a0_0 : Int) (a0_1 : Int) (a0_2 : Int) (a1 : Int) (r : List Int) (w : World) (h : impl_WaysFrom.f k a0_0 a0_1 a0_2 a1 = some r) :
    Calls Try.prog 52 #[.agg #[.int .i64 a0_0, .int .i64 a0_1, .int .i64 a0_2], .int .i64 a1] w fun e w' => ∃ v0_ : Value, e = .returned (v0_) ∧ Kd.R (Kd.int .i64) 3 w' w.heap.size (fun _ => True) v0_ r ∧ Below w.heap.size w w' := by
  have hu27 := Try.underlying27
  have HB := Aside0.mk (Below.refl w.heap.size w)
  have H : (impl_WaysFrom.l0 k a1 ([] : List Int) 0 a0_0 a0_1 a0_2) = some r := h
  clear h
  have H' := Aside0.mk H
  clear H
  go_enter Try.func52, Try.ntmps52
  go_wp2_with (((with_reducible refine gate_dst (N := 2) rfl ?_); refine box_event ?hg (N := 2) ?hd (cs := #[.int .i64 a0_0, .int .i64 a0_1, .int .i64 a0_2]) (t := 27) ?hr ?_; (case hd => rfl); (case hg => rfl); (case hr => (go_simp; done)); intro gb101 hg w3 hbox hb; have n0_ := Aside0.mk (below_step HB.out hb); have n1_ := Aside0.mk (hbox); have n2_ := Aside0.mk ((by rw [hg]; exact (below_size HB.out) : w.heap.size ≤ gb101)); have n3_ := Aside0.mk ((by rw [hg]; exact (below_size HB.out) : w.heap.size ≤ gb101)); clear HB; have HB := n0_; have BK101 := n1_; have GW101 := n2_; have GE101 := n3_; clear n0_ n1_ n2_ n3_; clear hb hbox hg))
  go_loopg [5, 6] k (fun kq v5 v6 w' => ∃ (x5_1 : List Int) (x6_1 : Int), v6 = .int .i64 x6_1 ∧ Aside0 (impl_WaysFrom.l0 kq a1 x5_1 x6_1 a0_0 a0_1 a0_2 = some r) ∧ Aside0 (kq ≤ k) ∧ Aside0 (Kd.R (Kd.int .i64) 3 w' w.heap.size (fun _ => True) v5 x5_1) ∧ Aside0 (w'.heap[gb101]? = some (.cells #[.int .i64 a0_0, .int .i64 a0_1, .int .i64 a0_2] 27 (0, 0))) ∧ Aside0 (Below w.heap.size w w'))
  case atStart => exact ⟨(([] : List Int)), (0), (by rfl), H', ⟨Nat.le_refl _⟩, ⟨by exact Kd.R_nil _ _ _ _ _⟩, ⟨by exact BK101.out⟩, ⟨by repeat ((with_reducible exact HB.out))⟩⟩
  case round =>
    clear H'; try clear p2
    obtain ⟨x5_1, x6_1, rfl, HA, HK1, HO_5, BK101, HB⟩ := hrel
    cases gk with
    | zero => exact absurd HA.out (by simp [impl_WaysFrom.l0])
    | succ k1 =>
      have H := HA.out
      clear HA
      simp only [impl_WaysFrom.l0] at H
      by_cases c4 : x6_1 ≤ 3
      · rw [if_pos c4] at H
        have c4b0 : decide (x6_1 ≤ 3) = true := decide_eq_true c4
        clear c4
        obtain ⟨t102, A50, H⟩ := Option.bind_eq_some_iff.mp H
        (try dsimp only at H); have A5 := Aside0.mk A50; clear A50
        by_cases c6 : t102 ≥ 0
        · rw [if_pos c6] at H
          have c6b0 : decide (0 ≤ t102) = true := decide_eq_true c6
          clear c6
          replace H := iN_ H; obtain ⟨c7, H⟩ := H
          have LMc7 := Aside0.mk c7
          clear c7
          obtain ⟨y103, hy103⟩ : ∃ y_ : List Int, y_ = (x5_1 ++ [x6_1]) := ⟨_, rfl⟩
          replace H : (impl_WaysFrom.l0 k1 a1 y103 (wrap64 (x6_1 + 1)) a0_0 a0_1 a0_2) = some r := by (rw [hy103]; with_reducible exact H)
          have Ny103 := Aside0.mk hy103
          clear hy103
          have H' := Aside0.mk H
          clear H
          obtain ⟨hcz8_0, hcz8_1, hcz8_2⟩ := kk3_ BK101.1
          have hfz8_0 := blk_frozen BK101.out 0
          have hfz8_1 := blk_frozen BK101.out 1
          have hfz8_2 := blk_frozen BK101.out 2
          go_wp2_with (first | ((with_reducible refine gate_callee (f := 113) rfl ?_); refine goesL_ (some 14) rfl rfl Try.func113 (by kernel_rfl) rfl #[.agg #[.int .i64 a0_0, .int .i64 a0_1, .int .i64 a0_2], .int .i64 a1, .int .i64 x6_1] rfl (by (try simp only [List.map_toArray, List.map_cons, List.map_nil]); rfl) ?_; (with_reducible refine (impl_Step.calls k1 a0_0 a0_1 a0_2 a1 x6_1 t102 _ A5.out).mono ?_); rintro e w9 ⟨rfl, hb⟩; refine ⟨_, rfl, ?_⟩; have n0_ := Aside0.mk (Kd.R_below HO_5.out hb); have n1_ := Aside0.mk (blk_below (g := gb101) (o := .cells #[.int .i64 a0_0, .int .i64 a0_1, .int .i64 a0_2] 27 (0, 0)) BK101.out hb); have n2_ := Aside0.mk (below_step HB.out hb); clear HO_5; clear BK101; clear HB; have HO_5 := n0_; have BK101 := n1_; have HB := n2_; clear n0_ n1_ n2_; (try clear hb); (try clear hb2); (try clear hk); (try clear hi)) | ((with_reducible refine gate_builtin (b := .append) (xs := #[.tmp 16, .tmp 18]) rfl ?_); at_builtin; refine Kd.R_append (Kd.int .i64) (w0 := w) w.heap.size rfl (.tmp 16) (.tmp 18) 39 3 (.int .i64 0) 8 rfl Try.underlying39 info3 rfl (by decide) (by omega) u5 x5_1 x6_1 [.int .i64 x6_1] (fun _ => True) (fun _ => False) rfl rfl ?aP (fun _ hk => hk.elim) ?aF ?aO ?aB ?aS ?aL ?_; (case aP => exact rfl); (case aB => exact HB.out); (case aF => exact (fun _ _ => trivial)); (case aO => exact HO_5.out); (case aS => exact (below_size HB.out)); (case aL => have := LMc7.out; omega); intro v104 w10 ho hb hg hat; rw [← Ny103.out] at ho; have n0_ := Aside0.mk (blk_grown (g := gb101) (o := .cells #[.int .i64 a0_0, .int .i64 a0_1, .int .i64 a0_2] 27 (0, 0)) BK101.out hg (Kd.R_ne HO_5.out BK101.out (by decide))); have n1_ := Aside0.mk (hb); have n2_ := Aside0.mk (ho); clear BK101; clear HB; clear HO_5; have BK101 := n0_; have HB := n1_; have HO105 := n2_; clear n0_ n1_ n2_; clear ho hb hg hat))
          go_roundg k1
          case measure => have := HK1.out; omega
          case rel => exact ⟨(y103), (wrap64 (x6_1 + 1)), (by rfl), H', ⟨by have := HK1.out; omega⟩, ⟨by exact HO105.out⟩, ⟨by exact BK101.out⟩, ⟨by repeat ((with_reducible exact HB.out))⟩⟩
        · rw [if_neg c6] at H
          have c6b0 : decide (0 ≤ t102) = false := decide_eq_false c6
          clear c6
          have H' := Aside0.mk H
          clear H
          obtain ⟨hcz11_0, hcz11_1, hcz11_2⟩ := kk3_ BK101.1
          have hfz11_0 := blk_frozen BK101.out 0
          have hfz11_1 := blk_frozen BK101.out 1
          have hfz11_2 := blk_frozen BK101.out 2
          go_wp2_with (((with_reducible refine gate_callee (f := 113) rfl ?_); refine goesL_ (some 14) rfl rfl Try.func113 (by kernel_rfl) rfl #[.agg #[.int .i64 a0_0, .int .i64 a0_1, .int .i64 a0_2], .int .i64 a1, .int .i64 x6_1] rfl (by (try simp only [List.map_toArray, List.map_cons, List.map_nil]); rfl) ?_; (with_reducible refine (impl_Step.calls k1 a0_0 a0_1 a0_2 a1 x6_1 t102 _ A5.out).mono ?_); rintro e w12 ⟨rfl, hb⟩; refine ⟨_, rfl, ?_⟩; have n0_ := Aside0.mk (Kd.R_below HO_5.out hb); have n1_ := Aside0.mk (blk_below (g := gb101) (o := .cells #[.int .i64 a0_0, .int .i64 a0_1, .int .i64 a0_2] 27 (0, 0)) BK101.out hb); have n2_ := Aside0.mk (below_step HB.out hb); clear HO_5; clear BK101; clear HB; have HO_5 := n0_; have BK101 := n1_; have HB := n2_; clear n0_ n1_ n2_; (try clear hb); (try clear hb2); (try clear hk); (try clear hi)))
          go_roundg k1
          case measure => have := HK1.out; omega
          case rel => exact ⟨(x5_1), (wrap64 (x6_1 + 1)), (by rfl), H', ⟨by have := HK1.out; omega⟩, ⟨by exact HO_5.out⟩, ⟨by exact BK101.out⟩, ⟨by repeat ((with_reducible exact HB.out))⟩⟩
      · rw [if_neg c4] at H
        have c4b0 : decide (x6_1 ≤ 3) = false := decide_eq_false c4
        clear c4
        obtain rfl := Option.some.inj H
        go_wp2
        go_ret
        exact ⟨_, by rfl, by exact HO_5.out, by repeat ((with_reducible exact HB.out))⟩

end Go.Proofs.Ytbeajmcjfhbcjaa.P
namespace Go.Proofs.Ytbeajmcjfhbcjaa.P
open Go.RowKit Go.Proofs.YtbeajmcjfhbcjaaW.PrintWords Go.Proofs.YtbeajmcjfhbcjaaW.PrintLast Go.Proofs.YtbeajmcjfhbcjaaW.PrintMore
attribute [local go_sem] max2_int min2_int max_two min_two max_three min_three max_four min_four   -- for this text's walks alone
set_option linter.unusedVariables false
set_option linter.unusedSimpArgs false

/-! ### impl_DeadEnds: function 96 -/
def impl_DeadEnds.f (k : Nat) (a0_0 : Int) (a0_1 : Int) (a0_2 : Int) : Option (List Int) := (impl_MazeOk.f a0_0 a0_1 a0_2).bind fun t => (if t = true then ((impl_CountCells.f a0_0 a0_1).bind fun n => ((impl_upTo.f k n).bind fun l => (if l.all (fun c => (impl_WaysFrom.f k a0_0 a0_1 a0_2 c).isSome) = true then some (l.filter fun x => !(!(decide (((impl_WaysFrom.f k a0_0 a0_1 a0_2 x).getD []).length = 1)))) else none))) else some [])
theorem all_someL {f : Int → Option (List Int)} {l : List Int} (h : l.all (fun c => (f c).isSome) = true) : ∀ x ∈ l, ∃ b, f x = some b := fun x hx => Option.isSome_iff_exists.1 (List.all_eq_true.1 h x hx)
section
variable {P : Program} {ops : Array Oper} {Q : Exit → Act → World → Prop}
/-- A call of a function value in a region that draws its order. -/
theorem goesV_ {oi : Oper} {N : Option Tmp} {a : Act} {w : World} {K : Act → World → Prop} {o : Operand} {g : FuncId} {lb : Array Value} {xs : Array Operand} {ts : Array TypeId} (he : ∀ args w, (callFunc g args).run P w = .ok (.enter g args) w) (args : Array Value)
    (hw : Region.wanted oi (yielded ops a.tmps) = true) (hN : oi.dst = N) (hop : oi.op = .call { callee := .value o, args := xs, argTypes := ts }) (ho : a.eval o = .func (.func g) #[] lb) (hargs : xs.map a.eval = args)
    (h : Calls P g (args ++ lb) w fun e w' => ∃ v, e = .returned v ∧ K (a.put N v) w') : if Region.wanted oi (yielded ops a.tmps) = true then Oper.wp P oi a w K Q else K (a.put N undef) w := by
  refine call_ g (args ++ lb) hw hN ?_ h
  unfold execOp
  simp [hop, resolve, Deferred.ofValue, invoke, ho, hargs, he]
end
theorem impl_DeadEnds_1.calls (A0 : Option Addr) (c0 : Nat) (l : List Int) (W : World) (hl : l.length ≤ 9223372036854775807) :
    Calls Try.prog 138 #[.slice A0 l.length c0] W fun e w' => e = .returned (.bool (decide (l.length = 1))) ∧ Below W.heap.size W w' := by
  go_enter Try.func138, Try.ntmps138
  go_wp2
  go_ret
  refine ⟨?_, Below.refl _ _⟩
  have : (((l.length : Int) == 1) : Bool) = decide (l.length = 1) := by
    rw [Bool.eq_iff_iff, beq_iff_eq, decide_eq_true_eq]; omega
  simp [this]
set_option maxHeartbeats 4000000 in
set_option maxRecDepth 100000 in
theorem impl_cellsWith_1.calls (gb gf : Nat) (k : Nat) (a0_0 a0_1 a0_2 c : Int) (l : List Int) (W : World) (hblk : W.heap[gb]? = some (.cells #[.int .i64 a0_0, .int .i64 a0_1, .int .i64 a0_2] 27 (0, 0))) (hf : W.heap[gf]? = some (.cells #[.func (.func 138) #[] #[]] 119 (0, 0))) (h : impl_WaysFrom.f k a0_0 a0_1 a0_2 c = some l) :
    Calls Try.prog 159 #[.int .i64 c, .pointer (some ⟨gf, 0, none⟩), .pointer (some ⟨gb, 0, none⟩)] W fun e w' => e = .returned (.bool (!(decide (l.length = 1)))) ∧ Below W.heap.size W w' := by
  have hu42 := Try.underlying27
  have BM := Aside0.mk hblk
  have BF := Aside0.mk hf
  have HL := Aside0.mk h
  clear hblk hf h
  go_enter Try.func159, Try.ntmps159
  try go_wp2
  have HB := Aside0.mk (below_drew1 (Below.refl W.heap.size W))
  have BM2 := Aside0.mk (blk_drew BM.out)
  have BF2 := Aside0.mk (blk_drew BF.out)
  refine start_ (n := 7) (S := fun w' => w'.cell? ⟨gb, 0, none⟩ = some (.int .i64 a0_0) ∧ w'.cell? ⟨gb, 1, none⟩ = some (.int .i64 a0_1) ∧ w'.cell? ⟨gb, 2, none⟩ = some (.int .i64 a0_2) ∧ w'.cell? ⟨gf, 0, none⟩ = some (.func (.func 138) #[] #[])) (ds := []) #[false, false, false, false, false, false, false] (by kernel_rfl) rfl rfl ⟨(blk_cell BM2.out 0).trans rfl, (blk_cell BM2.out 1).trans rfl, (blk_cell BM2.out 2).trans rfl, (blk_cell BF2.out 0).trans rfl⟩ (fun hHeld => ?_)
  generalize W.drew = w6 at BM2 BF2 HB hHeld ⊢
  clear BM BF
  refine take_ (i := 0) (N := some 5) (v := ?_) (a' := ?_) #[true, false, false, false, false, false, false] rfl rfl (by kernel_rfl) (fun _ _ _ h => h) (Or.inl ⟨by rfl, ?_⟩) hHeld ?_ ?_; rotate_left; (rintro w' ⟨s0, s1, s2, s3⟩; go_simp; with_reducible rfl); rotate_left; (simp only [P6_]; rfl)
  refine take_ (i := 1) (N := some 6) (v := ?_) (a' := ?_) #[true, true, false, false, false, false, false] rfl rfl (by kernel_rfl) (fun _ _ _ h => h) (Or.inl ⟨by rfl, ?_⟩) hHeld ?_ ?_; rotate_left; (rintro w' ⟨s0, s1, s2, s3⟩; go_simp; with_reducible rfl); rotate_left; (simp only [P6_]; rfl)
  refine pure_ (i := 2) (N := some 7) (v := ?_) (a' := ?_) #[true, true, true, false, false, false, false] rfl rfl (by kernel_rfl) (fun _ _ _ h => h) (Or.inl ⟨by rfl, ?_⟩) ?_ ?_; rotate_left; (intro w'; go_simp; with_reducible rfl); rotate_left; (simp only [P6_]; rfl)
  refine one_ (i := 3) (N := some 8) #[true, true, true, true, false, false, false] rfl rfl (by kernel_rfl) (by decide) (fun K hK => ?_)
  refine goes_ Try.func52 (by kernel_rfl) rfl #[.agg #[.int .i64 a0_0, .int .i64 a0_1, .int .i64 a0_2], .int .i64 c] (by rfl) rfl rfl (by (try simp only [M3_]); first | done | rfl) ?_
  with_reducible refine (impl_WaysFrom.calls k a0_0 a0_1 a0_2 c l _ HL.out).mono ?_
  rintro e w7 ⟨v7, rfl, hr, hb⟩
  refine ⟨_, rfl, ?_⟩
  obtain ⟨A0, c0, rfl, hc0, hrd⟩ := Kd.R_reads hr
  have BM3 := Aside0.mk (blk_below BM2.out hb)
  have BF3 := Aside0.mk (blk_below BF2.out hb)
  have HB3 := Aside0.mk (below_step HB.out hb)
  have hlen := hrd.2.1
  clear hr hb BM2 BF2 HB hrd hHeld
  refine hK.out _ _ ⟨(blk_cell BM3.out 0).trans rfl, (blk_cell BM3.out 1).trans rfl, (blk_cell BM3.out 2).trans rfl, (blk_cell BF3.out 0).trans rfl⟩ (fun hHeld => ?_)
  clear hK K
  refine norm_ (a' := ?_) ?_ ?_; rotate_left; (show Act.put _ (some 8) _ = _; simp only [P6_]; rfl)
  refine one_ (i := 4) (N := some 9) #[true, true, true, true, true, false, false] rfl rfl (by kernel_rfl) (by decide) (fun K hK => ?_)
  refine goesV_ (g := 138) (lb := #[]) (enters_ Try.func138 (by kernel_rfl) rfl) #[.slice A0 l.length c0] (by rfl) rfl rfl rfl (by (try simp only [M3_]); first | done | rfl) ?_
  refine (impl_DeadEnds_1.calls A0 c0 l _ hlen).mono ?_
  rintro e w8 ⟨rfl, hb⟩
  refine ⟨_, rfl, ?_⟩
  have BM4 := Aside0.mk (blk_below BM3.out hb)
  have BF4 := Aside0.mk (blk_below BF3.out hb)
  have HB4 := Aside0.mk (below_step HB3.out hb)
  clear hb BM3 BF3 HB3 hHeld
  refine hK.out _ _ ⟨(blk_cell BM4.out 0).trans rfl, (blk_cell BM4.out 1).trans rfl, (blk_cell BM4.out 2).trans rfl, (blk_cell BF4.out 0).trans rfl⟩ (fun hHeld => ?_)
  clear hK K
  refine norm_ (a' := ?_) ?_ ?_; rotate_left; (show Act.put _ (some 9) _ = _; simp only [P6_]; rfl)
  refine pure_ (i := 5) (N := some 10) (v := ?_) (a' := ?_) #[true, true, true, true, true, true, false] rfl rfl (by kernel_rfl) (fun _ _ _ h => h) (Or.inl ⟨by rfl, ?_⟩) ?_ ?_; rotate_left; (intro w'; go_simp; with_reducible rfl); rotate_left; (simp only [P6_]; rfl)
  refine pure_ (i := 6) (N := some 4) (v := ?_) (a' := ?_) #[true, true, true, true, true, true, true] rfl rfl (by kernel_rfl) (fun _ _ _ h => h) (Or.inl ⟨by rfl, ?_⟩) ?_ ?_; rotate_left; (intro w'; go_simp; with_reducible rfl); rotate_left; (simp only [P6_]; rfl)
  refine done_ (by kernel_rfl) ?_
  try go_wp2
  go_ret
  exact ⟨rfl, HB4.out⟩
set_option maxHeartbeats 4000000 in
set_option maxRecDepth 100000 in
theorem impl_cellsWith.calls (k : Nat) (a0_0 : Int) (a0_1 : Int) (a0_2 : Int) (r : List Int) (w : World) (h : impl_DeadEnds.f k a0_0 a0_1 a0_2 = some r) :
    Calls Try.prog 137 #[.agg #[.int .i64 a0_0, .int .i64 a0_1, .int .i64 a0_2], .func (.func 138) #[] #[]] w fun e w' => ∃ v0_ : Value, e = .returned (v0_) ∧ Kd.R (Kd.int .i64) 3 w' w.heap.size (fun _ => True) v0_ r ∧ Below w.heap.size w w' := by
  have hu42 := Try.underlying27
  obtain ⟨t, ht, H⟩ := Option.bind_eq_some_iff.1 h
  have HM := Aside0.mk ht
  clear h ht
  cases t with
  | false =>
    obtain rfl := Option.some.inj H
    clear H
    go_enter Try.func137, Try.ntmps137
    go_wp2_with ((with_reducible refine gate_callee (f := 69) rfl ?_); refine goesL_ (some 6) rfl rfl Try.func69 (by kernel_rfl) rfl #[.agg #[.int .i64 a0_0, .int .i64 a0_1, .int .i64 a0_2]] rfl (by (try simp only [M3_]); first | done | rfl) ?_; refine (impl_MazeOk.calls a0_0 a0_1 a0_2 false _ HM.out).mono ?_; rintro e w1 ⟨rfl, hb⟩; refine ⟨_, rfl, ?_⟩; have HB := Aside0.mk ((below_alloc (below_alloc (Below.refl _ _) _) _).trans (hb.mono (by simp; omega)) : Below w.heap.size w w1); clear hb)
    go_ret
    exact ⟨_, rfl, Kd.R_nil _ _ _ _ _, HB.out⟩
  | true =>
    rw [if_pos rfl] at H
    obtain ⟨n, hn, H⟩ := Option.bind_eq_some_iff.1 H
    obtain ⟨l, hl, H⟩ := Option.bind_eq_some_iff.1 H
    by_cases hall : l.all (fun c => (impl_WaysFrom.f k a0_0 a0_1 a0_2 c).isSome) = true
    · rw [if_pos hall] at H
      obtain rfl := Option.some.inj H
      have HN := Aside0.mk hn
      have HL := Aside0.mk hl
      have HA := Aside0.mk (all_someL hall)
      have hP : ∀ W : World, W.heap[w.heap.size]? = some (.cells #[.int .i64 a0_0, .int .i64 a0_1, .int .i64 a0_2] 27 (0, 0)) → W.heap[w.heap.size + 1]? = some (.cells #[.func (.func 138) #[] #[]] 119 (0, 0)) → PredB 159 #[.pointer (some ⟨w.heap.size + 1, 0, none⟩), .pointer (some ⟨w.heap.size, 0, none⟩)] (fun c => ∃ b, impl_WaysFrom.f k a0_0 a0_1 a0_2 c = some b) (fun c => !(decide (((impl_WaysFrom.f k a0_0 a0_1 a0_2 c).getD []).length = 1))) (w.heap.size + 2) W := by
        rintro W hblk hblf W1 x ⟨b, hb⟩ hB _
        have := impl_cellsWith_1.calls w.heap.size (w.heap.size + 1) k a0_0 a0_1 a0_2 x b W1 ((hB.block _ (by omega)).trans hblk) ((hB.block _ (by omega)).trans hblf) hb
        show Calls Try.prog 159 _ W1 fun e w' => e = .returned (.bool (!(decide (((impl_WaysFrom.f k a0_0 a0_1 a0_2 x).getD []).length = 1)))) ∧ _
        rw [hb]
        exact this
      have HPR := Aside0.mk hP
      clear hall H hP hn hl
      go_enter Try.func137, Try.ntmps137
      go_wp2_with (first | ((with_reducible refine gate_callee (f := 69) rfl ?_); refine goesL_ (some 6) rfl rfl Try.func69 (by kernel_rfl) rfl #[.agg #[.int .i64 a0_0, .int .i64 a0_1, .int .i64 a0_2]] rfl (by (try simp only [M3_]); first | done | rfl) ?_; refine (impl_MazeOk.calls a0_0 a0_1 a0_2 true _ HM.out).mono ?_; rintro e w1 ⟨rfl, hb⟩; refine ⟨_, rfl, ?_⟩; have HB := Aside0.mk ((below_alloc (below_alloc (Below.refl _ _) _) _).trans (hb.mono (by simp; omega)) : Below w.heap.size w w1); have hs1 := hb.size; simp at hs1; have hG := (hb.block w.heap.size (by simp; omega)).trans (alloc_fst w (.cells #[.int .i64 a0_0, .int .i64 a0_1, .int .i64 a0_2] 27) (.cells #[.func (.func 138) #[] #[]] 119)); have hG0 : w1.cell? ⟨w.heap.size, 0, none⟩ = some (.int .i64 a0_0) := (blk_cell hG 0).trans rfl; have hG1 : w1.cell? ⟨w.heap.size, 1, none⟩ = some (.int .i64 a0_1) := (blk_cell hG 1).trans rfl; have HG1 := Aside0.mk hG; have HM1 := Aside0.mk ((hb.block (w.heap.size + 1) (by simp)).trans (alloc_snd w (.cells #[.int .i64 a0_0, .int .i64 a0_1, .int .i64 a0_2] 27) (.cells #[.func (.func 138) #[] #[]] 119))); clear hb hG) | ((with_reducible refine gate_callee (f := 68) rfl ?_); refine goesL_ (some 10) rfl rfl Try.func68 (by kernel_rfl) rfl #[.agg #[.int .i64 a0_0, .int .i64 a0_1]] rfl (by (try simp only [M3_]); first | done | rfl) ?_; refine (impl_CountCells.calls a0_0 a0_1 n _ HN.out).mono ?_; rintro e w2 ⟨rfl, hb⟩; refine ⟨_, rfl, ?_⟩; have HB2 := Aside0.mk (HB.out.trans (hb.mono HB.out.size)); have hs2 := hb.size; have HM2 := Aside0.mk ((hb.block (w.heap.size + 1) (by omega)).trans HM1.out); have HG2 := Aside0.mk ((hb.block (w.heap.size) (by omega)).trans HG1.out); clear hb HB HM1 HG1 hG0 hG1) | ((with_reducible refine gate_callee (f := 70) rfl ?_); refine goesL_ (some 11) rfl rfl Try.func70 (by kernel_rfl) rfl #[.int .i64 n] rfl (by (try simp only [M3_]); first | done | rfl) ?_; refine (impl_upTo.calls k n l _ HL.out).mono ?_; rintro e w3 ⟨v3, rfl, hr, hb⟩; refine ⟨_, rfl, ?_⟩; have HR := Aside0.mk hr; have HB3 := Aside0.mk (HB2.out.trans (hb.mono HB2.out.size)); have hs3 := hb.size; have HM3 := Aside0.mk ((hb.block (w.heap.size + 1) (by omega)).trans HM2.out); have HG3 := Aside0.mk ((hb.block (w.heap.size) (by omega)).trans HG2.out); clear hb hr HB2 HM2 HG2) | (go_at_call 111; refine (slices_DeleteFunc_int_int.calls 159 #[.pointer (some ⟨w.heap.size + 1, 0, none⟩), .pointer (some ⟨w.heap.size, 0, none⟩)] (enters_ Try.func159 (by kernel_rfl) rfl) _ _ (w.heap.size + 2) w3 (HPR.out w3 HG3.out HM3.out) w2.heap.size v3 l w3 (Below.refl _ _) (by omega) hs3 HR.out HA.out).mono ?_; rintro e w4 ⟨v4, rfl, hr4, hb4, hs4⟩; have HR4 := Aside0.mk hr4; have HB4 := Aside0.mk (HB3.out.trans (hb4.mono (by omega))); clear hr4 hb4))
      go_ret
      exact ⟨_, rfl, Kd.R_lower HR4.out (by omega), HB4.out⟩
    · rw [if_neg hall] at H
      exact absurd H (by simp)
set_option maxHeartbeats 4000000 in
set_option maxRecDepth 100000 in
theorem impl_DeadEnds.calls (k : Nat) (a0_0 : Int) (a0_1 : Int) (a0_2 : Int) (r : List Int) (w : World) (h : impl_DeadEnds.f k a0_0 a0_1 a0_2 = some r) :
    Calls Try.prog 96 #[.agg #[.int .i64 a0_0, .int .i64 a0_1, .int .i64 a0_2]] w fun e w' => ∃ v0_ : Value, e = .returned (v0_) ∧ Kd.R (Kd.int .i64) 3 w' w.heap.size (fun _ => True) v0_ r ∧ Below w.heap.size w w' := by
  have hu42 := Try.underlying27
  have HH := Aside0.mk h
  clear h
  go_enter Try.func96, Try.ntmps96
  go_wp2_with ((with_reducible refine gate_callee (f := 137) rfl ?_); refine goesL_ (some 4) rfl rfl Try.func137 (by kernel_rfl) rfl #[.agg #[.int .i64 a0_0, .int .i64 a0_1, .int .i64 a0_2], .func (.func 138) #[] #[]] rfl (by (try simp only [M3_]); first | done | rfl) ?_; refine (impl_cellsWith.calls k a0_0 a0_1 a0_2 r _ HH.out).mono ?_; rintro e w1 ⟨v1, rfl, hr, hb⟩; refine ⟨_, rfl, ?_⟩; have HR := Aside0.mk hr; have HB := Aside0.mk ((below_alloc (Below.refl _ _) _).trans (hb.mono (by simp)) : Below w.heap.size w w1); clear hb hr)
  go_ret
  exact ⟨_, rfl, Kd.R_lower HR.out (by simp), HB.out⟩

end Go.Proofs.Ytbeajmcjfhbcjaa.P
namespace Go.Proofs.Ytbeajmcjfhbcjaa.P
open Go.RowKit Go.Proofs.YtbeajmcjfhbcjaaW.PrintWords Go.Proofs.YtbeajmcjfhbcjaaW.PrintLast Go.Proofs.YtbeajmcjfhbcjaaW.PrintMore
attribute [local go_sem] max2_int min2_int max_two min_two max_three min_three max_four min_four   -- for this text's walks alone
set_option linter.unusedVariables false
set_option linter.unusedSimpArgs false

/-! ### impl_IsBraid: function 36 -/
def impl_IsBraid.f (k : Nat) (a0_0 : Int) (a0_1 : Int) (a0_2 : Int) : Option (Bool) := (impl_MazeOk.f a0_0 a0_1 a0_2).bind fun t102 => (if t102 = true then ((impl_DeadEnds.f k a0_0 a0_1 a0_2).bind fun t103 => (some ((t103.length : Int) == 0))) else (some false))
set_option maxHeartbeats 8000000 in
set_option maxRecDepth 100000 in
theorem impl_IsBraid.calls (k : Nat) (a0_0 : Int) (a0_1 : Int) (a0_2 : Int) (r : Bool) (w : World) (h : impl_IsBraid.f k a0_0 a0_1 a0_2 = some r) :
    Calls Try.prog 36 #[.agg #[.int .i64 a0_0, .int .i64 a0_1, .int .i64 a0_2]] w fun e w' => e = .returned (.bool r) ∧ Below w.heap.size w w' := by
  have hu27 := Try.underlying27
  have HB := Aside0.mk (Below.refl w.heap.size w)
  have H : ((impl_MazeOk.f a0_0 a0_1 a0_2).bind fun t102 => (if t102 = true then ((impl_DeadEnds.f k a0_0 a0_1 a0_2).bind fun t103 => (some ((t103.length : Int) == 0))) else (some false))) = some r := h
  clear h
  obtain ⟨t102, A20, H⟩ := Option.bind_eq_some_iff.mp H
  (try dsimp only at H); have A2 := Aside0.mk A20; clear A20
  by_cases c3 : t102 = true
  · subst c3
    rw [if_pos rfl] at H
    obtain ⟨t103, A40, H⟩ := Option.bind_eq_some_iff.mp H
    (try dsimp only at H); have A4 := Aside0.mk A40; clear A40
    obtain rfl := Option.some.inj H
    go_enter Try.func36, Try.ntmps36
    go_wp2_with (first | ((with_reducible refine gate_dst (N := 1) rfl ?_); (try (refine gate_guard (by rfl) ?_; dsimp only)); refine box_event ?hg (N := 1) ?hd (cs := #[.int .i64 a0_0, .int .i64 a0_1, .int .i64 a0_2]) (t := 27) ?hr ?_; (case hd => rfl); (case hg => rfl); (case hr => first | (go_simp; done) | (go_simp; rfl)); intro gb101 hg w5 hbox hb; have n0_ := Aside0.mk (below_step (by repeat first | exact HB.1 | apply bA_ | apply bB_ | apply bC_) hb); have n1_ := Aside0.mk (hbox); have n2_ := Aside0.mk ((by rw [hg]; exact (below_size (by repeat first | exact HB.1 | apply bA_ | apply bB_ | apply bC_)) : w.heap.size ≤ gb101)); have n3_ := n2_; clear HB; have HB := n0_; have BK101 := n1_; have GW101 := n2_; have GE101 := n3_; clear n0_ n1_ n2_ n3_; clear hb hbox hg; obtain ⟨hcz6_0, hcz6_1, hcz6_2⟩ := kk3_ BK101.1; have hfz6_0 := blk_frozen BK101.out 0; have hfz6_1 := blk_frozen BK101.out 1; have hfz6_2 := blk_frozen BK101.out 2) | ((with_reducible refine gate_callee (f := 69) rfl ?_); refine goesL_ (some 4) rfl rfl Try.func69 (by kernel_rfl) rfl #[.agg #[.int .i64 a0_0, .int .i64 a0_1, .int .i64 a0_2]] rfl (by (try simp only [M3_]); first | done | rfl | (simp only [List.length_drop, List.length_take]; rfl)) ?_; (with_reducible refine (impl_MazeOk.calls a0_0 a0_1 a0_2 true _ A2.out).mono ?_); rintro e w7 ⟨rfl, hb⟩; refine ⟨_, rfl, ?_⟩; have n0_ := Aside0.mk (blk_below (g := gb101) (o := .cells #[.int .i64 a0_0, .int .i64 a0_1, .int .i64 a0_2] 27 (0, 0)) (by (with_reducible repeat first | refine cA_ ?_ _ | refine cB_ ?_ | refine cC_ ?_ _); exact BK101.1) hb); have n1_ := Aside0.mk (below_step (by repeat first | exact HB.1 | apply bA_ | apply bB_ | apply bC_ | refine below_set ?_ GE101.out) hb); clear BK101; clear HB; have BK101 := n0_; have HB := n1_; clear n0_ n1_; (try clear hb); (try clear hb2); (try clear hk); (try clear hi); obtain ⟨hcz8_0, hcz8_1, hcz8_2⟩ := kk3_ BK101.1; have hfz8_0 := blk_frozen BK101.out 0; have hfz8_1 := blk_frozen BK101.out 1; have hfz8_2 := blk_frozen BK101.out 2) | (go_at_call 96; (with_reducible refine (impl_DeadEnds.calls k a0_0 a0_1 a0_2 t103 _ A4.out).mono ?_); rintro e w9 ⟨v104, rfl, ho0, hb⟩; have n0_ := Aside0.mk (Kd.R_lower ho0 (below_size (by repeat first | exact HB.1 | apply bA_ | apply bB_ | apply bC_ | refine below_set ?_ GE101.out))); have n1_ := Aside0.mk (blk_below (g := gb101) (o := .cells #[.int .i64 a0_0, .int .i64 a0_1, .int .i64 a0_2] 27 (0, 0)) (by (with_reducible repeat first | refine cA_ ?_ _ | refine cB_ ?_ | refine cC_ ?_ _); exact BK101.1) hb); have n2_ := Aside0.mk (below_step (by repeat first | exact HB.1 | apply bA_ | apply bB_ | apply bC_ | refine below_set ?_ GE101.out) hb); clear BK101; clear HB; have HO105 := n0_; have BK101 := n1_; have HB := n2_; clear n0_ n1_ n2_; (try clear hb); (try clear hb2); (try clear hk); (try clear hi); (try clear ho0); obtain ⟨Ao10, co10, eo10⟩ := Kd.R_slice HO105.out; subst eo10))
    go_ret
    exact ⟨by first | rfl | (simp [errW_none, errW_some] <;> rfl) | (simp [*, errW_none, errW_some] <;> rfl), by repeat (first | (with_reducible first | exact HB.out | apply below_alloc | apply pw_below_drewN | apply below_drew1 | refine below_set ?_ GE101.out) | exact HB.out)⟩
  · replace c3 := Bool.eq_false_iff.mpr c3
    subst c3
    have H1 : (some false) = some r := by rw [if_neg (show ¬ (false = true) by decide)] at H; exact H
    clear H
    have H := H1
    clear H1
    obtain rfl := Option.some.inj H
    go_enter Try.func36, Try.ntmps36
    go_wp2_with (first | ((with_reducible refine gate_dst (N := 1) rfl ?_); (try (refine gate_guard (by rfl) ?_; dsimp only)); refine box_event ?hg (N := 1) ?hd (cs := #[.int .i64 a0_0, .int .i64 a0_1, .int .i64 a0_2]) (t := 27) ?hr ?_; (case hd => rfl); (case hg => rfl); (case hr => first | (go_simp; done) | (go_simp; rfl)); intro gb101 hg w11 hbox hb; have n0_ := Aside0.mk (below_step (by repeat first | exact HB.1 | apply bA_ | apply bB_ | apply bC_) hb); have n1_ := Aside0.mk (hbox); have n2_ := Aside0.mk ((by rw [hg]; exact (below_size (by repeat first | exact HB.1 | apply bA_ | apply bB_ | apply bC_)) : w.heap.size ≤ gb101)); have n3_ := n2_; clear HB; have HB := n0_; have BK101 := n1_; have GW101 := n2_; have GE101 := n3_; clear n0_ n1_ n2_ n3_; clear hb hbox hg; obtain ⟨hcz12_0, hcz12_1, hcz12_2⟩ := kk3_ BK101.1; have hfz12_0 := blk_frozen BK101.out 0; have hfz12_1 := blk_frozen BK101.out 1; have hfz12_2 := blk_frozen BK101.out 2) | ((with_reducible refine gate_callee (f := 69) rfl ?_); refine goesL_ (some 4) rfl rfl Try.func69 (by kernel_rfl) rfl #[.agg #[.int .i64 a0_0, .int .i64 a0_1, .int .i64 a0_2]] rfl (by (try simp only [M3_]); first | done | rfl | (simp only [List.length_drop, List.length_take]; rfl)) ?_; (with_reducible refine (impl_MazeOk.calls a0_0 a0_1 a0_2 false _ A2.out).mono ?_); rintro e w13 ⟨rfl, hb⟩; refine ⟨_, rfl, ?_⟩; have n0_ := Aside0.mk (blk_below (g := gb101) (o := .cells #[.int .i64 a0_0, .int .i64 a0_1, .int .i64 a0_2] 27 (0, 0)) (by (with_reducible repeat first | refine cA_ ?_ _ | refine cB_ ?_ | refine cC_ ?_ _); exact BK101.1) hb); have n1_ := Aside0.mk (below_step (by repeat first | exact HB.1 | apply bA_ | apply bB_ | apply bC_ | refine below_set ?_ GE101.out) hb); clear BK101; clear HB; have BK101 := n0_; have HB := n1_; clear n0_ n1_; (try clear hb); (try clear hb2); (try clear hk); (try clear hi)))
    go_ret
    exact ⟨by first | rfl | (simp [errW_none, errW_some] <;> rfl) | (simp [*, errW_none, errW_some] <;> rfl), by repeat (first | (with_reducible first | exact HB.out | apply below_alloc | apply pw_below_drewN | apply below_drew1 | refine below_set ?_ GE101.out) | exact HB.out)⟩

/-! ### laws_FnExactIsBraid: function 6 -/
def laws_FnExactIsBraid.f (k : Nat) (a0_0 : Int) (a0_1 : Int) (a0_2 : Int) : Option (Bool) := (laws_toMaze.f a0_0 a0_1 a0_2).bind fun bt102 => ((spec_IsBraid.f k bt102.1 bt102.2.1 bt102.2.2).bind fun t105 => ((laws_toMaze.f a0_0 a0_1 a0_2).bind fun bt106 => ((impl_IsBraid.f k bt106.1 bt106.2.1 bt106.2.2).bind fun t109 => (if (t109 != t105) = true then (some false) else (some true)))))
set_option maxHeartbeats 8000000 in
set_option maxRecDepth 100000 in
theorem laws_FnExactIsBraid.calls (k : Nat) (a0_0 : Int) (a0_1 : Int) (a0_2 : Int) (r : Bool) (w : World) (h : laws_FnExactIsBraid.f k a0_0 a0_1 a0_2 = some r) :
    Calls Try.prog 6 #[.agg #[.int .i64 a0_0, .int .i64 a0_1, .int .i64 a0_2]] w fun e w' => e = .returned (.bool r) ∧ Below w.heap.size w w' := by
  have hu46 := Try.underlying46
  have HB := Aside0.mk (Below.refl w.heap.size w)
  have H : ((laws_toMaze.f a0_0 a0_1 a0_2).bind fun bt102 => ((spec_IsBraid.f k bt102.1 bt102.2.1 bt102.2.2).bind fun t105 => ((laws_toMaze.f a0_0 a0_1 a0_2).bind fun bt106 => ((impl_IsBraid.f k bt106.1 bt106.2.1 bt106.2.2).bind fun t109 => (if (t109 != t105) = true then (some false) else (some true)))))) = some r := h
  clear h
  obtain ⟨⟨t102, t103, t104⟩, A20, H⟩ := Option.bind_eq_some_iff.mp H
  (try dsimp only at H); have A2 := Aside0.mk A20; clear A20
  obtain ⟨t105, A30, H⟩ := Option.bind_eq_some_iff.mp H
  (try dsimp only at H); have A3 := Aside0.mk A30; clear A30
  obtain ⟨⟨t106, t107, t108⟩, A40, H⟩ := Option.bind_eq_some_iff.mp H
  (try dsimp only at H); have A4 := Aside0.mk A40; clear A40
  obtain ⟨t109, A50, H⟩ := Option.bind_eq_some_iff.mp H
  (try dsimp only at H); have A5 := Aside0.mk A50; clear A50
  by_cases c6 : (t109 != t105) = true
  · rw [if_pos c6] at H
    have c6b0 : (t109 != t105) = true := c6
    (try (have c6b1 : decide (t109 = t105) = false := by simpa using c6))
    (try (have c6b2 : (t109 == t105) = false := by simpa using c6))
    (try (have c6b3 : ¬ (t109 = t105) := by simpa using c6))
    clear c6
    obtain rfl := Option.some.inj H
    go_enter Try.func6, Try.ntmps6
    go_wp2_with (first | ((with_reducible refine gate_dst (N := 1) rfl ?_); refine box_event ?hg (N := 1) ?hd (cs := #[.int .i64 a0_0, .int .i64 a0_1, .int .i64 a0_2]) (t := 46) ?hr ?_; (case hd => rfl); (case hg => rfl); (case hr => first | (go_simp; done) | (go_simp; rfl)); intro gb101 hg w7 hbox hb; have n0_ := Aside0.mk (below_step (by repeat first | exact HB.1 | apply bA_ | apply bB_ | apply bC_) hb); have n1_ := Aside0.mk (hbox); have n2_ := Aside0.mk ((by rw [hg]; exact (below_size (by repeat first | exact HB.1 | apply bA_ | apply bB_ | apply bC_)) : w.heap.size ≤ gb101)); have n3_ := n2_; clear HB; have HB := n0_; have BK101 := n1_; have GW101 := n2_; have GE101 := n3_; clear n0_ n1_ n2_ n3_; clear hb hbox hg; obtain ⟨hcz8_0, hcz8_1, hcz8_2⟩ := kk3_ BK101.1; have hfz8_0 := blk_frozen BK101.out 0; have hfz8_1 := blk_frozen BK101.out 1; have hfz8_2 := blk_frozen BK101.out 2) | ((with_reducible refine gate_callee (f := 35) rfl ?_); refine goesL_ (some 6) rfl rfl Try.func35 (by kernel_rfl) rfl #[.agg #[.int .i64 a0_0, .int .i64 a0_1, .int .i64 a0_2]] rfl (by (try simp only [M3_]); first | done | rfl | (simp only [List.length_drop, List.length_take]; rfl)) ?_; (with_reducible refine (laws_toMaze.calls a0_0 a0_1 a0_2 t102 t103 t104 _ A2.out).mono ?_); rintro e w9 ⟨rfl, hb⟩; (try clear A2); refine ⟨_, rfl, ?_⟩; have n0_ := Aside0.mk (blk_below (g := gb101) (o := .cells #[.int .i64 a0_0, .int .i64 a0_1, .int .i64 a0_2] 46 (0, 0)) (by (with_reducible repeat first | refine cA_ ?_ _ | refine cB_ ?_ | refine cC_ ?_ _); exact BK101.1) hb); have n1_ := Aside0.mk (below_step (by repeat first | exact HB.1 | apply bA_ | apply bB_ | apply bC_ | refine below_set ?_ GE101.out) hb); clear BK101; clear HB; have BK101 := n0_; have HB := n1_; clear n0_ n1_; (try clear hb); (try clear hb2); (try clear hk); (try clear hi)) | ((with_reducible refine gate_callee (f := 34) rfl ?_); refine goesL_ (some 7) rfl rfl Try.func34 (by kernel_rfl) rfl #[.agg #[.int .i64 t102, .int .i64 t103, .int .i64 t104]] rfl (by (try simp only [M3_]); first | done | rfl | (simp only [List.length_drop, List.length_take]; rfl)) ?_; (with_reducible refine (spec_IsBraid.calls k t102 t103 t104 t105 _ A3.out).mono ?_); rintro e w10 ⟨rfl, hb⟩; (try clear A3); refine ⟨_, rfl, ?_⟩; have n0_ := Aside0.mk (blk_below (g := gb101) (o := .cells #[.int .i64 a0_0, .int .i64 a0_1, .int .i64 a0_2] 46 (0, 0)) (by (with_reducible repeat first | refine cA_ ?_ _ | refine cB_ ?_ | refine cC_ ?_ _); exact BK101.1) hb); have n1_ := Aside0.mk (below_step (by repeat first | exact HB.1 | apply bA_ | apply bB_ | apply bC_ | refine below_set ?_ GE101.out) hb); clear BK101; clear HB; have BK101 := n0_; have HB := n1_; clear n0_ n1_; (try clear hb); (try clear hb2); (try clear hk); (try clear hi); obtain ⟨hcz11_0, hcz11_1, hcz11_2⟩ := kk3_ BK101.1; have hfz11_0 := blk_frozen BK101.out 0; have hfz11_1 := blk_frozen BK101.out 1; have hfz11_2 := blk_frozen BK101.out 2) | ((with_reducible refine gate_callee (f := 35) rfl ?_); refine goesL_ (some 9) rfl rfl Try.func35 (by kernel_rfl) rfl #[.agg #[.int .i64 a0_0, .int .i64 a0_1, .int .i64 a0_2]] rfl (by (try simp only [M3_]); first | done | rfl | (simp only [List.length_drop, List.length_take]; rfl)) ?_; (with_reducible refine (laws_toMaze.calls a0_0 a0_1 a0_2 t106 t107 t108 _ A4.out).mono ?_); rintro e w12 ⟨rfl, hb⟩; (try clear A4); refine ⟨_, rfl, ?_⟩; have n0_ := Aside0.mk (blk_below (g := gb101) (o := .cells #[.int .i64 a0_0, .int .i64 a0_1, .int .i64 a0_2] 46 (0, 0)) (by (with_reducible repeat first | refine cA_ ?_ _ | refine cB_ ?_ | refine cC_ ?_ _); exact BK101.1) hb); have n1_ := Aside0.mk (below_step (by repeat first | exact HB.1 | apply bA_ | apply bB_ | apply bC_ | refine below_set ?_ GE101.out) hb); clear BK101; clear HB; have BK101 := n0_; have HB := n1_; clear n0_ n1_; (try clear hb); (try clear hb2); (try clear hk); (try clear hi)) | ((with_reducible refine gate_callee (f := 36) rfl ?_); refine goesL_ (some 10) rfl rfl Try.func36 (by kernel_rfl) rfl #[.agg #[.int .i64 t106, .int .i64 t107, .int .i64 t108]] rfl (by (try simp only [M3_]); first | done | rfl | (simp only [List.length_drop, List.length_take]; rfl)) ?_; (with_reducible refine (impl_IsBraid.calls k t106 t107 t108 t109 _ A5.out).mono ?_); rintro e w13 ⟨rfl, hb⟩; (try clear A5); refine ⟨_, rfl, ?_⟩; have n0_ := Aside0.mk (blk_below (g := gb101) (o := .cells #[.int .i64 a0_0, .int .i64 a0_1, .int .i64 a0_2] 46 (0, 0)) (by (with_reducible repeat first | refine cA_ ?_ _ | refine cB_ ?_ | refine cC_ ?_ _); exact BK101.1) hb); have n1_ := Aside0.mk (below_step (by repeat first | exact HB.1 | apply bA_ | apply bB_ | apply bC_ | refine below_set ?_ GE101.out) hb); clear BK101; clear HB; have BK101 := n0_; have HB := n1_; clear n0_ n1_; (try clear hb); (try clear hb2); (try clear hk); (try clear hi)))
    go_ret
    exact ⟨by first | rfl | (simp [errW_none, errW_some] <;> rfl) | (simp [*, errW_none, errW_some] <;> rfl), by repeat (first | (with_reducible first | exact HB.out | apply below_alloc | apply pw_below_drewN | apply below_drew1 | refine below_set ?_ GE101.out) | exact HB.out)⟩
  · rw [if_neg c6] at H
    have c6b0 : (t109 != t105) = false := by simpa using c6
    (try (have c6b1 : decide (t109 = t105) = true := by simpa using c6))
    (try (have c6b2 : (t109 == t105) = true := by simpa using c6))
    clear c6
    obtain rfl := Option.some.inj H
    go_enter Try.func6, Try.ntmps6
    go_wp2_with (first | ((with_reducible refine gate_dst (N := 1) rfl ?_); refine box_event ?hg (N := 1) ?hd (cs := #[.int .i64 a0_0, .int .i64 a0_1, .int .i64 a0_2]) (t := 46) ?hr ?_; (case hd => rfl); (case hg => rfl); (case hr => first | (go_simp; done) | (go_simp; rfl)); intro gb101 hg w14 hbox hb; have n0_ := Aside0.mk (below_step (by repeat first | exact HB.1 | apply bA_ | apply bB_ | apply bC_) hb); have n1_ := Aside0.mk (hbox); have n2_ := Aside0.mk ((by rw [hg]; exact (below_size (by repeat first | exact HB.1 | apply bA_ | apply bB_ | apply bC_)) : w.heap.size ≤ gb101)); have n3_ := n2_; clear HB; have HB := n0_; have BK101 := n1_; have GW101 := n2_; have GE101 := n3_; clear n0_ n1_ n2_ n3_; clear hb hbox hg; obtain ⟨hcz15_0, hcz15_1, hcz15_2⟩ := kk3_ BK101.1; have hfz15_0 := blk_frozen BK101.out 0; have hfz15_1 := blk_frozen BK101.out 1; have hfz15_2 := blk_frozen BK101.out 2) | ((with_reducible refine gate_callee (f := 35) rfl ?_); refine goesL_ (some 6) rfl rfl Try.func35 (by kernel_rfl) rfl #[.agg #[.int .i64 a0_0, .int .i64 a0_1, .int .i64 a0_2]] rfl (by (try simp only [M3_]); first | done | rfl | (simp only [List.length_drop, List.length_take]; rfl)) ?_; (with_reducible refine (laws_toMaze.calls a0_0 a0_1 a0_2 t102 t103 t104 _ A2.out).mono ?_); rintro e w16 ⟨rfl, hb⟩; (try clear A2); refine ⟨_, rfl, ?_⟩; have n0_ := Aside0.mk (blk_below (g := gb101) (o := .cells #[.int .i64 a0_0, .int .i64 a0_1, .int .i64 a0_2] 46 (0, 0)) (by (with_reducible repeat first | refine cA_ ?_ _ | refine cB_ ?_ | refine cC_ ?_ _); exact BK101.1) hb); have n1_ := Aside0.mk (below_step (by repeat first | exact HB.1 | apply bA_ | apply bB_ | apply bC_ | refine below_set ?_ GE101.out) hb); clear BK101; clear HB; have BK101 := n0_; have HB := n1_; clear n0_ n1_; (try clear hb); (try clear hb2); (try clear hk); (try clear hi)) | ((with_reducible refine gate_callee (f := 34) rfl ?_); refine goesL_ (some 7) rfl rfl Try.func34 (by kernel_rfl) rfl #[.agg #[.int .i64 t102, .int .i64 t103, .int .i64 t104]] rfl (by (try simp only [M3_]); first | done | rfl | (simp only [List.length_drop, List.length_take]; rfl)) ?_; (with_reducible refine (spec_IsBraid.calls k t102 t103 t104 t105 _ A3.out).mono ?_); rintro e w17 ⟨rfl, hb⟩; (try clear A3); refine ⟨_, rfl, ?_⟩; have n0_ := Aside0.mk (blk_below (g := gb101) (o := .cells #[.int .i64 a0_0, .int .i64 a0_1, .int .i64 a0_2] 46 (0, 0)) (by (with_reducible repeat first | refine cA_ ?_ _ | refine cB_ ?_ | refine cC_ ?_ _); exact BK101.1) hb); have n1_ := Aside0.mk (below_step (by repeat first | exact HB.1 | apply bA_ | apply bB_ | apply bC_ | refine below_set ?_ GE101.out) hb); clear BK101; clear HB; have BK101 := n0_; have HB := n1_; clear n0_ n1_; (try clear hb); (try clear hb2); (try clear hk); (try clear hi); obtain ⟨hcz18_0, hcz18_1, hcz18_2⟩ := kk3_ BK101.1; have hfz18_0 := blk_frozen BK101.out 0; have hfz18_1 := blk_frozen BK101.out 1; have hfz18_2 := blk_frozen BK101.out 2) | ((with_reducible refine gate_callee (f := 35) rfl ?_); refine goesL_ (some 9) rfl rfl Try.func35 (by kernel_rfl) rfl #[.agg #[.int .i64 a0_0, .int .i64 a0_1, .int .i64 a0_2]] rfl (by (try simp only [M3_]); first | done | rfl | (simp only [List.length_drop, List.length_take]; rfl)) ?_; (with_reducible refine (laws_toMaze.calls a0_0 a0_1 a0_2 t106 t107 t108 _ A4.out).mono ?_); rintro e w19 ⟨rfl, hb⟩; (try clear A4); refine ⟨_, rfl, ?_⟩; have n0_ := Aside0.mk (blk_below (g := gb101) (o := .cells #[.int .i64 a0_0, .int .i64 a0_1, .int .i64 a0_2] 46 (0, 0)) (by (with_reducible repeat first | refine cA_ ?_ _ | refine cB_ ?_ | refine cC_ ?_ _); exact BK101.1) hb); have n1_ := Aside0.mk (below_step (by repeat first | exact HB.1 | apply bA_ | apply bB_ | apply bC_ | refine below_set ?_ GE101.out) hb); clear BK101; clear HB; have BK101 := n0_; have HB := n1_; clear n0_ n1_; (try clear hb); (try clear hb2); (try clear hk); (try clear hi)) | ((with_reducible refine gate_callee (f := 36) rfl ?_); refine goesL_ (some 10) rfl rfl Try.func36 (by kernel_rfl) rfl #[.agg #[.int .i64 t106, .int .i64 t107, .int .i64 t108]] rfl (by (try simp only [M3_]); first | done | rfl | (simp only [List.length_drop, List.length_take]; rfl)) ?_; (with_reducible refine (impl_IsBraid.calls k t106 t107 t108 t109 _ A5.out).mono ?_); rintro e w20 ⟨rfl, hb⟩; (try clear A5); refine ⟨_, rfl, ?_⟩; have n0_ := Aside0.mk (blk_below (g := gb101) (o := .cells #[.int .i64 a0_0, .int .i64 a0_1, .int .i64 a0_2] 46 (0, 0)) (by (with_reducible repeat first | refine cA_ ?_ _ | refine cB_ ?_ | refine cC_ ?_ _); exact BK101.1) hb); have n1_ := Aside0.mk (below_step (by repeat first | exact HB.1 | apply bA_ | apply bB_ | apply bC_ | refine below_set ?_ GE101.out) hb); clear BK101; clear HB; have BK101 := n0_; have HB := n1_; clear n0_ n1_; (try clear hb); (try clear hb2); (try clear hk); (try clear hi)))
    go_ret
    exact ⟨by first | rfl | (simp [errW_none, errW_some] <;> rfl) | (simp [*, errW_none, errW_some] <;> rfl), by repeat (first | (with_reducible first | exact HB.out | apply below_alloc | apply pw_below_drewN | apply below_drew1 | refine below_set ?_ GE101.out) | exact HB.out)⟩

end Go.Proofs.Ytbeajmcjfhbcjaa.P
namespace Go.Proofs.Ytbeajmcjfhbcjaa.Sup
open Go.ChangeShapes Go.WideShapes Go.ChangeAt Go.RowKit Go.Joins Go.Proofs.YtbeajmcjfhbcjaaW.PrintWords
set_option linter.unusedVariables false
set_option linter.unusedSimpArgs false

/-- The range of an int. -/
def InR (a : Int) : Prop := -9223372036854775808 ≤ a ∧ a ≤ 9223372036854775807
theorem inR_of_wf {a : Int} (h : (Lit.int .i64 a).wf = true) : InR a := by
  simp only [Lit.wf, IntKind.min, IntKind.max, IntKind.signed, IntKind.bits, Bool.and_eq_true, decide_eq_true_eq, if_true] at h
  unfold InR
  omega
section
variable {H : Type} {enc : TypeId × Value → H} {P : Program} {w : World} {base : Nat} {spare : Nat → Bool} {held : Bool}

theorem open3 {r : Reach} {b0 : Nat} {t : TypeId} {f0 f1 g0 g1 : Field} {v : Value} {d : DataW H} {p : List MemPlace} (hs : P.underlying t = some (.struct #[f0, f1])) (hs0 : P.underlying f0.type = some (.struct #[g0, g1]))
    (hg0 : P.underlying g0.type = some (.int .i64)) (hg1 : P.underlying g1.type = some (.int .i64)) (h1 : P.underlying f1.type = some (.int .i64))
    (o0 : f0.offset = 0) (o1 : f1.offset = 2) (p0 : g0.offset = 0) (p1 : g1.offset = 1) (c0 : P.cellsOf f0.type = 2) (c1 : P.cellsOf f1.type = 1) (e0 : P.cellsOf g0.type = 1) (e1 : P.cellsOf g1.type = 1) (hC : P.cellsOf t = 3)
    (hv : Value.okWide P w r b0 t v) (h : DataW.Trod enc P w base spare held t v d p) :
    ∃ a b c : Int, v = .agg #[.int .i64 a, .int .i64 b, .int .i64 c] ∧ InR a ∧ InR b ∧ InR c := by
  obtain ⟨cs, rfl, hsz⟩ := okWide_struct hs hv
  obtain ⟨x0, x1, x2, rfl⟩ := array3 (hsz.trans hC)
  obtain ⟨fuel, hf⟩ := h
  obtain ⟨y0, y1, n, hx, _, k0, k1⟩ := trod_struct2 hs hf
  simp only [Value.cells, o0, o1, c0, c1, List.drop_zero, List.take_succ_cons, List.take_zero, List.drop_succ_cons] at k0 k1
  obtain ⟨z0, z1, n', hx', _, j0, j1⟩ := trod_struct2 hs0 k0
  simp only [p0, p1, e0, e1, List.drop_zero, List.take_succ_cons, List.take_zero, List.drop_succ_cons] at j0 j1
  obtain ⟨a, q0, _, w0⟩ := DataW.trod_int hg0 j0
  obtain ⟨b, q1, _, w1⟩ := DataW.trod_int hg1 j1
  obtain ⟨c, q2, _, w2⟩ := DataW.trod_int h1 k1
  simp at q0 q1 q2
  subst q0 q1 q2
  exact ⟨a, b, c, rfl, inR_of_wf w0, inR_of_wf w1, inR_of_wf w2⟩
end

end Go.Proofs.Ytbeajmcjfhbcjaa.Sup
namespace Go.Proofs.Ytbeajmcjfhbcjaa.P
open Go.RowKit Go.Proofs.YtbeajmcjfhbcjaaW.PrintWords
set_option linter.unusedVariables false
set_option linter.unusedSimpArgs false
section
variable {α β : Type}
theorem Ev.tt {c : Prop} [Decidable c] {g f : Nat → Option α} {r : α} (h : c) (e : Ev g r) : Ev (fun k => if c then g k else f k) r := by simpa only [if_pos h] using e
theorem Ev.ff {c : Prop} [Decidable c] {g f : Nat → Option α} {r : α} (h : ¬ c) (e : Ev f r) : Ev (fun k => if c then g k else f k) r := by simpa only [if_neg h] using e
theorem Ev.ite {c : Prop} [Decidable c] {g f : Nat → Option α} {r : α} (e1 : c → Ev g r) (e2 : ¬ c → Ev f r) : Ev (fun k => if c then g k else f k) r := by
  by_cases h : c
  · exact Ev.tt h (e1 h)
  · exact Ev.ff h (e2 h)
theorem Ev.bnd0 {o : Option α} {f : Nat → α → Option β} {a : α} {r : β} (h : o = some a) (k : Ev (fun n => f n a) r) : Ev (fun n => o.bind (f n)) r := by subst h; exact k
theorem Ev.ret {a r : α} (h : a = r) : Ev (fun _ => some a) r := ⟨0, fun _ _ => by rw [h]⟩
end
theorem wrap64_id {x : Int} (h0 : -9223372036854775808 ≤ x) (h1 : x ≤ 9223372036854775807) : wrap64 x = x := by unfold wrap64; omega
theorem wsucc {i : Nat} (h : i < 4611686018427387904) : wrap64 ((i : Int) + 1) = ((i + 1 : Nat) : Int) := by unfold wrap64; omega
end Go.Proofs.Ytbeajmcjfhbcjaa.P
namespace Go.Proofs.Ytbeajmcjfhbcjaa.P
open Go.RowKit Go.Proofs.YtbeajmcjfhbcjaaW.PrintWords
set_option linter.unusedVariables false
set_option linter.unusedSimpArgs false

theorem l01In_eq (a b c : Int) : spec_l01In.f a b c = some (decide (b ≤ a ∧ a ≤ c)) := by
  unfold spec_l01In.f
  by_cases h : a ≥ b
  · rw [if_pos h]; congr 1; simp; omega
  · rw [if_neg h]; congr 1; simp; omega

end Go.Proofs.Ytbeajmcjfhbcjaa.P
namespace Go.Proofs.Ytbeajmcjfhbcjaa.P
open Go Go.RowKit Go.Proofs.YtbeajmcjfhbcjaaW.PrintWords
set_option linter.unusedVariables false
set_option linter.unusedSimpArgs false

theorem bits_and {a b : Nat} (ha : a < 4611686018427387904) (hb : b < 4611686018427387904) : Go.bits .and .i64 a b = ((a &&& b : Nat) : Int) :=
  (bits_nat .i64 62 (by decide) (fun n h0 h1 => by rw [IntKind.wrap_i64]; omega) a b (by simpa using ha) (by simpa using hb)).1
theorem shr_nat {m : Nat} (hm : m < 4611686018427387904) (k : Nat) : shr .i64 (m : Int) (k : Int) = ((m / 2 ^ k : Nat) : Int) := by
  unfold shr
  by_cases h : k ≤ 64
  · rw [show min (k : Int).toNat IntKind.i64.bits = k by simp [IntKind.bits]; omega]
    simp
  · rw [show min (k : Int).toNat IntKind.i64.bits = 64 by simp [IntKind.bits]; omega]
    have h1 : m / 2 ^ k = 0 := Nat.div_eq_of_lt (Nat.lt_of_lt_of_le (by simpa using hm : m < 2 ^ 62) (Nat.pow_le_pow_right (by decide) (by omega)))
    rw [h1]
    have : (m : Int) / 2 ^ 64 = ((m / 2 ^ 64 : Nat) : Int) := by simp
    rw [this, Nat.div_eq_of_lt (by omega)]
/-- The test of a bit, as the program and the reference make it. -/
theorem bit_test {m : Nat} (hm : m < 4611686018427387904) (k : Nat) (c : Int) : (Go.bits .and .i64 (shr .i64 (m : Int) (k : Int)) 1 == c) = (((m.testBit k).toNat : Int) == c) := by
  rw [shr_nat hm, show (1 : Int) = ((1 : Nat) : Int) from rfl, bits_and (Nat.lt_of_le_of_lt (Nat.div_le_self _ _) hm) (by decide)]
  congr 2
  rw [Nat.testBit_eq_decide_div_mod_eq, Nat.and_one_is_mod]
  have := Nat.mod_two_eq_zero_or_one (m / 2 ^ k)
  rcases this with h | h <;> simp [h]
theorem bit_one {m : Nat} (hm : m < 4611686018427387904) (k : Nat) : (Go.bits .and .i64 (shr .i64 (m : Int) (k : Int)) 1 == 1) = m.testBit k := by
  rw [bit_test hm]
  cases m.testBit k <;> rfl
end Go.Proofs.Ytbeajmcjfhbcjaa.P
namespace Go.Proofs.Ytbeajmcjfhbcjaa.P
open Go.RowKit Go.Proofs.YtbeajmcjfhbcjaaW.PrintWords
set_option linter.unusedVariables false
set_option linter.unusedSimpArgs false

/-- A valid grid. -/
def gridOk (w h : Int) : Bool := decide (1 ≤ w ∧ w ≤ 4 ∧ 1 ≤ h ∧ h ≤ 4)
theorem gridOk_iff {w h : Int} : gridOk w h = true ↔ 1 ≤ w ∧ w ≤ 4 ∧ 1 ≤ h ∧ h ≤ 4 := by simp [gridOk]
/-- The sixteen grids. -/
theorem grid_cases {w h : Int} (hg : gridOk w h = true) : (w = 1 ∨ w = 2 ∨ w = 3 ∨ w = 4) ∧ (h = 1 ∨ h = 2 ∨ h = 3 ∨ h = 4) := by
  rw [gridOk_iff] at hg
  omega
def cellsOf (w h : Int) : Int := if gridOk w h then w * h else 0
def eastOf (w h : Int) : Int := (w - 1) * h
def gapsOf (w h : Int) : Int := if gridOk w h then (w - 1) * h + w * (h - 1) else 0
theorem cellsOf_range (w h : Int) : 0 ≤ cellsOf w h ∧ cellsOf w h ≤ 16 := by
  unfold cellsOf
  split
  · rename_i hg
    obtain ⟨h1 | h1 | h1 | h1, h2 | h2 | h2 | h2⟩ := grid_cases hg <;> subst h1 <;> subst h2 <;> decide
  · omega
theorem gapsOf_range (w h : Int) : 0 ≤ gapsOf w h ∧ gapsOf w h ≤ 24 := by
  unfold gapsOf
  split
  · rename_i hg
    obtain ⟨h1 | h1 | h1 | h1, h2 | h2 | h2 | h2⟩ := grid_cases hg <;> subst h1 <;> subst h2 <;> decide
  · omega
theorem pow_le {n : Int} (h0 : 0 ≤ n) (h1 : n ≤ 24) : (1 : Int) ≤ 2 ^ n.toNat ∧ (2 : Int) ^ n.toNat ≤ 16777216 := by
  obtain ⟨m, rfl⟩ := Int.eq_ofNat_of_zero_le h0
  have : m ≤ 24 := by omega
  clear h0 h1
  revert m
  decide +kernel
def isCellI (w h c : Int) : Bool := decide (0 ≤ c ∧ c < cellsOf w h)
/-- The neighbor of a cell in a direction. -/
def nbI (w h c d : Int) : Int :=
  if 0 ≤ c ∧ c < cellsOf w h then
    (if d = 0 ∧ 0 < c / w then c - w else if d = 1 ∧ c % w < w - 1 then c + 1 else if d = 2 ∧ c / w < h - 1 then c + w else if d = 3 ∧ 0 < c % w then c - 1 else -1)
  else -1
theorem cellsOf_valid {w h c : Int} (h1 : 0 ≤ c) (h2 : c < cellsOf w h) : gridOk w h = true ∧ cellsOf w h = w * h := by
  unfold cellsOf at *
  by_cases hg : gridOk w h = true
  · exact ⟨hg, if_pos hg⟩
  · rw [if_neg hg] at h2; omega
/-- The number of gaps, as a natural number. -/
def gapsN (w h : Int) : Nat := (gapsOf w h).toNat
theorem gapsN_le (w h : Int) : gapsN w h ≤ 24 := by have := gapsOf_range w h; unfold gapsN; omega
theorem gapsN_cast (w h : Int) : ((gapsN w h : Nat) : Int) = gapsOf w h := by have := gapsOf_range w h; unfold gapsN; omega
/-- A valid maze. -/
def mazeOk (w h o : Int) : Bool := gridOk w h && decide (0 ≤ o ∧ o < 2 ^ gapsN w h)
theorem mazeOk_iff {w h o : Int} : mazeOk w h o = true ↔ gridOk w h = true ∧ ∃ n : Nat, o = (n : Int) ∧ n < 2 ^ gapsN w h := by
  unfold mazeOk
  simp only [Bool.and_eq_true, decide_eq_true_eq]
  constructor
  · rintro ⟨h1, h2, h3⟩
    obtain ⟨n, rfl⟩ := Int.eq_ofNat_of_zero_le h2
    exact ⟨h1, n, rfl, by exact_mod_cast h3⟩
  · rintro ⟨h1, n, rfl, h3⟩
    exact ⟨h1, by omega, by exact_mod_cast h3⟩
theorem open_small {w h : Int} {n : Nat} (hn : n < 2 ^ gapsN w h) : n < 16777216 := Nat.lt_of_lt_of_le hn (Nat.pow_le_pow_right (by decide) (gapsN_le w h))
/-- Is a gap open? -/
def openI (n : Nat) (g : Int) : Bool := decide (0 ≤ g) && n.testBit g.toNat
def isGapI (w h g : Int) : Bool := decide (0 ≤ g ∧ g < gapsOf w h)
theorem open_isGap {w h g : Int} {n : Nat} (hn : n < 2 ^ gapsN w h) (ho : openI n g = true) : isGapI w h g = true := by
  unfold openI isGapI at *
  simp only [Bool.and_eq_true, decide_eq_true_eq] at *
  have : g.toNat < gapsN w h := by
    rcases Nat.lt_or_ge g.toNat (gapsN w h) with h1 | h1
    · exact h1
    · rw [Nat.testBit_lt_two_pow (Nat.lt_of_lt_of_le hn (Nat.pow_le_pow_right (by decide) h1))] at ho
      exact absurd ho.2 (by decide)
  have := gapsN_cast w h
  omega
/-- The gap between a cell and its neighbor. -/
def gapI (w h c d : Int) : Int :=
  if nbI w h c d < 0 then -1 else if d = 1 ∨ d = 3 then (min c (nbI w h c d)) / w * (w - 1) + (min c (nbI w h c d)) % w else (w - 1) * h + min c (nbI w h c d)
/-- The ends of a gap. -/
def endsI (w h g : Int) : Int × Int :=
  if 0 ≤ g ∧ g < gapsOf w h then (if g < (w - 1) * h then (g / (w - 1) * w + g % (w - 1), g / (w - 1) * w + g % (w - 1) + 1) else (g - (w - 1) * h, g - (w - 1) * h + w)) else (-1, -1)
theorem nb_dir {w h c d : Int} (hn : 0 ≤ nbI w h c d) : (d = 0 ∨ d = 1 ∨ d = 2 ∨ d = 3) ∧ 0 ≤ c ∧ c < cellsOf w h := by
  unfold nbI at hn
  by_cases hc : 0 ≤ c ∧ c < cellsOf w h
  · rw [if_pos hc] at hn
    refine ⟨?_, hc⟩
    repeat' split at hn
    all_goals omega
  · rw [if_neg hc] at hn
    omega
theorem grid_nat {w h : Int} (hg : gridOk w h = true) : ∃ W H : Nat, w = W ∧ h = H ∧ 1 ≤ W ∧ W < 5 ∧ 1 ≤ H ∧ H < 5 := by
  have := gridOk_iff.1 hg
  exact ⟨w.toNat, h.toNat, by omega, by omega, by omega, by omega, by omega, by omega⟩
/-- What is to be known of a step: the other cell, the gap, and the way back. -/
def StepFacts (w h c d : Int) : Prop :=
  nbI w h c d = -1 ∧ gapI w h c d = -1 ∨
  (0 ≤ nbI w h c d ∧ nbI w h c d < cellsOf w h ∧ nbI w h c d ≠ c ∧ 0 ≤ gapI w h c d ∧ gapI w h c d < gapsOf w h ∧
    endsI w h (gapI w h c d) = (min c (nbI w h c d), max c (nbI w h c d)) ∧ nbI w h (nbI w h c d) ((d + 2) % 4) = c ∧ gapI w h (nbI w h c d) ((d + 2) % 4) = gapI w h c d)
instance (w h c d : Int) : Decidable (StepFacts w h c d) := by unfold StepFacts; infer_instance
theorem step_facts_all : ∀ W : Nat, W < 5 → ∀ H : Nat, H < 5 → ∀ c : Nat, c < 16 → ∀ d : Nat, d < 4 → StepFacts W H c d := by decide +kernel
theorem step_facts (w h c d : Int) : StepFacts w h c d := by
  by_cases hn : 0 ≤ nbI w h c d
  · obtain ⟨hd, h0, h1⟩ := nb_dir hn
    obtain ⟨hg, hcw⟩ := cellsOf_valid h0 h1
    obtain ⟨W, H, rfl, rfl, hW1, hW2, hH1, hH2⟩ := grid_nat hg
    have hcr := cellsOf_range (W : Int) (H : Int)
    have := step_facts_all W hW2 H hH2 c.toNat (by omega) d.toNat (by omega)
    rwa [show ((c.toNat : Nat) : Int) = c by omega, show ((d.toNat : Nat) : Int) = d by omega] at this
  · have hm : nbI w h c d = -1 := by
      unfold nbI at *
      by_cases hc : 0 ≤ c ∧ c < cellsOf w h
      · rw [if_pos hc] at *
        obtain ⟨hg, hcw⟩ := cellsOf_valid hc.1 hc.2
        have hgr := gridOk_iff.1 hg
        have hyw : c / w * w + c % w = c := by rw [Int.mul_comm]; exact Int.mul_ediv_add_emod c w
        have hx0 : 0 ≤ c % w := Int.emod_nonneg _ (by omega)
        repeat' split
        · rename_i hh
          rw [if_pos hh] at hn
          have : w ≤ c := by
            have : w * 1 ≤ w * (c / w) := Int.mul_le_mul_of_nonneg_left (by omega) (by omega)
            rw [Int.mul_comm (c / w)] at hyw
            omega
          omega
        · rename_i h1 hh
          rw [if_neg h1, if_pos hh] at hn
          omega
        · rename_i h1 h2 hh
          rw [if_neg h1, if_neg h2, if_pos hh] at hn
          omega
        · rename_i h1 h2 h3 hh
          rw [if_neg h1, if_neg h2, if_neg h3, if_pos hh] at hn
          have : 1 ≤ c := by
            have : 0 ≤ c / w * w := Int.mul_nonneg (Int.ediv_nonneg hc.1 (by omega)) (by omega)
            omega
          omega
        · rfl
      · rw [if_neg hc]
    refine .inl ⟨hm, ?_⟩
    unfold gapI
    rw [if_pos (by omega)]
def EndFacts (w h g : Int) : Prop :=
  0 ≤ g ∧ g < gapsOf w h → 0 ≤ (endsI w h g).1 ∧ (endsI w h g).1 < (endsI w h g).2 ∧ (endsI w h g).2 < cellsOf w h ∧
    (nbI w h (endsI w h g).1 1 = (endsI w h g).2 ∧ gapI w h (endsI w h g).1 1 = g ∨ nbI w h (endsI w h g).1 2 = (endsI w h g).2 ∧ gapI w h (endsI w h g).1 2 = g)
instance (w h g : Int) : Decidable (EndFacts w h g) := by unfold EndFacts; infer_instance
theorem nb_lt {w h c d : Int} : nbI w h c d = -1 ∨ 0 ≤ nbI w h c d ∧ nbI w h c d < cellsOf w h := by
  rcases step_facts w h c d with h1 | h1
  · exact .inl h1.1
  · exact .inr ⟨h1.1, h1.2.1⟩
/-- The cell behind an open gap, or -1. -/
def stepI (w h : Int) (n : Nat) (c d : Int) : Int := if openI n (gapI w h c d) then nbI w h c d else -1
end Go.Proofs.Ytbeajmcjfhbcjaa.P
namespace Go.Proofs.Ytbeajmcjfhbcjaa.P
open Go.RowKit Go.Proofs.YtbeajmcjfhbcjaaW.PrintWords Go.Proofs.Ytbeajmcjfhbcjaa.Sup
set_option linter.unusedVariables false
set_option linter.unusedSimpArgs false

theorem spec_GridOk_eq (w h : Int) : spec_GridOk.f w h = some (gridOk w h) := by
  unfold spec_GridOk.f
  simp only [l01In_eq, Option.bind_some]
  unfold gridOk
  by_cases h1 : 1 ≤ w ∧ w ≤ 4
  · simp only [h1, and_self, decide_true, if_true, true_and]
  · have : ¬ (1 ≤ w ∧ w ≤ 4 ∧ 1 ≤ h ∧ h ≤ 4) := by omega
    rw [decide_eq_false h1, decide_eq_false this]; simp
theorem impl_GridOk_eq (w h : Int) : impl_GridOk.f w h = some (gridOk w h) := by
  unfold impl_GridOk.f gridOk
  repeat' split
  all_goals congr 1
  all_goals first | (rw [decide_eq_decide]; omega) | (symm; rw [decide_eq_false_iff_not]; omega)

theorem impl_CountCells_eq (w h : Int) : impl_CountCells.f w h = some (cellsOf w h) := by
  unfold impl_CountCells.f
  rw [impl_GridOk_eq, Option.bind_some]
  have := cellsOf_range w h
  unfold cellsOf at *
  by_cases hg : gridOk w h = true
  · rw [if_pos hg] at *
    rw [if_pos hg, wrap64_id (by omega) (by omega)]
  · rw [if_neg hg, if_neg hg]
theorem spec_CountCells_eq (w h : Int) : spec_CountCells.f w h = some (cellsOf w h) := by
  unfold spec_CountCells.f
  rw [spec_GridOk_eq, Option.bind_some]
  have := cellsOf_range w h
  unfold cellsOf at *
  by_cases hg : gridOk w h = true
  · rw [if_pos hg] at *
    rw [if_pos hg, wrap64_id (by omega) (by omega)]
  · rw [if_neg hg, if_neg hg]
theorem impl_CountGaps_eq (w h : Int) : impl_CountGaps.f w h = some (gapsOf w h) := by
  unfold impl_CountGaps.f
  rw [impl_GridOk_eq, Option.bind_some]
  unfold gapsOf
  by_cases hg : gridOk w h = true
  · rw [if_pos hg, if_pos hg]
    obtain ⟨h1 | h1 | h1 | h1, h2 | h2 | h2 | h2⟩ := grid_cases hg <;> subst h1 <;> subst h2 <;> simp [wrap64, eastOf]
  · rw [if_neg hg, if_neg hg]
theorem spec_l02East_eq {w h : Int} (hg : gridOk w h = true) : spec_l02East.f w h = some (eastOf w h) := by
  unfold spec_l02East.f eastOf
  obtain ⟨h1 | h1 | h1 | h1, h2 | h2 | h2 | h2⟩ := grid_cases hg <;> subst h1 <;> subst h2 <;> simp [wrap64, eastOf]
theorem spec_CountGaps_eq (w h : Int) : spec_CountGaps.f w h = some (gapsOf w h) := by
  unfold spec_CountGaps.f
  rw [spec_GridOk_eq, Option.bind_some]
  unfold gapsOf
  by_cases hg : gridOk w h = true
  · rw [if_pos hg, if_pos hg, spec_l02East_eq hg, Option.bind_some]
    obtain ⟨h1 | h1 | h1 | h1, h2 | h2 | h2 | h2⟩ := grid_cases hg <;> subst h1 <;> subst h2 <;> simp [wrap64, eastOf]
  · rw [if_neg hg, if_neg hg]

/-- 2 to the power of a small number. -/
theorem shl_one {n : Int} (h0 : 0 ≤ n) (h1 : n ≤ 24) : shl .i64 1 n = 2 ^ n.toNat := by
  obtain ⟨m, rfl⟩ := Int.eq_ofNat_of_zero_le h0
  have : m ≤ 24 := by omega
  clear h0 h1
  revert m
  decide +kernel
end Go.Proofs.Ytbeajmcjfhbcjaa.P
namespace Go.Proofs.Ytbeajmcjfhbcjaa.P
open Go.RowKit Go.Proofs.YtbeajmcjfhbcjaaW.PrintWords
set_option linter.unusedVariables false
set_option linter.unusedSimpArgs false

theorem impl_isCell_eq (w h c : Int) : impl_isCell.f w h c = some (isCellI w h c) := by
  unfold impl_isCell.f isCellI
  rw [impl_CountCells_eq]
  by_cases hc : c ≥ 0
  · rw [if_pos hc, Option.bind_some]; congr 1; rw [decide_eq_decide]; omega
  · rw [if_neg hc]; congr 1; symm; rw [decide_eq_false_iff_not]; omega
theorem impl_Neighbor_ev (w h c d : Int) : Ev (fun k => impl_Neighbor.f k w h c d) (nbI w h c d) := by
  unfold impl_Neighbor.f nbI
  refine Ev.bnd0 (impl_isCell_eq w h c) ?_
  unfold isCellI
  by_cases hc : 0 ≤ c ∧ c < cellsOf w h
  · rw [if_pos hc]
    obtain ⟨hg, hcw⟩ := cellsOf_valid hc.1 hc.2
    have hcr := cellsOf_range w h
    have hgr := gridOk_iff.1 hg
    refine Ev.tt (by simpa using hc) (Ev.ff (by omega) ?_)
    have hx0 : 0 ≤ c % w := Int.emod_nonneg _ (by omega)
    have hx1 : c % w < w := Int.emod_lt_of_pos _ (by omega)
    have hy0 : 0 ≤ c / w := Int.ediv_nonneg hc.1 (by omega)
    have hy1 : c / w ≤ c := Int.ediv_le_self _ hc.1
    rw [Int.tmod_eq_emod_of_nonneg hc.1, Int.tdiv_eq_ediv_of_nonneg hc.1, wrap64_id (x := c / w) (by omega) (by omega)]
    generalize c % w = x at *
    generalize c / w = y at *
    have j2 : ∀ b : Bool, (d ≠ 0 ∨ ¬ 0 < y) → (d ≠ 1 ∨ ¬ x < w - 1) → (b = true ↔ d = 2 ∧ y < h - 1) → Ev (fun k => impl_Neighbor.j2 k c d x b w h) (if d = 2 ∧ y < h - 1 then c + w else if d = 3 ∧ 0 < x then c - 1 else -1) := by
      intro b _ _ hb
      refine Ev.step (fun _ => impl_Neighbor.j2.eq_2 ..) ?_
      refine Ev.ite (fun e => ?_) (fun e => ?_)
      · rw [if_pos (hb.1 e), wrap64_id (by omega) (by omega)]; exact Ev.ret rfl
      · rw [if_neg (fun h => e (hb.2 h))]
        refine Ev.ite (fun e3 => Ev.ite (fun e4 => ?_) (fun e4 => ?_)) (fun e3 => ?_)
        · rw [if_pos ⟨e3, e4⟩, wrap64_id (by omega) (by omega)]; exact Ev.ret rfl
        · rw [if_neg (fun h => e4 h.2)]; exact Ev.ret rfl
        · rw [if_neg (fun h => e3 h.1)]; exact Ev.ret rfl
    have j1 : ∀ b : Bool, (d ≠ 0 ∨ ¬ 0 < y) → (b = true ↔ d = 1 ∧ x < w - 1) → Ev (fun k => impl_Neighbor.j1 k c d x y b w h) (if d = 1 ∧ x < w - 1 then c + 1 else if d = 2 ∧ y < h - 1 then c + w else if d = 3 ∧ 0 < x then c - 1 else -1) := by
      intro b h0 hb
      refine Ev.step (fun _ => impl_Neighbor.j1.eq_2 ..) ?_
      refine Ev.ite (fun e => ?_) (fun e => ?_)
      · rw [if_pos (hb.1 e), wrap64_id (by omega) (by omega)]; exact Ev.ret rfl
      · have hn : ¬ (d = 1 ∧ x < w - 1) := fun h => e (hb.2 h)
        rw [if_neg hn]
        refine Ev.ite (fun e2 => ?_) (fun e2 => ?_)
        · refine j2 _ h0 (by omega) ?_
          rw [wrap64_id (by omega) (by omega)]
          simp [e2]
        · exact j2 _ h0 (by omega) (by simp [e2])
    have j0 : ∀ b : Bool, (b = true ↔ d = 0 ∧ 0 < y) → Ev (fun k => impl_Neighbor.j0 k c d x y b w h) (if d = 0 ∧ 0 < y then c - w else if d = 1 ∧ x < w - 1 then c + 1 else if d = 2 ∧ y < h - 1 then c + w else if d = 3 ∧ 0 < x then c - 1 else -1) := by
      intro b hb
      refine Ev.step (fun _ => impl_Neighbor.j0.eq_2 ..) ?_
      refine Ev.ite (fun e => ?_) (fun e => ?_)
      · rw [if_pos (hb.1 e), wrap64_id (by omega) (by omega)]; exact Ev.ret rfl
      · have hn : ¬ (d = 0 ∧ 0 < y) := fun h => e (hb.2 h)
        rw [if_neg hn]
        refine Ev.ite (fun e2 => ?_) (fun e2 => ?_)
        · refine j1 _ (by omega) ?_
          rw [wrap64_id (by omega) (by omega)]
          simp [e2]
        · exact j1 _ (by omega) (by simp [e2])
    refine Ev.ite (fun e => ?_) (fun e => ?_)
    · exact j0 _ (by simp [e])
    · exact j0 _ (by simp [e])
  · rw [if_neg hc]
    exact Ev.ff (by simpa using hc) (Ev.ret rfl)
theorem spec_Neighbor_ev (w h c d : Int) : Ev (fun k => spec_Neighbor.f k w h c d) (nbI w h c d) := by
  unfold spec_Neighbor.f nbI
  refine Ev.bnd0 (spec_CountCells_eq w h) ?_
  have hcr := cellsOf_range w h
  rw [wrap64_id (by omega) (by omega)]
  refine Ev.bnd0 (l01In_eq ..) ?_
  by_cases hc : 0 ≤ c ∧ c < cellsOf w h
  · rw [if_pos hc]
    obtain ⟨hg, hcw⟩ := cellsOf_valid hc.1 hc.2
    have hgr := gridOk_iff.1 hg
    refine Ev.tt (by simp; omega) (Ev.ff (by omega) ?_)
    have hx0 : 0 ≤ c % w := Int.emod_nonneg _ (by omega)
    have hx1 : c % w < w := Int.emod_lt_of_pos _ (by omega)
    have hy0 : 0 ≤ c / w := Int.ediv_nonneg hc.1 (by omega)
    have hy1 : c / w ≤ c := Int.ediv_le_self _ hc.1
    have hxy : c / w * w + c % w = c := by rw [Int.mul_comm]; exact Int.mul_ediv_add_emod c w
    have hy2 : c / w < h := by
      rw [hcw] at hc
      exact Int.ediv_lt_of_lt_mul (by omega) (by rw [Int.mul_comm]; exact hc.2)
    rw [Int.tmod_eq_emod_of_nonneg hc.1, Int.tdiv_eq_ediv_of_nonneg hc.1, wrap64_id (x := c / w) (by omega) (by omega)]
    generalize c % w = x at *
    generalize c / w = y at *
    have j0 : ∀ (a b r : Int), (r = if 0 ≤ a ∧ a ≤ w - 1 ∧ 0 ≤ b ∧ b ≤ h - 1 then b * w + a else -1) → Ev (fun k => spec_Neighbor.j0 k a b w h) r := by
      intro a b r hr
      subst hr
      refine Ev.step (fun _ => spec_Neighbor.j0.eq_2 ..) ?_
      refine Ev.bnd0 (l01In_eq ..) ?_
      rw [wrap64_id (x := w - 1) (by omega) (by omega), wrap64_id (x := h - 1) (by omega) (by omega)]
      by_cases h1 : 0 ≤ a ∧ a ≤ w - 1
      · refine Ev.tt (by simpa using h1) (Ev.bnd0 (l01In_eq ..) ?_)
        by_cases h2 : 0 ≤ b ∧ b ≤ h - 1
        · refine Ev.tt (by simpa using h2) (Ev.ret ?_)
          rw [if_pos (by omega)]
          have hb4 : b * w ≤ 3 * 4 := Int.mul_le_mul (by omega) (by omega) (by omega) (by omega)
          have hb0 : 0 ≤ b * w := Int.mul_nonneg (by omega) (by omega)
          rw [wrap64_id (x := b * w) (by omega) (by omega), wrap64_id (by omega) (by omega)]
        · refine Ev.ff (by simpa using h2) (Ev.ret ?_)
          rw [if_neg (by omega)]
      · refine Ev.ff (by simpa using h1) (Ev.ret ?_)
        rw [if_neg (by omega)]
    have hm1 : (y - 1) * w + x = c - w := by rw [Int.sub_mul]; omega
    have hp1 : (y + 1) * w + x = c + w := by rw [Int.add_mul]; omega
    refine Ev.ite (fun e => ?_) (fun e => Ev.ite (fun e => ?_) (fun e => Ev.ite (fun e => ?_) (fun e => Ev.ite (fun e => ?_) (fun e => Ev.ret ?_))))
    · rw [wrap64_id (by omega) (by omega)]
      refine j0 _ _ _ ?_
      subst e
      by_cases h0 : 0 < y
      · rw [if_pos ⟨rfl, h0⟩, if_pos (by omega), hm1]
      · rw [if_neg (by omega), if_neg (by omega), if_neg (by omega), if_neg (by omega), if_neg (by omega)]
    · rw [wrap64_id (by omega) (by omega)]
      refine j0 _ _ _ ?_
      subst e
      rw [if_neg (by omega)]
      by_cases h0 : x < w - 1
      · rw [if_pos ⟨rfl, h0⟩, if_pos (by omega)]; omega
      · rw [if_neg (by omega), if_neg (by omega), if_neg (by omega), if_neg (by omega)]
    · rw [wrap64_id (by omega) (by omega)]
      refine j0 _ _ _ ?_
      subst e
      rw [if_neg (by omega), if_neg (by omega)]
      by_cases h0 : y < h - 1
      · rw [if_pos ⟨rfl, h0⟩, if_pos (by omega), hp1]
      · rw [if_neg (by omega), if_neg (by omega), if_neg (by omega)]
    · rw [wrap64_id (by omega) (by omega)]
      refine j0 _ _ _ ?_
      subst e
      rw [if_neg (by omega), if_neg (by omega), if_neg (by omega)]
      by_cases h0 : 0 < x
      · rw [if_pos ⟨rfl, h0⟩, if_pos (by omega)]; omega
      · rw [if_neg (by omega), if_neg (by omega)]
    · rw [if_neg (by omega), if_neg (by omega), if_neg (by omega), if_neg (by omega)]
  · rw [if_neg hc]
    exact Ev.ff (by simp; omega) (Ev.ret rfl)
end Go.Proofs.Ytbeajmcjfhbcjaa.P
namespace Go.Proofs.Ytbeajmcjfhbcjaa.P
open Go.RowKit Go.Proofs.YtbeajmcjfhbcjaaW.PrintWords Go.Proofs.YtbeajmcjfhbcjaaW.PrintLast Go.Proofs.YtbeajmcjfhbcjaaW.PrintMore
attribute [local go_sem] max2_int min2_int max_two min_two max_three min_three max_four min_four   -- for this text's walks alone
set_option linter.unusedVariables false
set_option linter.unusedSimpArgs false

/-! ### impl_isGap: function 135 -/
end Go.Proofs.Ytbeajmcjfhbcjaa.P
namespace Go.Proofs.Ytbeajmcjfhbcjaa.P
open Go.RowKit Go.Proofs.YtbeajmcjfhbcjaaW.PrintWords
set_option linter.unusedVariables false
set_option linter.unusedSimpArgs false

theorem spec_MazeOk_eq (w h o : Int) : spec_MazeOk.f w h o = some (mazeOk w h o) := by
  have hc := gapsOf_range w h
  have hp := pow_le hc.1 hc.2
  unfold spec_MazeOk.f mazeOk gapsN
  rw [spec_GridOk_eq, Option.bind_some]
  cases hg : gridOk w h
  · simp
  · rw [if_pos rfl, spec_CountGaps_eq, Option.bind_some, if_pos hc.1, shl_one hc.1 hc.2, l01In_eq, Option.bind_some, wrap64_id (by omega) (by omega)]
    simp only [Bool.true_and]
    congr 1
    rw [decide_eq_decide]
    omega
theorem impl_MazeOk_eq (w h o : Int) : impl_MazeOk.f w h o = some (mazeOk w h o) := by
  have hc := gapsOf_range w h
  unfold impl_MazeOk.f mazeOk gapsN
  rw [impl_GridOk_eq, Option.bind_some]
  cases hg : gridOk w h
  · simp
  · rw [if_pos rfl, impl_CountGaps_eq, Option.bind_some, if_pos hc.1, shl_one hc.1 hc.2]
    simp only [Bool.true_and]
    split
    · congr 1; rw [decide_eq_decide]; omega
    · congr 1; symm; rw [decide_eq_false_iff_not]; omega
theorem impl_isOpen_eq (w h : Int) {n : Nat} (hn : n < 16777216) (g : Int) : impl_isOpen.f w h n g = some (openI n g) := by
  unfold impl_isOpen.f openI
  by_cases hg : g ≥ 0
  · rw [if_pos hg, if_pos hg]
    obtain ⟨m, rfl⟩ := Int.eq_ofNat_of_zero_le hg
    rw [bit_one (by omega)]
    simp
  · rw [if_neg hg]
    simp; omega
theorem spec_l03Bit_eq {n : Nat} (hn : n < 16777216) {g : Int} (hg : 0 ≤ g) : spec_l03Bit.f n g = some (openI n g) := by
  unfold spec_l03Bit.f openI
  rw [if_pos hg]
  obtain ⟨m, rfl⟩ := Int.eq_ofNat_of_zero_le hg
  rw [bit_one (by omega)]
  simp
/-! Sixteen small graphs: facts that are looked through -/
theorem impl_GapAt_ev (w h c d : Int) : Ev (fun k => impl_GapAt.f k w h c d) (gapI w h c d) := by
  unfold impl_GapAt.f gapI
  refine Ev.bind (impl_Neighbor_ev w h c d) ?_
  by_cases hn : nbI w h c d < 0
  · rw [if_pos hn, if_pos hn]
    exact Ev.ret rfl
  · rw [if_neg hn, if_neg hn]
    obtain ⟨hd, h0, h1⟩ := nb_dir (by omega : 0 ≤ nbI w h c d)
    obtain ⟨hg, hcw⟩ := cellsOf_valid h0 h1
    have hcr := cellsOf_range w h
    have hgr := gridOk_iff.1 hg
    have hlt := nb_lt (w := w) (h := h) (c := c) (d := d)
    have hmn : mn c (nbI w h c d) = min c (nbI w h c d) := by unfold mn; omega
    rw [hmn]
    have hm0 : 0 ≤ min c (nbI w h c d) := by omega
    have hm1 : min c (nbI w h c d) ≤ 15 := by omega
    generalize min c (nbI w h c d) = m at *
    have ha0 : 0 ≤ m / w := Int.ediv_nonneg hm0 (by omega)
    have ha1 : m / w ≤ m := Int.ediv_le_self _ hm0
    have hb0 : 0 ≤ m % w := Int.emod_nonneg _ (by omega)
    have hb1 : m % w < w := Int.emod_lt_of_pos _ (by omega)
    have hp0 : 0 ≤ m / w * (w - 1) := Int.mul_nonneg ha0 (by omega)
    have hp1 : m / w * (w - 1) ≤ 15 * 3 := Int.mul_le_mul (by omega) (by omega) (by omega) (by omega)
    have hq0 : 0 ≤ (w - 1) * h := Int.mul_nonneg (by omega) (by omega)
    have hq1 : (w - 1) * h ≤ 3 * 4 := Int.mul_le_mul (by omega) (by omega) (by omega) (by omega)
    rw [Int.tmod_eq_emod_of_nonneg hm0, Int.tdiv_eq_ediv_of_nonneg hm0, wrap64_id (x := m / w) (by omega) (by omega), wrap64_id (x := w - 1) (by omega) (by omega), wrap64_id (x := m / w * (w - 1)) (by omega) (by omega), wrap64_id (x := m / w * (w - 1) + m % w) (by omega) (by omega)]
    refine Ev.ite (fun e => Ev.ff (by omega) ?_) (fun e => Ev.ite (fun e3 => Ev.ff (by omega) ?_) (fun e3 => ?_))
    · rw [if_pos (.inl e)]; exact Ev.ret rfl
    · rw [if_pos (.inr e3)]; exact Ev.ret rfl
    · rw [if_neg (by omega)]
      rw [wrap64_id (x := (w - 1) * h) (by omega) (by omega), wrap64_id (by omega) (by omega)]
      exact Ev.ret rfl
/-- The directions from d on in which s leads somewhere. -/
def waysFrom (s : Int → Int) (d : Nat) : List Int := ([0, 1, 2, 3].drop d).filter fun x => decide (0 ≤ s x)
theorem waysFrom_succ (s : Int → Int) {d : Nat} (hd : d < 4) : waysFrom s d = if 0 ≤ s d then (d : Int) :: waysFrom s (d + 1) else waysFrom s (d + 1) := by
  have : d = 0 ∨ d = 1 ∨ d = 2 ∨ d = 3 := by omega
  rcases this with rfl | rfl | rfl | rfl <;> simp [waysFrom, List.filter_cons]
def waysI (w h : Int) (n : Nat) (c : Int) : List Int := waysFrom (stepI w h n c) 0
theorem impl_Step_ev {w h : Int} {n : Nat} (hg : gridOk w h = true) (hn : n < 2 ^ gapsN w h) (c d : Int) : Ev (fun k => impl_Step.f k w h n c d) (stepI w h n c d) := by
  unfold impl_Step.f stepI
  refine Ev.bnd0 (impl_MazeOk_eq w h n) (Ev.tt (mazeOk_iff.2 ⟨hg, n, rfl, hn⟩) ?_)
  refine Ev.bind (impl_GapAt_ev w h c d) (Ev.bnd0 (impl_isOpen_eq w h (open_small hn) _) ?_)
  by_cases ho : openI n (gapI w h c d) = true
  · rw [if_pos ho]
    exact Ev.tt ho (Ev.bind (impl_Neighbor_ev w h c d) (Ev.ret rfl))
  · rw [if_neg ho]
    exact Ev.ff ho (Ev.ret rfl)
theorem impl_Ways_l0 (w h : Int) (o c : Int) (s : Int → Int) (hs : ∀ d, Ev (fun k => impl_Step.f k w h o c d) (s d)) : ∀ (e d : Nat) (out : List Int), 4 - d = e → d ≤ 4 → out.length ≤ d →
    Ev (fun k => impl_WaysFrom.l0 k c out d w h o) (out ++ waysFrom s d)
  | 0, d, out, he, hd, hl => by
    refine Ev.step (fun _ => impl_WaysFrom.l0.eq_2 ..) ?_
    refine Ev.ff (by omega) (Ev.ret ?_)
    obtain rfl : d = 4 := by omega
    simp [waysFrom]
  | e + 1, d, out, he, hd, hl => by
    refine Ev.step (fun _ => impl_WaysFrom.l0.eq_2 ..) ?_
    refine Ev.tt (by omega) (Ev.bind (hs d) ?_)
    rw [wsucc (by omega), waysFrom_succ s (show d < 4 by omega)]
    refine Ev.ite (fun h1 => Ev.tt (by omega) ?_) (fun h1 => ?_)
    · rw [if_pos (by omega)]
      have := impl_Ways_l0 w h o c s hs e (d + 1) (out ++ [(d : Int)]) (by omega) (by omega) (by simp; omega)
      simpa using this
    · rw [if_neg (by omega)]
      exact impl_Ways_l0 w h o c s hs e (d + 1) out (by omega) (by omega) (by omega)
theorem impl_Ways_ev {w h : Int} {n : Nat} (hg : gridOk w h = true) (hn : n < 2 ^ gapsN w h) (c : Int) : Ev (fun k => impl_WaysFrom.f k w h n c) (waysI w h n c) := by
  unfold impl_WaysFrom.f waysI
  have := impl_Ways_l0 w h n c _ (fun d => impl_Step_ev hg hn c d) 4 0 [] (by omega) (by omega) (by simp)
  simpa using this
theorem spec_GapAt_ev (w h c d : Int) : Ev (fun k => spec_GapAt.f k w h c d) (gapI w h c d) := by
  unfold spec_GapAt.f gapI
  refine Ev.bind (spec_Neighbor_ev w h c d) ?_
  by_cases hn : nbI w h c d < 0
  · rw [if_pos hn, if_pos hn]
    exact Ev.ret rfl
  · rw [if_neg hn, if_neg hn]
    obtain ⟨hd, h0, h1⟩ := nb_dir (by omega : 0 ≤ nbI w h c d)
    obtain ⟨hg, hcw⟩ := cellsOf_valid h0 h1
    have hcr := cellsOf_range w h
    have hgr := gridOk_iff.1 hg
    have hlt := nb_lt (w := w) (h := h) (c := c) (d := d)
    have hmn : mn c (nbI w h c d) = min c (nbI w h c d) := by unfold mn; omega
    rw [hmn]
    have hm0 : 0 ≤ min c (nbI w h c d) := by omega
    have hm1 : min c (nbI w h c d) ≤ 15 := by omega
    generalize min c (nbI w h c d) = m at *
    have ha0 : 0 ≤ m / w := Int.ediv_nonneg hm0 (by omega)
    have ha1 : m / w ≤ m := Int.ediv_le_self _ hm0
    have hb0 : 0 ≤ m % w := Int.emod_nonneg _ (by omega)
    have hb1 : m % w < w := Int.emod_lt_of_pos _ (by omega)
    have hp0 : 0 ≤ m / w * (w - 1) := Int.mul_nonneg ha0 (by omega)
    have hp1 : m / w * (w - 1) ≤ 15 * 3 := Int.mul_le_mul (by omega) (by omega) (by omega) (by omega)
    have hq0 : 0 ≤ (w - 1) * h := Int.mul_nonneg (by omega) (by omega)
    have hq1 : (w - 1) * h ≤ 3 * 4 := Int.mul_le_mul (by omega) (by omega) (by omega) (by omega)
    rw [Int.tmod_eq_emod_of_nonneg hm0, Int.tdiv_eq_ediv_of_nonneg hm0, wrap64_id (x := m / w) (by omega) (by omega), wrap64_id (x := w - 1) (by omega) (by omega), wrap64_id (x := m / w * (w - 1)) (by omega) (by omega), wrap64_id (x := m / w * (w - 1) + m % w) (by omega) (by omega)]
    refine Ev.ite (fun e => Ev.ff (by omega) ?_) (fun e => Ev.ite (fun e3 => Ev.ff (by omega) ?_) (fun e3 => ?_))
    · rw [if_pos (.inl e)]; exact Ev.ret rfl
    · rw [if_pos (.inr e3)]; exact Ev.ret rfl
    · rw [if_neg (by omega)]
      refine Ev.bnd0 (spec_l02East_eq hg) (Ev.ret ?_)
      unfold eastOf
      rw [wrap64_id (by omega) (by omega)]
theorem spec_IsPassage_eq {w h : Int} {n : Nat} (hg : gridOk w h = true) (hn : n < 2 ^ gapsN w h) (g : Int) : spec_IsPassage.f w h n g = some (openI n g) := by
  have hr := gapsOf_range w h
  unfold spec_IsPassage.f
  rw [spec_MazeOk_eq, Option.bind_some, if_pos (mazeOk_iff.2 ⟨hg, n, rfl, hn⟩), spec_CountGaps_eq, Option.bind_some, wrap64_id (by omega) (by omega), l01In_eq, Option.bind_some]
  by_cases hc : 0 ≤ g ∧ g < gapsOf w h
  · rw [if_pos (by simp; omega), spec_l03Bit_eq (open_small hn) hc.1]
    rfl
  · rw [if_neg (by simp; omega)]
    congr 1
    symm
    rw [Bool.eq_false_iff]
    intro ho
    have := open_isGap hn ho
    unfold isGapI at this
    simp at this
    omega
theorem spec_Step_ev {w h : Int} {n : Nat} (hg : gridOk w h = true) (hn : n < 2 ^ gapsN w h) (c d : Int) : Ev (fun k => spec_Step.f k w h n c d) (stepI w h n c d) := by
  unfold spec_Step.f stepI
  refine Ev.bnd0 (spec_MazeOk_eq w h n) (Ev.tt (mazeOk_iff.2 ⟨hg, n, rfl, hn⟩) ?_)
  refine Ev.bind (spec_GapAt_ev w h c d) (Ev.bnd0 (spec_IsPassage_eq hg hn _) ?_)
  by_cases ho : openI n (gapI w h c d) = true
  · rw [if_pos ho]
    exact Ev.tt ho (Ev.bind (spec_Neighbor_ev w h c d) (Ev.ret rfl))
  · rw [if_neg ho]
    exact Ev.ff ho (Ev.ret rfl)
theorem spec_Ways_l0 (w h : Int) (o c : Int) (s : Int → Int) (hs : ∀ d, Ev (fun k => spec_Step.f k w h o c d) (s d)) : ∀ (e d : Nat) (out : List Int), 4 - d = e → d ≤ 4 → out.length ≤ d →
    Ev (fun k => spec_WaysFrom.l0 k c out d w h o) (out ++ waysFrom s d)
  | 0, d, out, he, hd, hl => by
    refine Ev.step (fun _ => spec_WaysFrom.l0.eq_2 ..) ?_
    refine Ev.ff (by omega) (Ev.ret ?_)
    obtain rfl : d = 4 := by omega
    simp [waysFrom]
  | e + 1, d, out, he, hd, hl => by
    refine Ev.step (fun _ => spec_WaysFrom.l0.eq_2 ..) ?_
    refine Ev.tt (by omega) (Ev.bind (hs d) ?_)
    rw [wsucc (by omega), waysFrom_succ s (show d < 4 by omega)]
    refine Ev.ite (fun h1 => Ev.tt (by omega) ?_) (fun h1 => ?_)
    · rw [if_pos (by omega)]
      have := spec_Ways_l0 w h o c s hs e (d + 1) (out ++ [(d : Int)]) (by omega) (by omega) (by simp; omega)
      simpa using this
    · rw [if_neg (by omega)]
      exact spec_Ways_l0 w h o c s hs e (d + 1) out (by omega) (by omega) (by omega)
theorem spec_Ways_ev {w h : Int} {n : Nat} (hg : gridOk w h = true) (hn : n < 2 ^ gapsN w h) (c : Int) : Ev (fun k => spec_WaysFrom.f k w h n c) (waysI w h n c) := by
  unfold spec_WaysFrom.f waysI
  have := spec_Ways_l0 w h n c _ (fun d => spec_Step_ev hg hn c d) 4 0 [] (by omega) (by omega) (by simp)
  simpa using this
/-- i, i + 1, .. : d of them. -/
def run (i d : Nat) : List Int := (List.range d).map fun t => ((i + t : Nat) : Int)
theorem run_succ (i d : Nat) : run i (d + 1) = (i : Int) :: run (i + 1) d := by
  simp only [run, List.range_succ_eq_map, List.map_cons, List.map_map, Nat.add_zero]
  congr 1
  apply List.map_congr_left
  intro t _
  simp only [Function.comp, Nat.succ_eq_add_one]
  congr 1
  omega
theorem upTo_l0 (n : Nat) (hn : n ≤ 1000000) : ∀ (d i : Nat) (out : List Int), n - i = d → i ≤ n → out.length ≤ i → Ev (fun k => impl_upTo.l0 k n out i) (out ++ run i d)
  | 0, i, out, hd, hi, ho => by
    refine Ev.step (fun _ => impl_upTo.l0.eq_2 ..) (Ev.ff (by omega) (Ev.ret ?_))
    simp [run]
  | d + 1, i, out, hd, hi, ho => by
    refine Ev.step (fun _ => impl_upTo.l0.eq_2 ..) (Ev.tt (by omega) (Ev.tt (by omega) ?_))
    rw [wsucc (by omega), run_succ]
    have := upTo_l0 n hn d (i + 1) (out ++ [(i : Int)]) (by omega) (by omega) (by simp; omega)
    simpa using this
theorem impl_upTo_ev (n : Nat) (hn : n ≤ 1000000) : Ev (fun k => impl_upTo.f k n) (run 0 n) := by
  unfold impl_upTo.f
  have := upTo_l0 n hn n 0 [] (by omega) (by omega) (by simp)
  simpa using this
/-- Connected by the edges of n. -/
inductive Cn (e : Nat → Nat × Nat) (n : Nat) : Nat → Nat → Prop
  | refl (x : Nat) : Cn e n x x
  | fwd {x : Nat} (k : Nat) : n.testBit k = true → Cn e n x (e k).1 → Cn e n x (e k).2
  | bwd {x : Nat} (k : Nat) : n.testBit k = true → Cn e n x (e k).2 → Cn e n x (e k).1
theorem Cn.trans {e : Nat → Nat × Nat} {n x y z : Nat} (h : Cn e n x y) (g : Cn e n y z) : Cn e n x z := by
  induction g with
  | refl => exact h
  | fwd k hk _ ih => exact .fwd k hk ih
  | bwd k hk _ ih => exact .bwd k hk ih
theorem Cn.edge {e : Nat → Nat × Nat} {n k : Nat} (h : n.testBit k = true) : Cn e n (e k).1 (e k).2 := .fwd k h (.refl _)
theorem Cn.edge' {e : Nat → Nat × Nat} {n k : Nat} (h : n.testBit k = true) : Cn e n (e k).2 (e k).1 := .bwd k h (.refl _)
theorem Cn.symm {e : Nat → Nat × Nat} {n x y : Nat} (h : Cn e n x y) : Cn e n y x := by
  induction h with
  | refl => exact .refl _
  | fwd k hk _ ih => exact (Cn.edge' hk).trans ih
  | bwd k hk _ ih => exact (Cn.edge hk).trans ih
theorem Cn.mono {e : Nat → Nat × Nat} {n m x y : Nat} (hm : ∀ i, n.testBit i = true → m.testBit i = true) (h : Cn e n x y) : Cn e m x y := by
  induction h with
  | refl => exact .refl _
  | fwd k hk _ ih => exact .fwd k (hm k hk) ih
  | bwd k hk _ ih => exact .bwd k (hm k hk) ih
def upd (D : Nat → Int) (y : Nat) (v : Int) : Nat → Int := fun c => if c = y then v else D c
/-- One direction of one cell. -/
def relax (s : Nat → Nat → Int) (x d : Nat) (S : (Nat → Int) × List Nat) : (Nat → Int) × List Nat :=
  if 0 ≤ s x d ∧ S.1 (s x d).toNat < 0 then (upd S.1 (s x d).toNat (S.1 x + 1), S.2 ++ [(s x d).toNat]) else S
def bround (s : Nat → Nat → Int) (x : Nat) (S : (Nat → Int) × List Nat) : (Nat → Int) × List Nat := relax s x 3 (relax s x 2 (relax s x 1 (relax s x 0 S)))
/-- Steps stay among v cells. -/
def Rng (s : Nat → Nat → Int) (v : Nat) : Prop := ∀ x d, x < v → d < 4 → s x d = -1 ∨ (0 ≤ s x d ∧ s x d < (v : Int))

structure BInv (s : Nat → Nat → Int) (v src : Nat) (S : (Nat → Int) × List Nat) (i : Nat) (m : Nat) : Prop where
  src0 : S.1 src = 0
  zero : ∀ c, S.1 c = 0 → c = src
  srcq : src ∈ S.2
  inr : ∀ c ∈ S.2, c < v
  nodup : S.2.Nodup
  neg : ∀ c, S.1 c = -1 ∨ 0 ≤ S.1 c
  mem : ∀ c, 0 ≤ S.1 c ↔ c ∈ S.2
  sorted : S.2.Pairwise (fun a b => S.1 a ≤ S.1 b)
  top : ∀ x, S.2[i]? = some x → ∀ c ∈ S.2, S.1 c ≤ S.1 x + 1
  done : ∀ j x, S.2[j]? = some x → ∀ d, d < 4 → (j < i ∨ (j = i ∧ d < m)) → 0 ≤ s x d → 0 ≤ S.1 (s x d).toNat ∧ S.1 (s x d).toNat ≤ S.1 x + 1
  pred : ∀ c ∈ S.2, c = src ∨ ∃ c' d, c' ∈ S.2 ∧ d < 4 ∧ s c' d = (c : Int) ∧ S.1 c = S.1 c' + 1
theorem BInv.start {s : Nat → Nat → Int} {v src : Nat} (h : src < v) : BInv s v src (upd (fun _ => -1) src 0, [src]) 0 0 where
  src0 := by simp [upd]
  zero := fun c => by simp only [upd]; split <;> simp_all
  srcq := by simp
  inr := by simpa using h
  nodup := by simp
  neg := fun c => by simp only [upd]; split <;> simp
  mem := fun c => by
    simp only [upd, List.mem_singleton]
    split
    · rename_i e; simp [e]
    · rename_i e; simp [e]
  sorted := by simp
  top := fun x hx c hc => by
    simp at hx hc
    subst hx hc
    omega
  done := fun j x hx d hd hj => by omega
  pred := fun c hc => .inl (by simpa using hc)
theorem BInv.relax {s : Nat → Nat → Int} {v src : Nat} (hs : Rng s v) {S : (Nat → Int) × List Nat} {i m x : Nat} (hm : m < 4) (hx : S.2[i]? = some x) (I : BInv s v src S i m) :
    BInv s v src (relax s x m S) i (m + 1) ∧ (relax s x m S).2[i]? = some x := by
  have hxq : x ∈ S.2 := List.mem_of_getElem? hx
  have hi : i < S.2.length := by
    rcases Nat.lt_or_ge i S.2.length with h | h
    · exact h
    · rw [List.getElem?_eq_none h] at hx; cases hx
  have hxv := I.inr x hxq
  have hx0 := (I.mem x).2 hxq
  unfold Go.Proofs.Ytbeajmcjfhbcjaa.P.relax
  by_cases hc : 0 ≤ s x m ∧ S.1 (s x m).toNat < 0
  · rw [if_pos hc]
    obtain ⟨y, hy⟩ : ∃ y : Nat, s x m = y := ⟨(s x m).toNat, by omega⟩
    have hyv : y < v := by have := hs x m hxv hm; omega
    rw [hy] at hc ⊢
    simp only [Int.toNat_natCast] at hc ⊢
    have hyq : y ∉ S.2 := fun h => by have := (I.mem y).2 h; omega
    have keep : ∀ c, c ∈ S.2 → upd S.1 y (S.1 x + 1) c = S.1 c := by
      intro c h
      unfold upd
      rw [if_neg]
      rintro rfl
      exact hyq h
    have uy : upd S.1 y (S.1 x + 1) y = S.1 x + 1 := by unfold upd; rw [if_pos rfl]
    have idx : ∀ j z, (S.2 ++ [y])[j]? = some z → S.2[j]? = some z ∨ (j = S.2.length ∧ z = y) := by
      intro j z h
      rcases Nat.lt_or_ge j S.2.length with h1 | h1
      · rw [List.getElem?_append_left h1] at h; exact .inl h
      · rw [List.getElem?_append_right h1] at h
        have : j - S.2.length = 0 := by
          rcases Nat.eq_zero_or_pos (j - S.2.length) with h2 | h2
          · exact h2
          · rw [List.getElem?_eq_none (by simp only [List.length_singleton]; omega)] at h; cases h
        rw [this] at h
        simp at h
        exact .inr ⟨by omega, h.symm⟩
    have I0 : ∀ c, (upd S.1 y (S.1 x + 1), S.2 ++ [y]).1 c = 0 → c = src := by
      intro c
      show upd _ _ _ c = 0 → _
      unfold upd
      split
      · intro h; omega
      · exact I.zero c
    refine ⟨{ src0 := ?_, zero := I0, srcq := ?_, inr := ?_, nodup := ?_, neg := ?_, mem := ?_, sorted := ?_, top := ?_, done := ?_, pred := ?_ }, by rw [List.getElem?_append_left hi]; exact hx⟩
    · show upd _ _ _ src = 0
      rw [keep _ I.srcq]; exact I.src0
    · exact List.mem_append_left _ I.srcq
    · intro c hcq
      rcases List.mem_append.1 hcq with h | h
      · exact I.inr c h
      · simp at h; omega
    · rw [List.nodup_append]
      refine ⟨I.nodup, by simp, ?_⟩
      intro a ha b hb hab
      simp at hb
      subst hab hb
      exact hyq ha
    · intro c
      show upd _ _ _ c = -1 ∨ 0 ≤ upd _ _ _ c
      by_cases e : c = y
      · subst e; rw [uy]; omega
      · rw [show upd S.1 y (S.1 x + 1) c = S.1 c from if_neg e]; exact I.neg c
    · intro c
      rw [List.mem_append, List.mem_singleton]
      show 0 ≤ upd _ _ _ c ↔ _
      unfold upd
      by_cases e : c = y
      · rw [if_pos e]; exact ⟨fun _ => .inr e, fun _ => by omega⟩
      · rw [if_neg e, I.mem]; simp [e]
    · rw [List.pairwise_append]
      refine ⟨I.sorted.imp_of_mem fun {a b} ha hb h => ?_, by simp, ?_⟩
      · show upd _ _ _ a ≤ upd _ _ _ b
        rw [keep a ha, keep b hb]; exact h
      · intro a ha b hb
        simp at hb
        subst hb
        show upd _ _ _ a ≤ upd _ _ _ b
        rw [keep a ha, uy]
        exact I.top x hx a ha
    · intro z hz c hcq
      rw [List.getElem?_append_left hi, hx] at hz
      obtain rfl := Option.some.inj hz
      show upd _ _ _ c ≤ upd _ _ _ x + 1
      rw [keep x hxq]
      rcases List.mem_append.1 hcq with h | h
      · rw [keep c h]; exact I.top x hx c h
      · simp at h; subst h; rw [uy]; omega
    · intro j z hz d hd hj h0
      rcases idx j z hz with h | ⟨h, _⟩
      · have hzq : z ∈ S.2 := List.mem_of_getElem? h
        show 0 ≤ upd _ _ _ _ ∧ upd _ _ _ _ ≤ upd _ _ _ z + 1
        rw [keep z hzq]
        by_cases e : j = i ∧ d = m
        · obtain ⟨rfl, rfl⟩ := e
          rw [hx] at h
          obtain rfl := Option.some.inj h
          rw [hy, Int.toNat_natCast, uy]
          omega
        · have := I.done j z h d hd (by omega) h0
          have h1 := (I.mem _).1 this.1
          rw [keep _ h1]
          exact this
      · omega
    · intro c hcq
      rcases List.mem_append.1 hcq with h | h
      · rcases I.pred c h with h1 | ⟨c', d, h1, h2, h3, h4⟩
        · exact .inl h1
        · refine .inr ⟨c', d, List.mem_append_left _ h1, h2, h3, ?_⟩
          show upd _ _ _ c = upd _ _ _ c' + 1
          rw [keep c h, keep c' h1]; exact h4
      · simp at h
        subst h
        refine .inr ⟨x, m, List.mem_append_left _ hxq, hm, hy, ?_⟩
        show upd _ _ _ c = upd _ _ _ x + 1
        rw [uy, keep x hxq]
  · rw [if_neg hc]
    refine ⟨{ I with done := ?_ }, hx⟩
    intro j z hz d hd hj h0
    by_cases e : j = i ∧ d = m
    · obtain ⟨rfl, rfl⟩ := e
      rw [hx] at hz
      obtain rfl := Option.some.inj hz
      have h1 : 0 ≤ S.1 (s x d).toNat := by
        have := I.neg (s x d).toNat
        omega
      exact ⟨h1, I.top x hx _ ((I.mem _).1 h1)⟩
    · exact I.done j z hz d hd (by omega) h0
theorem BInv.next {s : Nat → Nat → Int} {v src : Nat} {S : (Nat → Int) × List Nat} {i x : Nat} (hx : S.2[i]? = some x) (I : BInv s v src S i 4) : BInv s v src S (i + 1) 0 :=
  { I with
    top := fun z hz c hc => by
      have h1 := I.top x hx c hc
      have h2 := List.pairwise_iff_getElem.1 I.sorted i (i + 1)
      obtain ⟨a, rfl⟩ := List.getElem?_eq_some_iff.1 hx
      obtain ⟨b, rfl⟩ := List.getElem?_eq_some_iff.1 hz
      have := h2 a b (by omega)
      omega
    done := fun j z hz d hd hj h0 => I.done j z hz d hd (by omega) h0 }
theorem BInv.round {s : Nat → Nat → Int} {v src : Nat} (hs : Rng s v) {S : (Nat → Int) × List Nat} {i x : Nat} (hx : S.2[i]? = some x) (I : BInv s v src S i 0) : BInv s v src (bround s x S) (i + 1) 0 := by
  obtain ⟨I1, h1⟩ := I.relax hs (by omega) hx
  obtain ⟨I2, h2⟩ := I1.relax hs (by omega) h1
  obtain ⟨I3, h3⟩ := I2.relax hs (by omega) h2
  obtain ⟨I4, h4⟩ := I3.relax hs (by omega) h3
  exact I4.next h4
theorem nodup_len {v : Nat} : ∀ {q : List Nat}, q.Nodup → (∀ c ∈ q, c < v) → q.length ≤ v := by
  induction v with
  | zero =>
    intro q _ h
    cases q with
    | nil => simp
    | cons a l => have := h a (by simp); omega
  | succ v ih =>
    intro q hn h
    have h1 := ih (q := q.erase v) (hn.erase v) (fun c hc => by
      have h1 := h c (List.mem_of_mem_erase hc)
      have : c ≠ v := by rintro rfl; exact absurd hc (List.Nodup.not_mem_erase hn)
      omega)
    have h2 := List.length_erase (a := v) (l := q)
    split at h2 <;> omega
theorem BInv.len {s : Nat → Nat → Int} {v src : Nat} {S : (Nat → Int) × List Nat} {i m : Nat} (I : BInv s v src S i m) : S.2.length ≤ v := nodup_len I.nodup I.inr
/-- What distances are. -/
structure Dist (s : Nat → Nat → Int) (v src : Nat) (D : Nat → Int) : Prop where
  src0 : D src = 0
  zero : ∀ c, D c = 0 → c = src
  neg : ∀ c, D c = -1 ∨ 0 ≤ D c
  inr : ∀ c, 0 ≤ D c → c < v
  lip : ∀ x d, d < 4 → 0 ≤ D x → 0 ≤ s x d → 0 ≤ D (s x d).toNat ∧ D (s x d).toNat ≤ D x + 1
  pred : ∀ c, 0 < D c → ∃ c' d, d < 4 ∧ s c' d = (c : Int) ∧ 0 ≤ D c' ∧ D c = D c' + 1
/-- Steps are the edges of n. -/
structure Net (s : Nat → Nat → Int) (e : Nat → Nat × Nat) (v n : Nat) : Prop where
  rng : Rng s v
  edge : ∀ x d, x < v → d < 4 → 0 ≤ s x d → ∃ k, n.testBit k = true ∧ (e k = (x, (s x d).toNat) ∨ e k = ((s x d).toNat, x))
  lt : ∀ k, n.testBit k = true → (e k).1 < v ∧ (e k).2 < v
  fwd : ∀ k, n.testBit k = true → ∃ d, d < 4 ∧ s (e k).1 d = ((e k).2 : Int)
  bwd : ∀ k, n.testBit k = true → ∃ d, d < 4 ∧ s (e k).2 d = ((e k).1 : Int)
def cellsN (w h : Int) : Nat := (cellsOf w h).toNat
theorem cellsN_cast (w h : Int) : ((cellsN w h : Nat) : Int) = cellsOf w h := by have := cellsOf_range w h; unfold cellsN; omega
theorem cellsN_le (w h : Int) : cellsN w h ≤ 16 := by have := cellsOf_range w h; unfold cellsN; omega
/-- Enough rounds for all of a list. -/
theorem ev_all {β : Type} {f : Nat → Int → Option β} {g : Int → β} : ∀ {l : List Int}, (∀ c ∈ l, Ev (fun k => f k c) (g c)) → ∃ K, ∀ k, K ≤ k → ∀ c ∈ l, f k c = some (g c)
  | [], _ => ⟨0, fun _ _ c hc => by cases hc⟩
  | x :: xs, h => by
    obtain ⟨K1, h1⟩ := h x List.mem_cons_self
    obtain ⟨K2, h2⟩ := ev_all (l := xs) fun c hc => h c (List.mem_cons_of_mem _ hc)
    refine ⟨max K1 K2, fun k hk c hc => ?_⟩
    rcases List.mem_cons.1 hc with rfl | hc
    · exact h1 k (by omega)
    · exact h2 k (by omega) c hc
/-- The dead ends among d cells from i on. -/
def deadL (w h : Int) (n i d : Nat) : List Int := (run i d).filter fun c => decide ((waysI w h n c).length = 1)
theorem impl_DeadEnds_ev {w h : Int} {n : Nat} (hg : gridOk w h = true) (hn : n < 2 ^ gapsN w h) : Ev (fun k => impl_DeadEnds.f k w h n) (deadL w h n 0 (cellsN w h)) := by
  have hc := cellsN_cast w h
  have h16 := cellsN_le w h
  obtain ⟨K, hK⟩ := ev_all (f := fun k c => impl_WaysFrom.f k w h n c) (g := fun c => waysI w h n c) (l := run 0 (cellsN w h)) fun c _ => impl_Ways_ev hg hn c
  obtain ⟨K2, hK2⟩ := impl_upTo_ev (cellsN w h) (by omega)
  refine ⟨max K K2, fun k hk => ?_⟩
  have e2 : impl_upTo.f k (cellsN w h : Nat) = some (run 0 (cellsN w h)) := hK2 k (by omega)
  have e1 : ∀ c ∈ run 0 (cellsN w h), impl_WaysFrom.f k w h n c = some (waysI w h n c) := hK k (by omega)
  show impl_DeadEnds.f k w h n = _
  unfold impl_DeadEnds.f
  rw [impl_MazeOk_eq, mazeOk_iff.2 ⟨hg, n, rfl, hn⟩, Option.bind_some, if_pos rfl, impl_CountCells_eq, Option.bind_some, ← hc, e2, Option.bind_some, if_pos]
  · unfold deadL
    congr 1
    refine List.filter_congr fun c hc => ?_
    rw [e1 c hc]
    simp
  · rw [List.all_eq_true]
    intro c hc
    rw [e1 c hc]
    rfl
theorem spec_Dead_l0 {w h : Int} {n : Nat} (hg : gridOk w h = true) (hn : n < 2 ^ gapsN w h) : ∀ (d i : Nat) (out : List Int), i + d = cellsN w h → out.length ≤ i → Ev (fun k => spec_DeadEnds.l0 k out i w h n) (out ++ deadL w h n i d)
  | 0, i, out, hd, ho => by
    have hc := cellsN_cast w h
    refine Ev.step (fun _ => spec_DeadEnds.l0.eq_2 ..) (Ev.bnd0 (spec_CountCells_eq w h) (Ev.ff (by omega) (Ev.step (fun _ => spec_DeadEnds.j1.eq_2 ..) (Ev.ff (by decide) (Ev.ret ?_)))))
    simp [deadL, run]
  | d + 1, i, out, hd, ho => by
    have hc := cellsN_cast w h
    have h16 := cellsN_le w h
    refine Ev.step (fun _ => spec_DeadEnds.l0.eq_2 ..) (Ev.bnd0 (spec_CountCells_eq w h) (Ev.tt (by omega) (Ev.bnd0 (spec_MazeOk_eq w h n) ?_)))
    rw [mazeOk_iff.2 ⟨hg, n, rfl, hn⟩]
    refine Ev.step (fun _ => spec_DeadEnds.j1.eq_2 ..) (Ev.tt rfl (Ev.bind (spec_Ways_ev hg hn i) ?_))
    rw [wsucc (by omega)]
    have e0 : deadL w h n i (d + 1) = if (waysI w h n i).length = 1 then (i : Int) :: deadL w h n (i + 1) d else deadL w h n (i + 1) d := by
      unfold deadL
      rw [run_succ, List.filter_cons]
      simp only [decide_eq_true_eq]
    rw [e0]
    refine Ev.ite (fun e => Ev.tt (by omega) ?_) (fun e => ?_)
    · rw [if_pos (by omega)]
      have := spec_Dead_l0 hg hn d (i + 1) (out ++ [(i : Int)]) (by omega) (by simp; omega)
      simpa using this
    · rw [if_neg (by omega)]
      exact spec_Dead_l0 hg hn d (i + 1) out (by omega) (by omega)
theorem spec_DeadEnds_ev {w h : Int} {n : Nat} (hg : gridOk w h = true) (hn : n < 2 ^ gapsN w h) : Ev (fun k => spec_DeadEnds.f k w h n) (deadL w h n 0 (cellsN w h)) := by
  unfold spec_DeadEnds.f
  have := spec_Dead_l0 hg hn (cellsN w h) 0 [] (by omega) (by simp)
  simpa using this
def braidB (w h : Int) (n : Nat) : Bool := ((deadL w h n 0 (cellsN w h)).length : Int) == 0
theorem impl_IsBraid_ev {w h : Int} {n : Nat} (hg : gridOk w h = true) (hn : n < 2 ^ gapsN w h) : Ev (fun k => impl_IsBraid.f k w h n) (braidB w h n) := by
  unfold impl_IsBraid.f
  exact Ev.bnd0 (impl_MazeOk_eq ..) (Ev.tt (mazeOk_iff.2 ⟨hg, n, rfl, hn⟩) (Ev.bind (impl_DeadEnds_ev hg hn) (Ev.ret rfl)))
theorem spec_IsBraid_ev {w h : Int} {n : Nat} (hg : gridOk w h = true) (hn : n < 2 ^ gapsN w h) : Ev (fun k => spec_IsBraid.f k w h n) (braidB w h n) := by
  unfold spec_IsBraid.f
  exact Ev.bnd0 (spec_MazeOk_eq ..) (Ev.tt (mazeOk_iff.2 ⟨hg, n, rfl, hn⟩) (Ev.bind (spec_DeadEnds_ev hg hn) (Ev.ret rfl)))
end Go.Proofs.Ytbeajmcjfhbcjaa.P
namespace Go.Proofs.Ytbeajmcjfhbcjaa.P
open Go.RowKit Go.Proofs.YtbeajmcjfhbcjaaW.PrintWords Go.Proofs.Ytbeajmcjfhbcjaa.Sup
set_option linter.unusedVariables false
set_option linter.unusedSimpArgs false

theorem FnExactIsBraid_pure (a0_0 a0_1 a0_2 : Int) (w0_0 : InR a0_0) (w0_1 : InR a0_1) (w0_2 : InR a0_2) : ∃ k, laws_FnExactIsBraid.f k a0_0 a0_1 a0_2 = some true := by
  refine Ev.rounds ?_
  have key : ∃ r : Bool, Ev (fun k => impl_IsBraid.f k a0_0 a0_1 a0_2) r ∧ Ev (fun k => spec_IsBraid.f k a0_0 a0_1 a0_2) r := by
    by_cases hm : mazeOk a0_0 a0_1 a0_2 = true
    · obtain ⟨hg, n, rfl, hn⟩ := mazeOk_iff.1 hm
      exact ⟨_, impl_IsBraid_ev hg hn, spec_IsBraid_ev hg hn⟩
    · refine ⟨false, ?_, ?_⟩
      · unfold impl_IsBraid.f
        exact Ev.bnd0 (impl_MazeOk_eq ..) (Ev.ff hm (Ev.ret rfl))
      · unfold spec_IsBraid.f
        exact Ev.bnd0 (spec_MazeOk_eq ..) (Ev.ff hm (Ev.ret rfl))
  obtain ⟨r, hi, hs⟩ := key
  unfold laws_FnExactIsBraid.f
  have ht : laws_toMaze.f a0_0 a0_1 a0_2 = some (a0_0, a0_1, a0_2) := rfl
  exact Ev.bnd0 ht (Ev.bind hs (Ev.bnd0 ht (Ev.bind hi (Ev.ff (by simp) (Ev.ret rfl)))))
end Go.Proofs.Ytbeajmcjfhbcjaa.P
namespace Go.Proofs.Ytbeajmcjfhbcjaa.fnExactIsBraid
open Go.ChangeShapes Go.WideShapes Go.ChangeAt Go.RowKit Go.Proofs.YtbeajmcjfhbcjaaW.PrintWords Go.Proofs.Ytbeajmcjfhbcjaa.Sup
open Go.ChangeMaps (open_string shut_string)
set_option linter.unusedVariables false
theorem own : ownKnob Try.prog.godebug = none := by kernel_rfl
theorem laidOut : laidOutB Try.prog = true := by kernel_rfl
set_option maxRecDepth 100000 in
theorem lifted (os : Os) (started : os.Started) (H : Type) (enc : TypeId × Value → H) :
    ReturnsInHanded {} Try.checked os 6 .any (Rows.fnExactIsBraidSpec.pre6 enc Try.prog Try.f6 Rows.fnExactIsBraidRow.domain false) (Rows.fnExactIsBraidSpec.post enc Try.prog Try.f6 false true false false) := by
  refine returnsInHanded_of_change_sized (C := Try.checked) own started (by kernel_rfl) Try.func6
    (ChangeSpec.witness6 (enc := enc) (C := Try.checked) false ⟨#[], #[.agg #[.int .i64 0, .int .i64 0, .int .i64 0]], []⟩ 8 (by kernel_rfl) (by kernel_rfl) (by kernel_rfl) (by kernel_rfl)) ?_
  intro W base args ds gs before hval0 hW hcnd hsz0 _
  have hsz : (DataW.weightsEach Try.prog (Try.f6.params.toList ++ Rows.fnExactIsBraidSpec.plain.varTypes Try.prog) (ds ++ gs)).all (· ≤ reachBytes) = true := hsz0
  have hval : ∀ (j : Nat) t v, Try.f6.params[j]? = some t → args[j]? = some v → Value.okWide Try.prog W .any base t v := hval0
  have hW' := hW
  obtain ⟨p, q, hA0, hV, rfl, hfz, hnd⟩ := hW
  have hA : DataW.TrodAll enc Try.prog W 0 (fun _ => true) true Try.f6.params.toList args.toList ds p := hA0
  rw [Try.params6] at hA hval hsz
  obtain ⟨v0, vs0, d0, ds0, p0, q0, hargs, rfl, rfl, h0, r0⟩ := trodAll_cons hA
  obtain ⟨rfl, rfl, rfl⟩ := trodAll_nil r0
  obtain rfl : args = #[v0] := by cases args; simp_all
  obtain ⟨rfl, rfl⟩ := trodVars_none hV
  have k0 := h0
  have lt0 : ∀ x ∈ p0, x.block < W.heap.size := by obtain ⟨m, hm⟩ := k0; exact DataW.trod_lt m _ _ _ hm
  obtain ⟨a0_0, a0_1, a0_2, rfl, w0_0, w0_1, w0_2⟩ := open3 Try.underlying46 Try.underlying31 (by kernel_rfl) (by kernel_rfl) (by kernel_rfl) rfl rfl rfl rfl (by kernel_rfl) (by kernel_rfl) (by kernel_rfl) (by kernel_rfl) (by kernel_rfl) (hval 0 46 v0 rfl rfl) h0
  clear hA0 hval0 hsz0 hsz
  obtain ⟨k, hf⟩ := P.FnExactIsBraid_pure a0_0 a0_1 a0_2 w0_0 w0_1 w0_2
  refine (P.laws_FnExactIsBraid.calls k a0_0 a0_1 a0_2 true W  hf).mono fun e W' ⟨he, bel0⟩ => ?_
  have bel : Below W.heap.size W W' := bel0
  subst he
  exact ⟨_, rfl, _, _, _, [], _, [], hW', trodAll_mk1 (shut_bool Try.underlying4 _), (trodAll_cons_mk (Below.trod laidOut (by kernel_rfl) (of_decide_eq_true (by kernel_rfl)) k0 bel lt0) trodAll_mk0), rfl, bel.frame _, fun h => by cases h⟩
theorem over : Rows.fnExactIsBraidRow.holds Try.pinned (OpenSpec.ofChange Rows.fnExactIsBraidSpec) :=
  OpenClaim.holds_of_wide 6 Try.f6 rfl rfl rfl rfl rfl rfl rfl ⟨rfl, rfl, rfl, rfl, rfl⟩ rfl rfl rfl rfl rfl (by kernel_rfl) Try.func6 (by kernel_rfl)
    (of_decide_eq_true (by kernel_rfl)) (by unfold Func.isWrapper; first | (rw [if_pos (by decide +kernel)]; kernel_rfl) | (rw [if_neg (by decide +kernel)]; exact ⟨rfl, rfl⟩))
    (fun os started H enc _ => lifted os started H enc)
theorem proved : Rows.FnExactIsBraidSaid := over
end Go.Proofs.Ytbeajmcjfhbcjaa.fnExactIsBraid
namespace Go.Proofs.Ytbeajmcjfhbcjaa
/-- The row, under a short name, for the claim. -/
theorem fnExactIsBraid_holds : Rows.FnExactIsBraidSaid := fnExactIsBraid.proved
#print axioms fnExactIsBraid_holds
end Go.Proofs.Ytbeajmcjfhbcjaa
