/- The statement FnExactDeterminant of the seat, out of its plain form (FnExactDeterminant_pure) and the walk of its Go function. Part 2 of 2: each Go function's walk, then the plain lemmas, then the row. No condition: it holds for every input. -/
import Derived.Test.YtbenbfhpbnepmaaBFnExactDeterminant1
import Derived.Test.YtbenbfhpbnepmaaRows
import Derived.Test.YtbenbfhpbnepmaaWSized
import Derived.Below
import Derived.ChangeOld
import Derived.Deep.Matrix
import Derived.Lib.SmallJoins
import Derived.OpenShut
import Derived.ProofKit
import Derived.ShutString
import Derived.SizedLaws
import Derived.WalkKit
namespace Go.Proofs.Ytbenbfhpbnepmaa.P
open Go.RowKit Go.Proofs.YtbenbfhpbnepmaaW.PrintWords Go.Proofs.YtbenbfhpbnepmaaW.PrintLast Go.Proofs.YtbenbfhpbnepmaaW.PrintMore
attribute [local go_sem] max2_int min2_int max_two min_two max_three min_three max_four min_four   -- for this text's walks alone
set_option linter.unusedVariables false
set_option linter.unusedSimpArgs false

/-! ### impl_determinant: function 61 -/
mutual
def impl_determinant.l0 : Nat → List (List Int) → List Int → Int → Option (Int)
  | 0, _, _, _ => none
  | k + 1, x0, x3, x4 => if x4 < (x3.length : Int) then ((bits_OnesCount.f (IntKind.u64.wrap (x4))).bind fun t106 => (if 0 ≤ (wrap64 (t106 - 1)) then (if (wrap64 (t106 - 1)) < (x0.length : Int) then (impl_determinant.l1 k x0 x3 x4 (rd_L1 x0 (wrap64 (t106 - 1))) ((rd_L1 x0 (wrap64 (t106 - 1))).length : Int) 0) else (none)) else (none))) else (if 0 ≤ (wrap64 ((x3.length : Int) - 1)) then (if (wrap64 ((x3.length : Int) - 1)) < (x3.length : Int) then (some (rd x3 (wrap64 ((x3.length : Int) - 1)))) else (none)) else (none))
def impl_determinant.l1 : Nat → List (List Int) → List Int → Int → List Int → Int → Int → Option (Int)
  | 0, _, _, _, _, _, _ => none
  | k + 1, x0, x3, x4, x27, x28, x29 => if x29 < x28 then (if 0 ≤ x29 then (if x29 < (x27.length : Int) then (if (rd x27 x29) = 0 then (impl_determinant.j2 k x0 x3 x4 x29 (rd x27 x29) x27 x28 x29 true) else (impl_determinant.j2 k x0 x3 x4 x29 (rd x27 x29) x27 x28 x29 ((Go.bits .and .i64 (shr .i64 x4 x29) 1) == 0))) else (none)) else (none)) else (impl_determinant.l0 k x0 x3 (wrap64 (x4 + 1)))
def impl_determinant.j2 : Nat → List (List Int) → List Int → Int → Int → Int → List Int → Int → Int → Bool → Option (Int)
  | 0, _, _, _, _, _, _, _, _, _ => none
  | k + 1, x0, x3, x4, x6, x7, x27, x28, x29, x42 => if x42 = true then (impl_determinant.l1 k x0 x3 x4 x27 x28 (wrap64 (x29 + 1))) else (if 0 ≤ (wrap64 (x6 + 1)) then ((bits_OnesCount.f (IntKind.u64.wrap (shr .i64 x4 (wrap64 (x6 + 1))))).bind fun t109 => (if (Int.tmod t109 2) = 1 then (if 0 ≤ x4 then (if x4 < (x3.length : Int) then (if 0 ≤ x6 then (if 0 ≤ (Go.bits .andNot .i64 x4 (shl .i64 1 x6)) then (if (Go.bits .andNot .i64 x4 (shl .i64 1 x6)) < (x3.length : Int) then (impl_determinant.l1 k x0 (x3.set (x4 : Int).toNat (wrap64 ((rd x3 x4) + (wrap64 ((wrap64 (-x7)) * (rd x3 (Go.bits .andNot .i64 x4 (shl .i64 1 x6)))))))) x4 x27 x28 (wrap64 (x29 + 1))) else (none)) else (none)) else (none)) else (none)) else (none)) else (if 0 ≤ x4 then (if x4 < (x3.length : Int) then (if 0 ≤ x6 then (if 0 ≤ (Go.bits .andNot .i64 x4 (shl .i64 1 x6)) then (if (Go.bits .andNot .i64 x4 (shl .i64 1 x6)) < (x3.length : Int) then (impl_determinant.l1 k x0 (x3.set (x4 : Int).toNat (wrap64 ((rd x3 x4) + (wrap64 (x7 * (rd x3 (Go.bits .andNot .i64 x4 (shl .i64 1 x6)))))))) x4 x27 x28 (wrap64 (x29 + 1))) else (none)) else (none)) else (none)) else (none)) else (none)))) else (none))
end
def impl_determinant.f (k : Nat) (l0 : List (List Int)) : Option (Int) := if 0 ≤ (shl .i64 1 (l0.length : Int)) then (if (shl .i64 1 (l0.length : Int) : Int).toNat ≤ 35184372088832 then ((some (List.replicate (shl .i64 1 (l0.length : Int) : Int).toNat 0 : List Int)).bind fun y101 => (if 0 < (y101.length : Int) then (impl_determinant.l0 k l0 (y101.set (0 : Int).toNat 1) 1) else (none))) else (none)) else (none)
theorem impl_determinant.mono_l : ∀ k, (∀ y0 y1 y2, LeO (impl_determinant.l0 k y0 y1 y2) (impl_determinant.l0 (k + 1) y0 y1 y2)) ∧ (∀ y0 y1 y2 y3 y4 y5, LeO (impl_determinant.l1 k y0 y1 y2 y3 y4 y5) (impl_determinant.l1 (k + 1) y0 y1 y2 y3 y4 y5)) ∧ (∀ y0 y1 y2 y3 y4 y5 y6 y7 y8, LeO (impl_determinant.j2 k y0 y1 y2 y3 y4 y5 y6 y7 y8) (impl_determinant.j2 (k + 1) y0 y1 y2 y3 y4 y5 y6 y7 y8))
  | 0 => ⟨fun _ _ _ r h => by simp [impl_determinant.l0] at h, fun _ _ _ _ _ _ r h => by simp [impl_determinant.l1] at h, fun _ _ _ _ _ _ _ _ _ r h => by simp [impl_determinant.j2] at h⟩
  | k + 1 => by
    obtain ⟨ih0, ih1, ih2⟩ := impl_determinant.mono_l k
    refine ⟨?_, ?_, ?_⟩
    · intro y0 y1 y2
      unfold impl_determinant.l0
      repeat' first
      | (with_reducible exact ih0 _ _ _)
      | (with_reducible exact ih1 _ _ _ _ _ _)
      | (with_reducible exact ih2 _ _ _ _ _ _ _ _ _)
      | (with_reducible exact LeO.refl _)
      | (with_reducible exact LeO.none _)
      | (with_reducible refine LeO.ite ?_ ?_)
      | (with_reducible refine LeO.bind ?_ (fun _ => ?_))
      | exact ih0 _ _ _
      | exact ih1 _ _ _ _ _ _
      | exact ih2 _ _ _ _ _ _ _ _ _
      | exact LeO.none _
      | refine LeO.ite ?_ ?_
      | refine LeO.bind ?_ (fun _ => ?_)
    · intro y0 y1 y2 y3 y4 y5
      unfold impl_determinant.l1
      repeat' first
      | (with_reducible exact ih0 _ _ _)
      | (with_reducible exact ih1 _ _ _ _ _ _)
      | (with_reducible exact ih2 _ _ _ _ _ _ _ _ _)
      | (with_reducible exact LeO.refl _)
      | (with_reducible exact LeO.none _)
      | (with_reducible refine LeO.ite ?_ ?_)
      | (with_reducible refine LeO.bind ?_ (fun _ => ?_))
      | exact ih0 _ _ _
      | exact ih1 _ _ _ _ _ _
      | exact ih2 _ _ _ _ _ _ _ _ _
      | exact LeO.none _
      | refine LeO.ite ?_ ?_
      | refine LeO.bind ?_ (fun _ => ?_)
    · intro y0 y1 y2 y3 y4 y5 y6 y7 y8
      unfold impl_determinant.j2
      repeat' first
      | (with_reducible exact ih0 _ _ _)
      | (with_reducible exact ih1 _ _ _ _ _ _)
      | (with_reducible exact ih2 _ _ _ _ _ _ _ _ _)
      | (with_reducible exact LeO.refl _)
      | (with_reducible exact LeO.none _)
      | (with_reducible refine LeO.ite ?_ ?_)
      | (with_reducible refine LeO.bind ?_ (fun _ => ?_))
      | exact ih0 _ _ _
      | exact ih1 _ _ _ _ _ _
      | exact ih2 _ _ _ _ _ _ _ _ _
      | exact LeO.none _
      | refine LeO.ite ?_ ?_
      | refine LeO.bind ?_ (fun _ => ?_)
theorem impl_determinant.mono : ∀ a0 k, LeO (impl_determinant.f k a0) (impl_determinant.f (k + 1) a0) := by
  intro a0 k
  obtain ⟨ih0, ih1, ih2⟩ := impl_determinant.mono_l k
  unfold impl_determinant.f
  repeat' first
      | (with_reducible exact ih0 _ _ _)
      | (with_reducible exact ih1 _ _ _ _ _ _)
      | (with_reducible exact ih2 _ _ _ _ _ _ _ _ _)
      | (with_reducible exact LeO.refl _)
      | (with_reducible exact LeO.none _)
      | (with_reducible refine LeO.ite ?_ ?_)
      | (with_reducible refine LeO.bind ?_ (fun _ => ?_))
      | exact ih0 _ _ _
      | exact ih1 _ _ _ _ _ _
      | exact ih2 _ _ _ _ _ _ _ _ _
      | exact LeO.none _
      | refine LeO.ite ?_ ?_
      | refine LeO.bind ?_ (fun _ => ?_)
def impl_determinant.T13 : Bool × List (List Nat × List Nat) := (true, [([], []), ([], []), ([0, 1], [0, 1]), ([2], [2]), ([], []), ([], []), ([], []), ([], []), ([7], [7]), ([6, 8], [6, 8]), ([5, 9], [5, 9]), ([10], [10]), ([4, 11], [4, 11]), ([3, 12], [3, 12]), ([0, 1, 0, 1, 2, 3, 4, 5, 6, 7, 8, 9, 10, 11, 12, 13], [0, 1]), ([14, 13, 0, 1, 2, 3, 4, 5, 6, 7, 8, 9, 10, 11, 12, 13], [13, 14])])
def impl_determinant.B13 : List Nat := [0, 0, 3, 7, 0, 0, 0, 0, 128, 448, 992, 2016, 4080, 8191, 16383, 32767]
theorem impl_determinant.tab13 : rtab .any (opsOf Try.f61 13) = impl_determinant.T13 := by kernel_rfl
theorem impl_determinant.bits13 : waitsOk impl_determinant.T13.2 impl_determinant.B13 = true := by kernel_rfl
set_option maxHeartbeats 8000000 in
set_option maxRecDepth 100000 in
theorem impl_determinant.calls (k : Nat) (A0 : Option Addr) (c0 : Nat) (l0 : List (List Int)) (r : Int) (w : World) (hr0 : Kd.C (Kd.slice 3 (Kd.int .i64)) w A0 l0.length l0) (hc0 : l0.length ≤ c0) (h : impl_determinant.f k l0 = some r) :
    Calls Try.prog 61 #[.slice A0 l0.length c0] w fun e w' => e = .returned (.int .i64 r) ∧ Below w.heap.size w w' := by
  have HR0 := Aside0.mk hr0
  have HC0 := Aside0.mk hc0
  clear hr0 hc0
  have HB := Aside0.mk (Below.refl w.heap.size w)
  have H : (if 0 ≤ (shl .i64 1 (l0.length : Int)) then (if (shl .i64 1 (l0.length : Int) : Int).toNat ≤ 35184372088832 then ((some (List.replicate (shl .i64 1 (l0.length : Int) : Int).toNat 0 : List Int)).bind fun y101 => (if 0 < (y101.length : Int) then (impl_determinant.l0 k l0 (y101.set (0 : Int).toNat 1) 1) else (none))) else (none)) else (none)) = some r := h
  clear h
  obtain ⟨ji2, hji2⟩ : ∃ j_ : Int, (shl .i64 1 (l0.length : Int)) = j_ := ⟨_, rfl⟩
  replace H : (if 0 ≤ (ji2) then (if (ji2 : Int).toNat ≤ 35184372088832 then ((some (List.replicate (ji2 : Int).toNat 0 : List Int)).bind fun y101 => (if 0 < (y101.length : Int) then (impl_determinant.l0 k l0 (y101.set (0 : Int).toNat 1) 1) else (none))) else (none)) else (none)) = some r := by first | (rw [hji2] at H; exact H) | (simp only [hji2] at H ⊢; exact H)
  have hji2_ : (IntKind.i64.wrap (1 * 2 ^ min (l0.length : Int).toNat 64)) = ji2 := hji2
  have hji2z : (l0.length : Int) ≤ 64 → (IntKind.i64.wrap (1 * 2 ^ (l0.length : Int).toNat)) = ji2 := shl_small hji2
  have hji2p : (IntKind.i64.wrap (1 * 2 ^ min l0.length 64)) = ji2 := hji2_
  have hji2q : (l0.length : Int) ≤ 64 → (IntKind.i64.wrap (1 * 2 ^ l0.length)) = ji2 := hji2z
  have hji2r : (IntKind.i64.wrap (2 ^ min l0.length 64)) = ji2 := by have h_ := hji2p; rw [Int.one_mul] at h_; exact h_
  have hji2s : (l0.length : Int) ≤ 64 → (IntKind.i64.wrap (2 ^ l0.length)) = ji2 := fun hle_ => by have h_ := hji2q hle_; rw [Int.one_mul] at h_; exact h_
  have hji2u : (IntKind.i64.wrap (2 ^ min (l0.length : Int).toNat 64)) = ji2 := by have h_ := hji2_; rw [Int.one_mul] at h_; exact h_
  have hji2v : (l0.length : Int) ≤ 64 → (IntKind.i64.wrap (2 ^ (l0.length : Int).toNat)) = ji2 := fun hle_ => by have h_ := hji2z hle_; rw [Int.one_mul] at h_; exact h_
  have hji2y : (wrap64 (1 * 2 ^ min (l0.length : Int).toNat 64)) = ji2 := (i64_w _).symm.trans hji2_
  have hji2x : (l0.length : Int) ≤ 64 → (wrap64 (1 * 2 ^ (l0.length : Int).toNat)) = ji2 := fun h_ => (i64_w _).symm.trans (hji2z h_)
  by_cases c3 : 0 ≤ (ji2)
  · rw [if_pos c3] at H
    have c3b0 := eq_true c3
    have c3b1 : decide (0 ≤ (ji2)) = true := decide_eq_true c3
    clear c3
    by_cases c4 : (ji2 : Int).toNat ≤ 35184372088832
    · rw [if_pos c4] at H
      have c4b0 := eq_true c4
      have c4b1 : decide ((ji2 : Int).toNat ≤ 35184372088832) = true := decide_eq_true c4
      clear c4
      obtain ⟨y101, hy101⟩ : ∃ y_ : List Int, y_ = (List.replicate (ji2 : Int).toNat 0) := ⟨_, rfl⟩
      replace H : (if 0 < (y101.length : Int) then (impl_determinant.l0 k l0 (y101.set (0 : Int).toNat 1) 1) else (none)) = some r := by first | (rw [hy101]; with_reducible exact H) | (have H2_ := (Option.bind_some _ _).symm.trans H; rw [hy101]; with_reducible exact H2_) | (have H2_ := (Option.bind_some _ _).symm.trans H; with_reducible exact H2_) | with_reducible exact H | (rw [hy101]; exact H) | exact H
      have Ny101 := Aside0.mk hy101
      clear hy101
      by_cases c5 : 0 < (y101.length : Int)
      · rw [if_pos c5] at H
        have c5b0 : decide (0 < (y101.length : Int)) = true := decide_eq_true c5
        have c5b1 : decide (0 < y101.length) = true := decide_eq_true (by omega)
        clear c5
        obtain ⟨y104, hy104⟩ : ∃ y_ : List Int, y_ = (y101.set (0 : Int).toNat 1) := ⟨_, rfl⟩
        replace H : (impl_determinant.l0 k l0 y104 1) = some r := by first | (rw [hy104]; with_reducible exact H) | (have H2_ := (Option.bind_some _ _).symm.trans H; rw [hy104]; with_reducible exact H2_) | (have H2_ := (Option.bind_some _ _).symm.trans H; with_reducible exact H2_) | with_reducible exact H | (rw [hy104]; exact H) | exact H
        have Ny104 := Aside0.mk hy104
        clear hy104
        have H' := Aside0.mk H
        clear H
        go_enter Try.func61, Try.ntmps61
        go_wp2_with (first | ((with_reducible refine gate_dst (N := 11) rfl ?_); refine Kd.R_make (Kd.int .i64) _ 3 rfl (N := 11) rfl 60 _ _ rfl ji2 rfl rfl Try.underlying60 (.int .i64 0) 8 info3 rfl (by decide) (by omega) 0 (ok := fun _ => True) (okp := fun _ => True) rfl (fun _ hk => hk) trivial (of_decide_eq_true (by first | (with_reducible assumption) | assumption)) (Nat.le_trans (Nat.mul_le_mul_right _ (of_decide_eq_true (by first | (with_reducible assumption) | assumption) : ji2.toNat ≤ 35184372088832)) (by omega)) (Below.refl _ _) (Nat.le_refl _) ?_; intro v102 w7 ho8 hb hg_ hnew_; clear hg_ hnew_; (first | rw [← Ny101.out] at ho8 | (simp only [Int.reduceToNat] at ho8; rw [← Ny101.out] at ho8)); have n0_ := Aside0.mk (Kd.R_lower ho8 (below_size (by repeat (first | (with_reducible first | exact HB.out | apply below_alloc | apply pw_below_drewN | apply below_drew1) | exact HB.out)))); have n1_ := Aside0.mk (below_step (by repeat (first | (with_reducible first | exact HB.out | apply below_alloc | apply pw_below_drewN | apply below_drew1) | exact HB.out)) hb); clear HB; have HO103 := n0_; have HB := n1_; clear n0_ n1_; clear hb ho8; have p6 : 0 ≤ (0 : Int) := (by omega); have q6 : (0 : Int) < ((y101.length : Int) : Int) := of_decide_eq_true (by first | (with_reducible assumption) | assumption); have qi6 : (0 < y101.length) = True := eq_true (by omega); obtain ⟨go6, co6, eo6, gb6, gl6, cl6, HG6⟩ := Kd.R_form HO103.out (by omega); (first | cases eo6 | (injection eo6 with ea_ en_ ec_; (first | subst ea_ | (injection ea_ with ea_; subst ea_)); subst ec_; clear en_)); have GB6 := Aside0.mk gb6; have GG6 := Aside0.mk HG6; clear gb6 gl6 HG6; obtain ⟨hx6_0, hf6_0⟩ := Kd.R_celln 0 HO103.out (0 : Int) p6 q6; (try rw [show ((0 : Int)).toNat = 0 from rfl] at hx6_0); (try simp only [Nat.reduceMul, Nat.zero_mul, Nat.zero_add, Nat.reduceAdd] at hx6_0); (try rw [show ((0 : Int)).toNat = 0 from rfl] at hf6_0); (try simp only [Nat.reduceMul, Nat.zero_mul, Nat.zero_add, Nat.reduceAdd] at hf6_0); replace p6 := eq_true p6; replace q6 := eq_true q6; obtain ⟨hy9_, hz9_⟩ := Kd.R_celln 0 HO103.out (0 : Int) (by omega) (of_decide_eq_true (by first | (with_reducible assumption) | assumption)); (try simp only [Int.reduceToNat, Int.toNat_zero, Int.toNat_ofNat, Nat.reduceMul, Nat.zero_mul, Nat.zero_add] at hy9_ hz9_); (try rw [show ((0 : Int)).toNat = 0 from rfl] at hy9_); (try rw [show ((0 : Int)).toNat = 0 from rfl] at hz9_); have HP9 := Kd.R_putg HO103.out (0 : Int) 1) | ((with_reducible refine gate_store (t := 3) (p := 13) rfl ?_); refine store_event (t := 3) (p := 13) (v := ?vo_w10) (w1 := (w7.setCell ⟨go6, (0 : Int).toNat, none⟩ (.int .i64 1))) ?hg ?ho ?hn ?hr ?_; (case ho => rfl); (case hg => rfl); (case hn => rfl); (case hr => first | (go_simp; done) | (go_simp; rfl)); intro w10 hw; have hg : w7.grownBy w10 (some go6) := (by rw [hw]; exact HP9.2); have hp_ : Kd.R (Kd.int .i64) 3 w10 w.heap.size (fun _ => True) (.slice (some ⟨go6, 0, none⟩) y101.length co6) y104 := (by rw [hw, Ny104.out]; exact HP9.1); clear HP9; have n0_ := Aside0.mk (hp_); have n1_ := Aside0.mk ((by rw [hw]; exact below_set (HB.out) GB6.out : Below w.heap.size w w10)); clear HO103; clear HB; have HO103 := n0_; have HB := n1_; clear n0_ n1_; clear hg hw hp_))
        go_loopg [4] k (fun kq v4 w' => ∃ (x3_1 : List Int) (x4_1 : Int), v4 = .int .i64 x4_1 ∧ Aside0 (impl_determinant.l0 kq l0 x3_1 x4_1 = some r) ∧ Aside0 (kq ≤ k) ∧ Aside0 (Kd.R (Kd.int .i64) 3 w' w.heap.size (fun _ => True) (.slice (some ⟨go6, 0, none⟩) y101.length co6) x3_1) ∧ Aside0 (Below w.heap.size w w'))
        case atStart => exact ⟨(y104), (1), (by first | rfl | (simp; done) | (simp [*]; done)), H', ⟨Nat.le_refl _⟩, ⟨by (with_reducible repeat (first | apply Kd.R_alloc | apply Kd.R_drewN | apply Kd.R_drew)); exact HO103.out⟩, ⟨by repeat (first | (with_reducible first | exact HB.out | apply below_alloc | apply pw_below_drewN | apply below_drew1) | exact HB.out)⟩⟩
        case round =>
          clear H'
          try clear p2
          try clear c3
          try clear c3b0
          try clear c3b1
          try clear c4
          try clear c4b0
          try clear c4b1
          try clear c5
          try clear c5b0
          try clear c5b1
          try clear c6
          try clear p6
          try clear q6
          try clear hx6
          try clear qi6
          try clear hf6
          try clear hx6_0
          try clear p6
          try clear q6
          obtain ⟨x3_1, x4_1, rfl, HA, HK1, HO_3, HB⟩ := hrel
          have hl3_1 := (Kd.R_reads' HO_3.out).1
          rw [hl3_1] at HO_3
          (try simp only [hl3_1])
          cases gk with
          | zero => exact absurd HA.out (by simp [impl_determinant.l0])
          | succ k1 =>
            have H := HA.out
            clear HA
            simp only [impl_determinant.l0] at H
            by_cases c11 : x4_1 < (x3_1.length : Int)
            · rw [if_pos c11] at H
              have c11b0 : decide (x4_1 < (x3_1.length : Int)) = true := decide_eq_true c11
              clear c11
              replace H := Option.bind_eq_some_iff.mp H
              obtain ⟨t106, A120, H⟩ := H
              replace H : (if 0 ≤ (wrap64 (t106 - 1)) then (if (wrap64 (t106 - 1)) < (l0.length : Int) then (impl_determinant.l1 k1 l0 x3_1 x4_1 (rd_L1 l0 (wrap64 (t106 - 1))) ((rd_L1 l0 (wrap64 (t106 - 1))).length : Int) 0) else (none)) else (none)) = some r := H
              have A12 := Aside0.mk A120
              clear A120
              obtain ⟨ji13, hji13⟩ : ∃ j_ : Int, (wrap64 (t106 - 1)) = j_ := ⟨_, rfl⟩
              replace H : (if 0 ≤ (ji13) then (if (ji13) < (l0.length : Int) then (impl_determinant.l1 k1 l0 x3_1 x4_1 (rd_L1 l0 (ji13)) ((rd_L1 l0 (ji13)).length : Int) 0) else (none)) else (none)) = some r := by first | (rw [hji13] at H; exact H) | (simp only [hji13] at H ⊢; exact H)
              (try rw [hji13] at A12)
              have hji13w : (IntKind.i64.wrap (t106 - 1)) = ji13 := (i64_w _).trans hji13
              by_cases c14 : 0 ≤ (ji13)
              · rw [if_pos c14] at H
                have c14b0 : decide (0 ≤ (ji13)) = true := decide_eq_true c14
                clear c14
                by_cases c15 : (ji13) < (l0.length : Int)
                · rw [if_pos c15] at H
                  have c15b0 : decide ((ji13) < (l0.length : Int)) = true := decide_eq_true c15
                  clear c15
                  have H' := Aside0.mk H
                  clear H
                  go_wp2_with (first | ((with_reducible refine gate_callee (f := 100) rfl ?_); refine goesL_ (some 23) rfl rfl Try.func100 (by kernel_rfl) rfl #[.int .u64 (IntKind.u64.wrap (x4_1))] rfl (by (try simp only [List.map_toArray, List.map_cons, List.map_nil]); first | done | rfl | (simp only [List.length_drop, List.length_take]; rfl)) ?_; (with_reducible refine (bits_OnesCount.calls (IntKind.u64.wrap (x4_1)) t106 _ A12.out).mono ?_); rintro e w' ⟨rfl, ⟨nd, rfl⟩⟩; refine ⟨_, rfl, ?_⟩; have p107 : 0 ≤ ((ji13) : Int) := of_decide_eq_true (by first | (with_reducible assumption) | assumption); have q107 : (ji13) < (l0.length : Int) := of_decide_eq_true (by first | (with_reducible assumption) | assumption); obtain ⟨ad107, A107_0, c107_0, e107, hx107_0, hl107_0, hi107_0⟩ := at_L1 HR0.out (ji13) p107 q107; cases e107; replace hx107_0 := (HB.out.cell (World.block_lt_of_cell? w _ hx107_0)).trans hx107_0; have HR107_0 := Aside0.mk hi107_0; have HC107_0 := Aside0.mk hl107_0; clear hi107_0 hl107_0; replace p107 := eq_true p107; replace q107 := eq_true q107))
                  go_loopg [29] k1 (fun kq v29 w' => ∃ (x3_2 : List Int) (x29_2 : Int), v29 = .int .i64 x29_2 ∧ Aside0 (impl_determinant.l1 kq l0 x3_2 x4_1 (rd_L1 l0 (ji13)) ((rd_L1 l0 (ji13)).length : Int) x29_2 = some r) ∧ Aside0 (kq ≤ k1) ∧ Aside0 (Kd.R (Kd.int .i64) 3 w' w.heap.size (fun _ => True) (.slice (some ⟨go6, 0, none⟩) x3_1.length co6) x3_2) ∧ Aside0 (Below w.heap.size w w'))
                  case atStart => exact ⟨(x3_1), (0), (by first | rfl | (simp; done) | (simp [*]; done)), H', ⟨Nat.le_refl _⟩, ⟨by (try simp only [hl3_1]); (with_reducible repeat (first | apply Kd.R_alloc | apply Kd.R_drewN | apply Kd.R_drew)); exact HO_3.out⟩, ⟨by repeat (first | (with_reducible first | exact HB.out | apply below_alloc | apply pw_below_drewN | apply below_drew1) | exact HB.out)⟩⟩
                  case round =>
                    clear H'
                    try clear c1
                    try clear p1
                    try clear q1
                    try clear hx1
                    try clear p2
                    try clear c3
                    try clear c3b0
                    try clear c3b1
                    try clear c4
                    try clear c4b0
                    try clear c4b1
                    try clear c5
                    try clear c5b0
                    try clear c5b1
                    try clear c6
                    try clear p6
                    try clear q6
                    try clear hx6
                    try clear qi6
                    try clear hf6
                    try clear c10
                    try clear p10
                    try clear q10
                    try clear hx10
                    try clear c11
                    try clear c11b0
                    try clear c14
                    try clear c14b0
                    try clear c15
                    try clear c15b0
                    try clear hx107_0
                    try clear hx6_0
                    try clear p107
                    try clear p2
                    try clear p6
                    try clear q107
                    try clear q6
                    obtain ⟨x3_2, x29_2, rfl, HA, HK2, HO_3, HB⟩ := hrel
                    have hl3_2 := (Kd.R_reads' HO_3.out).1
                    rw [hl3_2] at HO_3
                    (try simp only [hl3_2])
                    cases gk with
                    | zero => exact absurd HA.out (by simp [impl_determinant.l1])
                    | succ k2 =>
                      have H := HA.out
                      clear HA
                      simp only [impl_determinant.l1] at H
                      by_cases c16 : x29_2 < ((rd_L1 l0 (ji13)).length : Int)
                      · rw [if_pos c16] at H
                        have c16b0 : decide (x29_2 < ((rd_L1 l0 (ji13)).length : Int)) = true := decide_eq_true c16
                        clear c16
                        by_cases c17 : 0 ≤ x29_2
                        · rw [if_pos c17] at H
                          have c17b0 : decide (0 ≤ x29_2) = true := decide_eq_true c17
                          clear c17
                          by_cases c18 : x29_2 < ((rd_L1 l0 (ji13)).length : Int)
                          · rw [if_pos c18] at H
                            have c18b0 : decide (x29_2 < ((rd_L1 l0 (ji13)).length : Int)) = true := decide_eq_true c18
                            clear c18
                            have HC19 := Aside0.mk H
                            clear H
                            have p108 : 0 ≤ (x29_2 : Int) := of_decide_eq_true (by first | (with_reducible assumption) | assumption)
                            have q108 : x29_2 < ((rd_L1 l0 (ji13)).length : Int) := of_decide_eq_true (by first | (with_reducible assumption) | assumption)
                            obtain ⟨ad108, e108, hx108_0⟩ := Kd.at_int HR107_0.out x29_2 p108 q108
                            cases e108
                            replace hx108_0 := (HB.out.cell (World.block_lt_of_cell? w _ hx108_0)).trans hx108_0
                            replace p108 := eq_true p108
                            replace q108 := eq_true q108
                            go_upto_region 10 with (fail)
                            go_cut [42] (fun v42 wc => ∃ (kq : Nat) (x42_18 : Bool), v42 = .bool x42_18 ∧ Aside0 (impl_determinant.j2 kq l0 x3_2 x4_1 x29_2 (rd (rd_L1 l0 (ji13)) x29_2) (rd_L1 l0 (ji13)) ((rd_L1 l0 (ji13)).length : Int) x29_2 x42_18 = some r) ∧ Aside0 (kq ≤ k2) ∧ Aside0 (Kd.R (Kd.int .i64) 3 wc w.heap.size (fun _ => True) (.slice (some ⟨go6, 0, none⟩) x3_2.length co6) x3_2) ∧ Aside0 (Below w.heap.size w wc))
                            case first =>
                              have H := HC19.out
                              clear HC19
                              by_cases c20 : (rd (rd_L1 l0 (ji13)) x29_2) = 0
                              · rw [if_pos c20] at H
                                have c20b0 : ((rd (rd_L1 l0 (ji13)) x29_2) == 0) = true := beq_iff_eq.mpr c20
                                have c20b1 : ((rd (rd_L1 l0 (ji13)) x29_2) != 0) = false := bne_eq_false_iff_eq.mpr c20
                                clear c20
                                (first | rw [c20b0] | (simp only [i64_w, i32_w]; rw [c20b0]) | skip)
                                have H' := Aside0.mk H
                                clear H
                                go_wp2
                                go_meet
                                case rel => exact ⟨_, (true), (by first | rfl | (simp; done) | (simp [*]; done)), H', ⟨by have := HK1.out; have := HK2.out; first | omega | exact Nat.le_refl _⟩, ⟨by (try simp only [hl3_1]); (try simp only [hl3_2]); (with_reducible repeat (first | apply Kd.R_alloc | apply Kd.R_drewN | apply Kd.R_drew)); exact HO_3.out⟩, ⟨by repeat (first | (with_reducible first | exact HB.out | apply below_alloc | apply pw_below_drewN | apply below_drew1) | exact HB.out)⟩⟩
                              · rw [if_neg c20] at H
                                have c20b0 : ((rd (rd_L1 l0 (ji13)) x29_2) == 0) = false := beq_eq_false_iff_ne.mpr c20
                                have c20b1 : ((rd (rd_L1 l0 (ji13)) x29_2) != 0) = true := bne_iff_ne.mpr c20
                                (first | rw [c20b0] | (simp only [i64_w, i32_w]; rw [c20b0]) | skip)
                                have c21b0 := eq_true (of_decide_eq_true (by first | (with_reducible assumption) | assumption) : 0 ≤ x29_2)
                                obtain ⟨ji22, hji22⟩ : ∃ j_ : Int, (shr .i64 x4_1 x29_2) = j_ := ⟨_, rfl⟩
                                replace H : (impl_determinant.j2 k2 l0 x3_2 x4_1 x29_2 (rd (rd_L1 l0 (ji13)) x29_2) (rd_L1 l0 (ji13)) ((rd_L1 l0 (ji13)).length : Int) x29_2 ((Go.bits .and .i64 (ji22) 1) == 0)) = some r := by first | (rw [hji22] at H; exact H) | (simp only [hji22] at H ⊢; exact H)
                                have hji22_ : (x4_1 / 2 ^ min x29_2.toNat 64) = ji22 := hji22
                                have hji22z : x29_2 ≤ 64 → (x4_1 / 2 ^ x29_2.toNat) = ji22 := shr_small hji22
                                have H' := Aside0.mk H
                                clear H
                                go_wp2
                                go_meet
                                case rel => exact ⟨_, (((Go.bits .and .i64 (ji22) 1) == 0)), (by first | rfl | (simp; done) | (simp only [← hji22] <;> (first | rfl | simp)) | (simp [*]; done)), H', ⟨by have := HK1.out; have := HK2.out; first | omega | exact Nat.le_refl _⟩, ⟨by (try simp only [hl3_1]); (try simp only [hl3_2]); (with_reducible repeat (first | apply Kd.R_alloc | apply Kd.R_drewN | apply Kd.R_drew)); exact HO_3.out⟩, ⟨by repeat (first | (with_reducible first | exact HB.out | apply below_alloc | apply pw_below_drewN | apply below_drew1) | exact HB.out)⟩⟩
                            case rest =>
                              clear HC19
                              try clear c1
                              try clear p1
                              try clear q1
                              try clear hx1
                              try clear c2
                              try clear p2
                              try clear c3
                              try clear c3b0
                              try clear c3b1
                              try clear c4
                              try clear c4b0
                              try clear c4b1
                              try clear c5
                              try clear c5b0
                              try clear c5b1
                              try clear c6
                              try clear p6
                              try clear q6
                              try clear hx6
                              try clear qi6
                              try clear hf6
                              try clear c10
                              try clear p10
                              try clear q10
                              try clear hx10
                              try clear c11
                              try clear c11b0
                              try clear c14
                              try clear c14b0
                              try clear c15
                              try clear c15b0
                              try clear c16
                              try clear c16b0
                              try clear c17
                              try clear c17b0
                              try clear c18
                              try clear c18b0
                              try clear c20
                              try clear c20b0
                              try clear c20b1
                              try clear c21
                              try clear c21b0
                              try clear hx107_0
                              try clear hx108_0
                              try clear hx6_0
                              try clear p1
                              try clear p10
                              try clear p107
                              try clear p108
                              try clear p2
                              try clear p6
                              try clear q1
                              try clear q10
                              try clear q107
                              try clear q108
                              try clear q6
                              obtain ⟨kq, x42_18, rfl, HA, HJ18, HO_3, HB⟩ := hcut
                              cases kq with
                              | zero => exact absurd HA.out (by simp [impl_determinant.j2])
                              | succ kj18 =>
                                have H := HA.out
                                clear HA
                                simp only [impl_determinant.j2] at H
                                by_cases c23 : x42_18 = true
                                · subst c23
                                  have H1 : (impl_determinant.l1 kj18 l0 x3_2 x4_1 (rd_L1 l0 (ji13)) ((rd_L1 l0 (ji13)).length : Int) (wrap64 (x29_2 + 1))) = some r := by rw [if_pos rfl] at H; exact H
                                  clear H
                                  have H := H1
                                  clear H1
                                  have H' := Aside0.mk H
                                  clear H
                                  go_wp2
                                  (try simp only [← hl3_2])
                                  go_roundg kj18
                                  case measure => have := HK1.out; have := HK2.out; have := HJ18.out; omega
                                  case rel => exact ⟨(x3_2), (wrap64 (x29_2 + 1)), (by first | rfl | (simp; done) | (simp [*]; done)), H', ⟨by have := HK1.out; have := HK2.out; have := HJ18.out; omega⟩, ⟨by (try simp only [hl3_1]); (try simp only [hl3_2]); (with_reducible repeat (first | apply Kd.R_alloc | apply Kd.R_drewN | apply Kd.R_drew)); exact HO_3.out⟩, ⟨by repeat (first | (with_reducible first | exact HB.out | apply below_alloc | apply pw_below_drewN | apply below_drew1) | exact HB.out)⟩⟩
                                · replace c23 := Bool.eq_false_iff.mpr c23
                                  subst c23
                                  have H1 : (if 0 ≤ (wrap64 (x29_2 + 1)) then ((bits_OnesCount.f (IntKind.u64.wrap (shr .i64 x4_1 (wrap64 (x29_2 + 1))))).bind fun t109 => (if (Int.tmod t109 2) = 1 then (if 0 ≤ x4_1 then (if x4_1 < (x3_2.length : Int) then (if 0 ≤ x29_2 then (if 0 ≤ (Go.bits .andNot .i64 x4_1 (shl .i64 1 x29_2)) then (if (Go.bits .andNot .i64 x4_1 (shl .i64 1 x29_2)) < (x3_2.length : Int) then (impl_determinant.l1 kj18 l0 (x3_2.set (x4_1 : Int).toNat (wrap64 ((rd x3_2 x4_1) + (wrap64 ((wrap64 (-(rd (rd_L1 l0 (ji13)) x29_2))) * (rd x3_2 (Go.bits .andNot .i64 x4_1 (shl .i64 1 x29_2)))))))) x4_1 (rd_L1 l0 (ji13)) ((rd_L1 l0 (ji13)).length : Int) (wrap64 (x29_2 + 1))) else (none)) else (none)) else (none)) else (none)) else (none)) else (if 0 ≤ x4_1 then (if x4_1 < (x3_2.length : Int) then (if 0 ≤ x29_2 then (if 0 ≤ (Go.bits .andNot .i64 x4_1 (shl .i64 1 x29_2)) then (if (Go.bits .andNot .i64 x4_1 (shl .i64 1 x29_2)) < (x3_2.length : Int) then (impl_determinant.l1 kj18 l0 (x3_2.set (x4_1 : Int).toNat (wrap64 ((rd x3_2 x4_1) + (wrap64 ((rd (rd_L1 l0 (ji13)) x29_2) * (rd x3_2 (Go.bits .andNot .i64 x4_1 (shl .i64 1 x29_2)))))))) x4_1 (rd_L1 l0 (ji13)) ((rd_L1 l0 (ji13)).length : Int) (wrap64 (x29_2 + 1))) else (none)) else (none)) else (none)) else (none)) else (none)))) else (none)) = some r := by rw [if_neg (show ¬ (false = true) by decide)] at H; exact H
                                  clear H
                                  have H := H1
                                  clear H1
                                  obtain ⟨ji24, hji24⟩ : ∃ j_ : Int, (wrap64 (x29_2 + 1)) = j_ := ⟨_, rfl⟩
                                  replace H : (if 0 ≤ (ji24) then ((bits_OnesCount.f (IntKind.u64.wrap (shr .i64 x4_1 (ji24)))).bind fun t109 => (if (Int.tmod t109 2) = 1 then (if 0 ≤ x4_1 then (if x4_1 < (x3_2.length : Int) then (if 0 ≤ x29_2 then (if 0 ≤ (Go.bits .andNot .i64 x4_1 (shl .i64 1 x29_2)) then (if (Go.bits .andNot .i64 x4_1 (shl .i64 1 x29_2)) < (x3_2.length : Int) then (impl_determinant.l1 kj18 l0 (x3_2.set (x4_1 : Int).toNat (wrap64 ((rd x3_2 x4_1) + (wrap64 ((wrap64 (-(rd (rd_L1 l0 (ji13)) x29_2))) * (rd x3_2 (Go.bits .andNot .i64 x4_1 (shl .i64 1 x29_2)))))))) x4_1 (rd_L1 l0 (ji13)) ((rd_L1 l0 (ji13)).length : Int) ji24) else (none)) else (none)) else (none)) else (none)) else (none)) else (if 0 ≤ x4_1 then (if x4_1 < (x3_2.length : Int) then (if 0 ≤ x29_2 then (if 0 ≤ (Go.bits .andNot .i64 x4_1 (shl .i64 1 x29_2)) then (if (Go.bits .andNot .i64 x4_1 (shl .i64 1 x29_2)) < (x3_2.length : Int) then (impl_determinant.l1 kj18 l0 (x3_2.set (x4_1 : Int).toNat (wrap64 ((rd x3_2 x4_1) + (wrap64 ((rd (rd_L1 l0 (ji13)) x29_2) * (rd x3_2 (Go.bits .andNot .i64 x4_1 (shl .i64 1 x29_2)))))))) x4_1 (rd_L1 l0 (ji13)) ((rd_L1 l0 (ji13)).length : Int) ji24) else (none)) else (none)) else (none)) else (none)) else (none)))) else (none)) = some r := by first | (rw [hji24] at H; exact H) | (simp only [hji24] at H ⊢; exact H)
                                  have hji24w : (IntKind.i64.wrap (x29_2 + 1)) = ji24 := (i64_w _).trans hji24
                                  by_cases c25 : 0 ≤ (ji24)
                                  · rw [if_pos c25] at H
                                    have c25b0 := eq_true c25
                                    have c25b1 : decide (0 ≤ (ji24)) = true := decide_eq_true c25
                                    clear c25
                                    obtain ⟨ji26, hji26⟩ : ∃ j_ : Int, (shr .i64 x4_1 (ji24)) = j_ := ⟨_, rfl⟩
                                    replace H : ((bits_OnesCount.f (IntKind.u64.wrap (ji26))).bind fun t109 => (if (Int.tmod t109 2) = 1 then (if 0 ≤ x4_1 then (if x4_1 < (x3_2.length : Int) then (if 0 ≤ x29_2 then (if 0 ≤ (Go.bits .andNot .i64 x4_1 (shl .i64 1 x29_2)) then (if (Go.bits .andNot .i64 x4_1 (shl .i64 1 x29_2)) < (x3_2.length : Int) then (impl_determinant.l1 kj18 l0 (x3_2.set (x4_1 : Int).toNat (wrap64 ((rd x3_2 x4_1) + (wrap64 ((wrap64 (-(rd (rd_L1 l0 (ji13)) x29_2))) * (rd x3_2 (Go.bits .andNot .i64 x4_1 (shl .i64 1 x29_2)))))))) x4_1 (rd_L1 l0 (ji13)) ((rd_L1 l0 (ji13)).length : Int) ji24) else (none)) else (none)) else (none)) else (none)) else (none)) else (if 0 ≤ x4_1 then (if x4_1 < (x3_2.length : Int) then (if 0 ≤ x29_2 then (if 0 ≤ (Go.bits .andNot .i64 x4_1 (shl .i64 1 x29_2)) then (if (Go.bits .andNot .i64 x4_1 (shl .i64 1 x29_2)) < (x3_2.length : Int) then (impl_determinant.l1 kj18 l0 (x3_2.set (x4_1 : Int).toNat (wrap64 ((rd x3_2 x4_1) + (wrap64 ((rd (rd_L1 l0 (ji13)) x29_2) * (rd x3_2 (Go.bits .andNot .i64 x4_1 (shl .i64 1 x29_2)))))))) x4_1 (rd_L1 l0 (ji13)) ((rd_L1 l0 (ji13)).length : Int) ji24) else (none)) else (none)) else (none)) else (none)) else (none)))) = some r := by first | (rw [hji26] at H; exact H) | (simp only [hji26] at H ⊢; exact H)
                                    have hji26_ : (x4_1 / 2 ^ min (ji24).toNat 64) = ji26 := hji26
                                    have hji26z : (ji24) ≤ 64 → (x4_1 / 2 ^ (ji24).toNat) = ji26 := shr_small hji26
                                    replace H := Option.bind_eq_some_iff.mp H
                                    obtain ⟨t109, A270, H⟩ := H
                                    replace H : (if (Int.tmod t109 2) = 1 then (if 0 ≤ x4_1 then (if x4_1 < (x3_2.length : Int) then (if 0 ≤ x29_2 then (if 0 ≤ (Go.bits .andNot .i64 x4_1 (shl .i64 1 x29_2)) then (if (Go.bits .andNot .i64 x4_1 (shl .i64 1 x29_2)) < (x3_2.length : Int) then (impl_determinant.l1 kj18 l0 (x3_2.set (x4_1 : Int).toNat (wrap64 ((rd x3_2 x4_1) + (wrap64 ((wrap64 (-(rd (rd_L1 l0 (ji13)) x29_2))) * (rd x3_2 (Go.bits .andNot .i64 x4_1 (shl .i64 1 x29_2)))))))) x4_1 (rd_L1 l0 (ji13)) ((rd_L1 l0 (ji13)).length : Int) ji24) else (none)) else (none)) else (none)) else (none)) else (none)) else (if 0 ≤ x4_1 then (if x4_1 < (x3_2.length : Int) then (if 0 ≤ x29_2 then (if 0 ≤ (Go.bits .andNot .i64 x4_1 (shl .i64 1 x29_2)) then (if (Go.bits .andNot .i64 x4_1 (shl .i64 1 x29_2)) < (x3_2.length : Int) then (impl_determinant.l1 kj18 l0 (x3_2.set (x4_1 : Int).toNat (wrap64 ((rd x3_2 x4_1) + (wrap64 ((rd (rd_L1 l0 (ji13)) x29_2) * (rd x3_2 (Go.bits .andNot .i64 x4_1 (shl .i64 1 x29_2)))))))) x4_1 (rd_L1 l0 (ji13)) ((rd_L1 l0 (ji13)).length : Int) ji24) else (none)) else (none)) else (none)) else (none)) else (none))) = some r := H
                                    have A27 := Aside0.mk A270
                                    clear A270
                                    by_cases c28 : (Int.tmod t109 2) = 1
                                    · rw [if_pos c28] at H
                                      have c28b0 : ((Int.tmod t109 2) == 1) = true := beq_iff_eq.mpr c28
                                      have c28b1 : ((Int.tmod t109 2) != 1) = false := bne_eq_false_iff_eq.mpr c28
                                      clear c28
                                      by_cases c29 : 0 ≤ x4_1
                                      · rw [if_pos c29] at H
                                        have c29b0 : decide (0 ≤ x4_1) = true := decide_eq_true c29
                                        clear c29
                                        by_cases c30 : x4_1 < (x3_2.length : Int)
                                        · rw [if_pos c30] at H
                                          have c30b0 : decide (x4_1 < (x3_2.length : Int)) = true := decide_eq_true c30
                                          clear c30
                                          by_cases c31 : 0 ≤ x29_2
                                          · rw [if_pos c31] at H
                                            have c31b0 := eq_true c31
                                            have c31b1 : decide (0 ≤ x29_2) = true := decide_eq_true c31
                                            clear c31
                                            obtain ⟨ji32, hji32⟩ : ∃ j_ : Int, (shl .i64 1 x29_2) = j_ := ⟨_, rfl⟩
                                            replace H : (if 0 ≤ (Go.bits .andNot .i64 x4_1 (ji32)) then (if (Go.bits .andNot .i64 x4_1 (ji32)) < (x3_2.length : Int) then (impl_determinant.l1 kj18 l0 (x3_2.set (x4_1 : Int).toNat (wrap64 ((rd x3_2 x4_1) + (wrap64 ((wrap64 (-(rd (rd_L1 l0 (ji13)) x29_2))) * (rd x3_2 (Go.bits .andNot .i64 x4_1 (ji32)))))))) x4_1 (rd_L1 l0 (ji13)) ((rd_L1 l0 (ji13)).length : Int) ji24) else (none)) else (none)) = some r := by first | (rw [hji32] at H; exact H) | (simp only [hji32] at H ⊢; exact H)
                                            (try rw [hji32] at A27)
                                            have hji32_ : (IntKind.i64.wrap (1 * 2 ^ min x29_2.toNat 64)) = ji32 := hji32
                                            have hji32z : x29_2 ≤ 64 → (IntKind.i64.wrap (1 * 2 ^ x29_2.toNat)) = ji32 := shl_small hji32
                                            have hji32u : (IntKind.i64.wrap (2 ^ min x29_2.toNat 64)) = ji32 := by have h_ := hji32_; rw [Int.one_mul] at h_; exact h_
                                            have hji32v : x29_2 ≤ 64 → (IntKind.i64.wrap (2 ^ x29_2.toNat)) = ji32 := fun hle_ => by have h_ := hji32z hle_; rw [Int.one_mul] at h_; exact h_
                                            have hji32y : (wrap64 (1 * 2 ^ min x29_2.toNat 64)) = ji32 := (i64_w _).symm.trans hji32_
                                            have hji32x : x29_2 ≤ 64 → (wrap64 (1 * 2 ^ x29_2.toNat)) = ji32 := fun h_ => (i64_w _).symm.trans (hji32z h_)
                                            by_cases c33 : 0 ≤ (Go.bits .andNot .i64 x4_1 (ji32))
                                            · rw [if_pos c33] at H
                                              have c33b0 : decide (0 ≤ (Go.bits .andNot .i64 x4_1 (ji32))) = true := decide_eq_true c33
                                              clear c33
                                              by_cases c34 : (Go.bits .andNot .i64 x4_1 (ji32)) < (x3_2.length : Int)
                                              · rw [if_pos c34] at H
                                                have c34b0 : decide ((Go.bits .andNot .i64 x4_1 (ji32)) < (x3_2.length : Int)) = true := decide_eq_true c34
                                                clear c34
                                                obtain ⟨y112, hy112⟩ : ∃ y_ : List Int, y_ = (x3_2.set (x4_1 : Int).toNat (wrap64 ((rd x3_2 x4_1) + (wrap64 ((wrap64 (-(rd (rd_L1 l0 (ji13)) x29_2))) * (rd x3_2 (Go.bits .andNot .i64 x4_1 (ji32)))))))) := ⟨_, rfl⟩
                                                replace H : (impl_determinant.l1 kj18 l0 y112 x4_1 (rd_L1 l0 (ji13)) ((rd_L1 l0 (ji13)).length : Int) ji24) = some r := by first | (rw [hy112]; with_reducible exact H) | (have H2_ := (Option.bind_some _ _).symm.trans H; rw [hy112]; with_reducible exact H2_) | (have H2_ := (Option.bind_some _ _).symm.trans H; with_reducible exact H2_) | with_reducible exact H | (rw [hy112]; exact H) | exact H
                                                have Ny112 := Aside0.mk hy112
                                                clear hy112
                                                have H' := Aside0.mk H
                                                clear H
                                                try go_wp2_with (first | ((with_reducible refine gate_callee (f := 100) rfl ?_); refine goesL_ (some 48) rfl rfl Try.func100 (by kernel_rfl) rfl #[.int .u64 (IntKind.u64.wrap (ji26))] rfl (by (try simp only [List.map_toArray, List.map_cons, List.map_nil]); first | done | (simp only [hji26]; rfl) | rfl | (simp only [List.length_drop, List.length_take]; rfl)) ?_; (with_reducible refine (bits_OnesCount.calls (IntKind.u64.wrap (ji26)) t109 _ A27.out).mono ?_); rintro e w' ⟨rfl, ⟨nd, rfl⟩⟩; refine ⟨_, rfl, ?_⟩; (try (rw [drewN_self wc]; generalize hq_ : World.drewN wc _ = wc; have n0_ : Aside0 (Kd.R (Kd.int .i64) 3 wc w.heap.size (fun _ => True) (.slice (some ⟨go6, 0, none⟩) x3_2.length co6) x3_2) := ⟨by rw [← hq_]; exact (by (with_reducible repeat (first | apply Kd.R_alloc | apply Kd.R_drewN | apply Kd.R_drew)); exact HO_3.out)⟩; have n1_ : Aside0 (Below w.heap.size w wc) := ⟨by rw [← hq_]; exact (by repeat (first | (with_reducible first | exact HB.out | apply below_alloc | apply pw_below_drewN | apply below_drew1) | exact HB.out))⟩; clear HO_3 HB hq_; have HO_3 := n0_; have HB := n1_; clear n0_ n1_))))
                                                have n0_ := Aside0.mk (Kd.R_drew HO_3.out)
                                                have n1_ := Aside0.mk (below_drew1 HB.out)
                                                clear HO_3
                                                clear HB
                                                have HO_3 := n0_
                                                have HB := n1_
                                                clear n0_ n1_
                                                have p110 : 0 ≤ (x4_1 : Int) := of_decide_eq_true (by first | (with_reducible assumption) | assumption)
                                                have q110 : x4_1 < (x3_2.length : Int) := of_decide_eq_true (by first | (with_reducible assumption) | assumption)
                                                obtain ⟨ad110, e110, hx110_0⟩ := Kd.at_int (Kd.R_reads' HO_3.out).2.2 x4_1 p110 q110
                                                obtain rfl : (⟨go6, 0, none⟩ : Addr) = ad110 := (by injection e110)
                                                (first | simp only [add_plain] at hx110_0 | simp only [add_at] at hx110_0 | simp only [Addr.add, Nat.zero_add] at hx110_0 | skip)
                                                replace p110 := eq_true p110
                                                replace q110 := eq_true q110
                                                have p111 : 0 ≤ ((Go.bits .andNot .i64 x4_1 (ji32)) : Int) := of_decide_eq_true (by first | (with_reducible assumption) | assumption)
                                                have q111 : (Go.bits .andNot .i64 x4_1 (ji32)) < (x3_2.length : Int) := of_decide_eq_true (by first | (with_reducible assumption) | assumption)
                                                obtain ⟨ad111, e111, hx111_0⟩ := Kd.at_int (Kd.R_reads' HO_3.out).2.2 (Go.bits .andNot .i64 x4_1 (ji32)) p111 q111
                                                obtain rfl : (⟨go6, 0, none⟩ : Addr) = ad111 := (by injection e111)
                                                (first | simp only [add_plain] at hx111_0 | simp only [add_at] at hx111_0 | simp only [Addr.add, Nat.zero_add] at hx111_0 | skip)
                                                replace p111 := eq_true p111
                                                replace q111 := eq_true q111
                                                have p35 : 0 ≤ (x4_1 : Int) := of_decide_eq_true (by first | (with_reducible assumption) | assumption)
                                                have q35 : (x4_1 : Int) < ((x3_2.length : Int) : Int) := of_decide_eq_true (by first | (with_reducible assumption) | assumption)
                                                obtain ⟨hx35_0, hf35_0⟩ := Kd.R_celln 0 HO_3.out (x4_1 : Int) p35 q35
                                                replace p35 := eq_true p35
                                                replace q35 := eq_true q35
                                                have HP37 := Kd.R_putn HO_3.out (x4_1 : Int) (wrap64 ((rd x3_2 x4_1) + (wrap64 ((wrap64 (-(rd (rd_L1 l0 (ji13)) x29_2))) * (rd x3_2 (Go.bits .andNot .i64 x4_1 (ji32)))))))
                                                rw [← Ny112.out] at HP37
                                                have HQ37 := Aside0.mk HP37
                                                clear HP37
                                                refine start_ (n := 16) (S := fun w' => w'.cell? ⟨go6, (x4_1).toNat, none⟩ = some (.int .i64 (rd x3_2 x4_1)) ∧ w'.cell? ⟨go6, ((Go.bits .andNot .i64 x4_1 (ji32))).toNat, none⟩ = some (.int .i64 (rd x3_2 (Go.bits .andNot .i64 x4_1 (ji32))))) (ds := [15]) #[false, false, false, false, false, false, false, false, false, false, false, false, false, false, false, false] (by kernel_rfl) rfl rfl ⟨hx110_0, hx111_0⟩ (fun hHeld => ?_); refine with_tabW impl_determinant.tab13 impl_determinant.bits13 (fun HT_ HW_ => ?_)
                                                generalize wc.drew = w36 at HO_3 HB HQ37 hf35_0 hx110_0 hx111_0 hx35_0 hHeld ⊢
                                                refine pure_ (i := 0) (N := some 53) (v := ?_) (a' := ?_) #[true, false, false, false, false, false, false, false, false, false, false, false, false, false, false, false] rfl rfl (any_of HT_.out (by kernel_rfl)) (fun _ _ _ h => h) (Or.inl ⟨by rfl, ?_⟩) ?_ ?_
                                                rotate_left
                                                · intro w'
                                                  go_simp
                                                  with_reducible rfl
                                                rotate_left
                                                · simp only [Act.put, List.setIfInBounds_toArray, List.set_cons_zero, List.set_cons_succ, i64_w, i32_w]
                                                  rfl
                                                refine pure_ (i := 1) (N := some 54) (v := ?_) (a' := ?_) #[true, true, false, false, false, false, false, false, false, false, false, false, false, false, false, false] rfl rfl (any_of HT_.out (by kernel_rfl)) (fun _ _ _ h => h) (Or.inl ⟨by rfl, ?_⟩) ?_ ?_
                                                rotate_left
                                                · intro w'
                                                  go_simp
                                                  with_reducible rfl
                                                rotate_left
                                                · simp only [Act.put, List.setIfInBounds_toArray, List.set_cons_zero, List.set_cons_succ, i64_w, i32_w]
                                                  rfl
                                                refine pure_ (i := 2) (N := some 55) (v := ?_) (a' := ?_) #[true, true, true, false, false, false, false, false, false, false, false, false, false, false, false, false] rfl rfl (any_of HT_.out (by kernel_rfl)) (fun _ _ _ h => h) (Or.inl ⟨by rfl, ?_⟩) ?_ ?_
                                                rotate_left
                                                · intro w'
                                                  go_simp
                                                  with_reducible rfl
                                                rotate_left
                                                · simp only [Act.put, List.setIfInBounds_toArray, List.set_cons_zero, List.set_cons_succ, i64_w, i32_w]
                                                  rfl
                                                refine pure_ (i := 4) (N := some 57) (v := ?_) (a' := ?_) #[true, true, true, false, true, false, false, false, false, false, false, false, false, false, false, false] rfl rfl (any_of HT_.out (by kernel_rfl)) (fun _ _ _ h => h) (Or.inl ⟨by rfl, ?_⟩) ?_ ?_
                                                rotate_left
                                                · intro w'
                                                  go_simp
                                                  with_reducible rfl
                                                rotate_left
                                                · simp only [Act.put, List.setIfInBounds_toArray, List.set_cons_zero, List.set_cons_succ, i64_w, i32_w]
                                                  rfl
                                                refine pure_ (i := 5) (N := some 58) (v := ?_) (a' := ?_) #[true, true, true, false, true, true, false, false, false, false, false, false, false, false, false, false] rfl rfl (any_of HT_.out (by kernel_rfl)) (fun _ _ _ h => h) (Or.inl ⟨by rfl, ?_⟩) ?_ ?_
                                                rotate_left
                                                · intro w'
                                                  go_simp
                                                  with_reducible rfl
                                                rotate_left
                                                · simp only [Act.put, List.setIfInBounds_toArray, List.set_cons_zero, List.set_cons_succ, i64_w, i32_w]
                                                  rfl
                                                refine pure_ (i := 6) (N := some 59) (v := ?_) (a' := ?_) #[true, true, true, false, true, true, true, false, false, false, false, false, false, false, false, false] rfl rfl (any_of HT_.out (by kernel_rfl)) (fun _ _ _ h => h) (Or.inl ⟨by rfl, ?_⟩) ?_ ?_
                                                rotate_left
                                                · intro w'
                                                  go_simp
                                                  with_reducible rfl
                                                rotate_left
                                                · simp only [Act.put, List.setIfInBounds_toArray, List.set_cons_zero, List.set_cons_succ, i64_w, i32_w]
                                                  rfl
                                                refine pure_ (i := 7) (N := some 60) (v := ?_) (a' := ?_) #[true, true, true, false, true, true, true, true, false, false, false, false, false, false, false, false] rfl rfl (any_of HT_.out (by kernel_rfl)) (fun _ _ _ h => h) (Or.inl ⟨by rfl, ?_⟩) ?_ ?_
                                                rotate_left
                                                · intro w'
                                                  go_simp
                                                  with_reducible rfl
                                                rotate_left
                                                · simp only [Act.put, List.setIfInBounds_toArray, List.set_cons_zero, List.set_cons_succ, i64_w, i32_w]
                                                  rfl
                                                refine pure_ (i := 8) (N := some 61) (v := ?_) (a' := ?_) #[true, true, true, false, true, true, true, true, true, false, false, false, false, false, false, false] rfl rfl (any_of HT_.out (by kernel_rfl)) (fun _ _ _ h => h) (Or.inl ⟨by rfl, ?_⟩) ?_ ?_
                                                rotate_left
                                                · intro w'
                                                  go_simp
                                                  with_reducible rfl
                                                rotate_left
                                                · simp only [Act.put, List.setIfInBounds_toArray, List.set_cons_zero, List.set_cons_succ, i64_w, i32_w]
                                                  rfl
                                                refine pure_ (i := 9) (N := some 62) (v := ?_) (a' := ?_) #[true, true, true, false, true, true, true, true, true, true, false, false, false, false, false, false] rfl rfl (any_of HT_.out (by kernel_rfl)) (fun _ _ _ h => h) (Or.inl ⟨by rfl, ?_⟩) ?_ ?_
                                                rotate_left
                                                · intro w'
                                                  go_simp
                                                  with_reducible rfl
                                                rotate_left
                                                · simp only [Act.put, List.setIfInBounds_toArray, List.set_cons_zero, List.set_cons_succ, i64_w, i32_w]
                                                  rfl
                                                refine pure_ (i := 10) (N := some 63) (v := ?_) (a' := ?_) #[true, true, true, false, true, true, true, true, true, true, true, false, false, false, false, false] rfl rfl (any_of HT_.out (by kernel_rfl)) (fun _ _ _ h => h) (Or.inl ⟨by rfl, ?_⟩) ?_ ?_
                                                rotate_left
                                                · intro w'
                                                  go_simp
                                                  with_reducible rfl
                                                rotate_left
                                                · simp only [Act.put, List.setIfInBounds_toArray, List.set_cons_zero, List.set_cons_succ, i64_w, i32_w]
                                                  rfl
                                                refine take_ (i := 3) (N := some 56) (v := ?_) (a' := ?_) #[true, true, true, true, true, true, true, true, true, true, true, false, false, false, false, false] rfl rfl (take_ofW HT_.out HW_.out (by kernel_rfl)) (fun _ _ _ h => h) (Or.inl ⟨by rfl, ?_⟩) hHeld ?_ ?_
                                                rotate_left
                                                · rintro w' ⟨s0, s1⟩
                                                  go_simp
                                                  with_reducible rfl
                                                rotate_left
                                                · simp only [Act.put, List.setIfInBounds_toArray, List.set_cons_zero, List.set_cons_succ, i64_w, i32_w]
                                                  rfl
                                                refine take_ (i := 11) (N := some 64) (v := ?_) (a' := ?_) #[true, true, true, true, true, true, true, true, true, true, true, true, false, false, false, false] rfl rfl (take_ofW HT_.out HW_.out (by kernel_rfl)) (fun _ _ _ h => h) (Or.inl ⟨by rfl, ?_⟩) hHeld ?_ ?_
                                                rotate_left
                                                · rintro w' ⟨s0, s1⟩
                                                  go_simp
                                                  with_reducible rfl
                                                rotate_left
                                                · simp only [Act.put, List.setIfInBounds_toArray, List.set_cons_zero, List.set_cons_succ, i64_w, i32_w]
                                                  rfl
                                                refine pure_ (i := 12) (N := some 65) (v := ?_) (a' := ?_) #[true, true, true, true, true, true, true, true, true, true, true, true, true, false, false, false] rfl rfl (any_of HT_.out (by kernel_rfl)) (fun _ _ _ h => h) (Or.inl ⟨by rfl, ?_⟩) ?_ ?_
                                                rotate_left
                                                · intro w'
                                                  go_simp
                                                  with_reducible rfl
                                                rotate_left
                                                · simp only [Act.put, List.setIfInBounds_toArray, List.set_cons_zero, List.set_cons_succ, i64_w, i32_w]
                                                  rfl
                                                refine pure_ (i := 13) (N := some 66) (v := ?_) (a' := ?_) #[true, true, true, true, true, true, true, true, true, true, true, true, true, true, false, false] rfl rfl (any_of HT_.out (by kernel_rfl)) (fun _ _ _ h => h) (Or.inl ⟨by rfl, ?_⟩) ?_ ?_
                                                rotate_left
                                                · intro w'
                                                  go_simp
                                                  with_reducible rfl
                                                rotate_left
                                                · simp only [Act.put, List.setIfInBounds_toArray, List.set_cons_zero, List.set_cons_succ, i64_w, i32_w]
                                                  rfl
                                                refine pure_ (i := 14) (N := some 67) (v := ?_) (a' := ?_) #[true, true, true, true, true, true, true, true, true, true, true, true, true, true, true, false] rfl rfl (any_of HT_.out (by kernel_rfl)) (fun _ _ _ h => h) (Or.inl ⟨by rfl, ?_⟩) ?_ ?_
                                                rotate_left
                                                · intro w'
                                                  go_simp
                                                  with_reducible rfl
                                                rotate_left
                                                · simp only [Act.put, List.setIfInBounds_toArray, List.set_cons_zero, List.set_cons_succ, i64_w, i32_w]
                                                  rfl
                                                refine last_ (i := 15) (N := none) #[true, true, true, true, true, true, true, true, true, true, true, true, true, true, true, true] rfl rfl (one_of HT_.out (by kernel_rfl)) (by decide) (fun K hK => ?_)
                                                refine skip_ (w1 := ?_) (by rfl) rfl ?_ ?_
                                                rotate_left
                                                · go_simp
                                                  rfl
                                                refine hK.out _ _ ?_
                                                clear hK K
                                                refine done_ (done_of HT_.out (by kernel_rfl)) ?_
                                                try go_wp2
                                                (try simp only [← hl3_2])
                                                go_roundg kj18
                                                case measure => have := HK1.out; have := HK2.out; have := HJ18.out; omega
                                                case rel => exact ⟨(y112), (ji24), (by first | rfl | (simp; done) | (simp only [← hji24] <;> (first | rfl | simp)) | (simp [*]; done)), H', ⟨by have := HK1.out; have := HK2.out; have := HJ18.out; omega⟩, ⟨by (try simp only [hl3_1]); (try simp only [hl3_2]); (with_reducible repeat (first | apply Kd.R_alloc | apply Kd.R_drewN | apply Kd.R_drew)); exact HQ37.out⟩, ⟨by repeat (first | (with_reducible first | exact HB.out | apply below_alloc | apply pw_below_drewN | apply below_drew1 | refine below_set ?_ GB6.out) | exact HB.out)⟩⟩
                                              · rw [if_neg c34] at H
                                                exact absurd H (by simp)
                                            · rw [if_neg c33] at H
                                              exact absurd H (by simp)
                                          · rw [if_neg c31] at H
                                            exact absurd H (by simp)
                                        · rw [if_neg c30] at H
                                          exact absurd H (by simp)
                                      · rw [if_neg c29] at H
                                        exact absurd H (by simp)
                                    · rw [if_neg c28] at H
                                      have c28b0 : ((Int.tmod t109 2) == 1) = false := beq_eq_false_iff_ne.mpr c28
                                      have c28b1 : ((Int.tmod t109 2) != 1) = true := bne_iff_ne.mpr c28
                                      by_cases c38 : 0 ≤ x4_1
                                      · rw [if_pos c38] at H
                                        have c38b0 : decide (0 ≤ x4_1) = true := decide_eq_true c38
                                        clear c38
                                        by_cases c39 : x4_1 < (x3_2.length : Int)
                                        · rw [if_pos c39] at H
                                          have c39b0 : decide (x4_1 < (x3_2.length : Int)) = true := decide_eq_true c39
                                          clear c39
                                          by_cases c40 : 0 ≤ x29_2
                                          · rw [if_pos c40] at H
                                            have c40b0 := eq_true c40
                                            have c40b1 : decide (0 ≤ x29_2) = true := decide_eq_true c40
                                            clear c40
                                            obtain ⟨ji41, hji41⟩ : ∃ j_ : Int, (shl .i64 1 x29_2) = j_ := ⟨_, rfl⟩
                                            replace H : (if 0 ≤ (Go.bits .andNot .i64 x4_1 (ji41)) then (if (Go.bits .andNot .i64 x4_1 (ji41)) < (x3_2.length : Int) then (impl_determinant.l1 kj18 l0 (x3_2.set (x4_1 : Int).toNat (wrap64 ((rd x3_2 x4_1) + (wrap64 ((rd (rd_L1 l0 (ji13)) x29_2) * (rd x3_2 (Go.bits .andNot .i64 x4_1 (ji41)))))))) x4_1 (rd_L1 l0 (ji13)) ((rd_L1 l0 (ji13)).length : Int) ji24) else (none)) else (none)) = some r := by first | (rw [hji41] at H; exact H) | (simp only [hji41] at H ⊢; exact H)
                                            (try rw [hji41] at A27)
                                            have hji41_ : (IntKind.i64.wrap (1 * 2 ^ min x29_2.toNat 64)) = ji41 := hji41
                                            have hji41z : x29_2 ≤ 64 → (IntKind.i64.wrap (1 * 2 ^ x29_2.toNat)) = ji41 := shl_small hji41
                                            have hji41u : (IntKind.i64.wrap (2 ^ min x29_2.toNat 64)) = ji41 := by have h_ := hji41_; rw [Int.one_mul] at h_; exact h_
                                            have hji41v : x29_2 ≤ 64 → (IntKind.i64.wrap (2 ^ x29_2.toNat)) = ji41 := fun hle_ => by have h_ := hji41z hle_; rw [Int.one_mul] at h_; exact h_
                                            have hji41y : (wrap64 (1 * 2 ^ min x29_2.toNat 64)) = ji41 := (i64_w _).symm.trans hji41_
                                            have hji41x : x29_2 ≤ 64 → (wrap64 (1 * 2 ^ x29_2.toNat)) = ji41 := fun h_ => (i64_w _).symm.trans (hji41z h_)
                                            by_cases c42 : 0 ≤ (Go.bits .andNot .i64 x4_1 (ji41))
                                            · rw [if_pos c42] at H
                                              have c42b0 : decide (0 ≤ (Go.bits .andNot .i64 x4_1 (ji41))) = true := decide_eq_true c42
                                              clear c42
                                              by_cases c43 : (Go.bits .andNot .i64 x4_1 (ji41)) < (x3_2.length : Int)
                                              · rw [if_pos c43] at H
                                                have c43b0 : decide ((Go.bits .andNot .i64 x4_1 (ji41)) < (x3_2.length : Int)) = true := decide_eq_true c43
                                                clear c43
                                                obtain ⟨y115, hy115⟩ : ∃ y_ : List Int, y_ = (x3_2.set (x4_1 : Int).toNat (wrap64 ((rd x3_2 x4_1) + (wrap64 ((rd (rd_L1 l0 (ji13)) x29_2) * (rd x3_2 (Go.bits .andNot .i64 x4_1 (ji41)))))))) := ⟨_, rfl⟩
                                                replace H : (impl_determinant.l1 kj18 l0 y115 x4_1 (rd_L1 l0 (ji13)) ((rd_L1 l0 (ji13)).length : Int) ji24) = some r := by first | (rw [hy115]; with_reducible exact H) | (have H2_ := (Option.bind_some _ _).symm.trans H; rw [hy115]; with_reducible exact H2_) | (have H2_ := (Option.bind_some _ _).symm.trans H; with_reducible exact H2_) | with_reducible exact H | (rw [hy115]; exact H) | exact H
                                                have Ny115 := Aside0.mk hy115
                                                clear hy115
                                                have H' := Aside0.mk H
                                                clear H
                                                try go_wp2_with (first | ((with_reducible refine gate_callee (f := 100) rfl ?_); refine goesL_ (some 48) rfl rfl Try.func100 (by kernel_rfl) rfl #[.int .u64 (IntKind.u64.wrap (ji26))] rfl (by (try simp only [List.map_toArray, List.map_cons, List.map_nil]); first | done | (simp only [hji26]; rfl) | rfl | (simp only [List.length_drop, List.length_take]; rfl)) ?_; (with_reducible refine (bits_OnesCount.calls (IntKind.u64.wrap (ji26)) t109 _ A27.out).mono ?_); rintro e w' ⟨rfl, ⟨nd, rfl⟩⟩; refine ⟨_, rfl, ?_⟩; (try (rw [drewN_self wc]; generalize hq_ : World.drewN wc _ = wc; have n0_ : Aside0 (Kd.R (Kd.int .i64) 3 wc w.heap.size (fun _ => True) (.slice (some ⟨go6, 0, none⟩) x3_2.length co6) x3_2) := ⟨by rw [← hq_]; exact (by (with_reducible repeat (first | apply Kd.R_alloc | apply Kd.R_drewN | apply Kd.R_drew)); exact HO_3.out)⟩; have n1_ : Aside0 (Below w.heap.size w wc) := ⟨by rw [← hq_]; exact (by repeat (first | (with_reducible first | exact HB.out | apply below_alloc | apply pw_below_drewN | apply below_drew1) | exact HB.out))⟩; clear HO_3 HB hq_; have HO_3 := n0_; have HB := n1_; clear n0_ n1_))))
                                                have n0_ := Aside0.mk (Kd.R_drew HO_3.out)
                                                have n1_ := Aside0.mk (below_drew1 HB.out)
                                                clear HO_3
                                                clear HB
                                                have HO_3 := n0_
                                                have HB := n1_
                                                clear n0_ n1_
                                                have p113 : 0 ≤ (x4_1 : Int) := of_decide_eq_true (by first | (with_reducible assumption) | assumption)
                                                have q113 : x4_1 < (x3_2.length : Int) := of_decide_eq_true (by first | (with_reducible assumption) | assumption)
                                                obtain ⟨ad113, e113, hx113_0⟩ := Kd.at_int (Kd.R_reads' HO_3.out).2.2 x4_1 p113 q113
                                                obtain rfl : (⟨go6, 0, none⟩ : Addr) = ad113 := (by injection e113)
                                                (first | simp only [add_plain] at hx113_0 | simp only [add_at] at hx113_0 | simp only [Addr.add, Nat.zero_add] at hx113_0 | skip)
                                                replace p113 := eq_true p113
                                                replace q113 := eq_true q113
                                                have p114 : 0 ≤ ((Go.bits .andNot .i64 x4_1 (ji41)) : Int) := of_decide_eq_true (by first | (with_reducible assumption) | assumption)
                                                have q114 : (Go.bits .andNot .i64 x4_1 (ji41)) < (x3_2.length : Int) := of_decide_eq_true (by first | (with_reducible assumption) | assumption)
                                                obtain ⟨ad114, e114, hx114_0⟩ := Kd.at_int (Kd.R_reads' HO_3.out).2.2 (Go.bits .andNot .i64 x4_1 (ji41)) p114 q114
                                                obtain rfl : (⟨go6, 0, none⟩ : Addr) = ad114 := (by injection e114)
                                                (first | simp only [add_plain] at hx114_0 | simp only [add_at] at hx114_0 | simp only [Addr.add, Nat.zero_add] at hx114_0 | skip)
                                                replace p114 := eq_true p114
                                                replace q114 := eq_true q114
                                                have p44 : 0 ≤ (x4_1 : Int) := of_decide_eq_true (by first | (with_reducible assumption) | assumption)
                                                have q44 : (x4_1 : Int) < ((x3_2.length : Int) : Int) := of_decide_eq_true (by first | (with_reducible assumption) | assumption)
                                                obtain ⟨hx44_0, hf44_0⟩ := Kd.R_celln 0 HO_3.out (x4_1 : Int) p44 q44
                                                replace p44 := eq_true p44
                                                replace q44 := eq_true q44
                                                have HP46 := Kd.R_putn HO_3.out (x4_1 : Int) (wrap64 ((rd x3_2 x4_1) + (wrap64 ((rd (rd_L1 l0 (ji13)) x29_2) * (rd x3_2 (Go.bits .andNot .i64 x4_1 (ji41)))))))
                                                rw [← Ny115.out] at HP46
                                                have HQ46 := Aside0.mk HP46
                                                clear HP46
                                                refine start_ (n := 16) (S := fun w' => w'.cell? ⟨go6, (x4_1).toNat, none⟩ = some (.int .i64 (rd x3_2 x4_1)) ∧ w'.cell? ⟨go6, ((Go.bits .andNot .i64 x4_1 (ji41))).toNat, none⟩ = some (.int .i64 (rd x3_2 (Go.bits .andNot .i64 x4_1 (ji41))))) (ds := [15]) #[false, false, false, false, false, false, false, false, false, false, false, false, false, false, false, false] (by kernel_rfl) rfl rfl ⟨hx113_0, hx114_0⟩ (fun hHeld => ?_); refine with_tabW impl_determinant.tab13 impl_determinant.bits13 (fun HT_ HW_ => ?_)
                                                generalize wc.drew = w45 at HO_3 HB HQ46 hf44_0 hx113_0 hx114_0 hx44_0 hHeld ⊢
                                                refine pure_ (i := 0) (N := some 53) (v := ?_) (a' := ?_) #[true, false, false, false, false, false, false, false, false, false, false, false, false, false, false, false] rfl rfl (any_of HT_.out (by kernel_rfl)) (fun _ _ _ h => h) (Or.inl ⟨by rfl, ?_⟩) ?_ ?_
                                                rotate_left
                                                · intro w'
                                                  go_simp
                                                  with_reducible rfl
                                                rotate_left
                                                · simp only [Act.put, List.setIfInBounds_toArray, List.set_cons_zero, List.set_cons_succ, i64_w, i32_w]
                                                  rfl
                                                refine pure_ (i := 1) (N := some 54) (v := ?_) (a' := ?_) #[true, true, false, false, false, false, false, false, false, false, false, false, false, false, false, false] rfl rfl (any_of HT_.out (by kernel_rfl)) (fun _ _ _ h => h) (Or.inl ⟨by rfl, ?_⟩) ?_ ?_
                                                rotate_left
                                                · intro w'
                                                  go_simp
                                                  with_reducible rfl
                                                rotate_left
                                                · simp only [Act.put, List.setIfInBounds_toArray, List.set_cons_zero, List.set_cons_succ, i64_w, i32_w]
                                                  rfl
                                                refine pure_ (i := 2) (N := some 55) (v := ?_) (a' := ?_) #[true, true, true, false, false, false, false, false, false, false, false, false, false, false, false, false] rfl rfl (any_of HT_.out (by kernel_rfl)) (fun _ _ _ h => h) (Or.inl ⟨by rfl, ?_⟩) ?_ ?_
                                                rotate_left
                                                · intro w'
                                                  go_simp
                                                  with_reducible rfl
                                                rotate_left
                                                · simp only [Act.put, List.setIfInBounds_toArray, List.set_cons_zero, List.set_cons_succ, i64_w, i32_w]
                                                  rfl
                                                refine pure_ (i := 4) (N := some 57) (v := ?_) (a' := ?_) #[true, true, true, false, true, false, false, false, false, false, false, false, false, false, false, false] rfl rfl (any_of HT_.out (by kernel_rfl)) (fun _ _ _ h => h) (Or.inl ⟨by rfl, ?_⟩) ?_ ?_
                                                rotate_left
                                                · intro w'
                                                  go_simp
                                                  with_reducible rfl
                                                rotate_left
                                                · simp only [Act.put, List.setIfInBounds_toArray, List.set_cons_zero, List.set_cons_succ, i64_w, i32_w]
                                                  rfl
                                                refine pure_ (i := 5) (N := some 58) (v := ?_) (a' := ?_) #[true, true, true, false, true, true, false, false, false, false, false, false, false, false, false, false] rfl rfl (any_of HT_.out (by kernel_rfl)) (fun _ _ _ h => h) (Or.inl ⟨by rfl, ?_⟩) ?_ ?_
                                                rotate_left
                                                · intro w'
                                                  go_simp
                                                  with_reducible rfl
                                                rotate_left
                                                · simp only [Act.put, List.setIfInBounds_toArray, List.set_cons_zero, List.set_cons_succ, i64_w, i32_w]
                                                  rfl
                                                refine pure_ (i := 6) (N := some 59) (v := ?_) (a' := ?_) #[true, true, true, false, true, true, true, false, false, false, false, false, false, false, false, false] rfl rfl (any_of HT_.out (by kernel_rfl)) (fun _ _ _ h => h) (Or.inl ⟨by rfl, ?_⟩) ?_ ?_
                                                rotate_left
                                                · intro w'
                                                  go_simp
                                                  with_reducible rfl
                                                rotate_left
                                                · simp only [Act.put, List.setIfInBounds_toArray, List.set_cons_zero, List.set_cons_succ, i64_w, i32_w]
                                                  rfl
                                                refine pure_ (i := 7) (N := some 60) (v := ?_) (a' := ?_) #[true, true, true, false, true, true, true, true, false, false, false, false, false, false, false, false] rfl rfl (any_of HT_.out (by kernel_rfl)) (fun _ _ _ h => h) (Or.inl ⟨by rfl, ?_⟩) ?_ ?_
                                                rotate_left
                                                · intro w'
                                                  go_simp
                                                  with_reducible rfl
                                                rotate_left
                                                · simp only [Act.put, List.setIfInBounds_toArray, List.set_cons_zero, List.set_cons_succ, i64_w, i32_w]
                                                  rfl
                                                refine pure_ (i := 8) (N := some 61) (v := ?_) (a' := ?_) #[true, true, true, false, true, true, true, true, true, false, false, false, false, false, false, false] rfl rfl (any_of HT_.out (by kernel_rfl)) (fun _ _ _ h => h) (Or.inl ⟨by rfl, ?_⟩) ?_ ?_
                                                rotate_left
                                                · intro w'
                                                  go_simp
                                                  with_reducible rfl
                                                rotate_left
                                                · simp only [Act.put, List.setIfInBounds_toArray, List.set_cons_zero, List.set_cons_succ, i64_w, i32_w]
                                                  rfl
                                                refine pure_ (i := 9) (N := some 62) (v := ?_) (a' := ?_) #[true, true, true, false, true, true, true, true, true, true, false, false, false, false, false, false] rfl rfl (any_of HT_.out (by kernel_rfl)) (fun _ _ _ h => h) (Or.inl ⟨by rfl, ?_⟩) ?_ ?_
                                                rotate_left
                                                · intro w'
                                                  go_simp
                                                  with_reducible rfl
                                                rotate_left
                                                · simp only [Act.put, List.setIfInBounds_toArray, List.set_cons_zero, List.set_cons_succ, i64_w, i32_w]
                                                  rfl
                                                refine pure_ (i := 10) (N := some 63) (v := ?_) (a' := ?_) #[true, true, true, false, true, true, true, true, true, true, true, false, false, false, false, false] rfl rfl (any_of HT_.out (by kernel_rfl)) (fun _ _ _ h => h) (Or.inl ⟨by rfl, ?_⟩) ?_ ?_
                                                rotate_left
                                                · intro w'
                                                  go_simp
                                                  with_reducible rfl
                                                rotate_left
                                                · simp only [Act.put, List.setIfInBounds_toArray, List.set_cons_zero, List.set_cons_succ, i64_w, i32_w]
                                                  rfl
                                                refine take_ (i := 3) (N := some 56) (v := ?_) (a' := ?_) #[true, true, true, true, true, true, true, true, true, true, true, false, false, false, false, false] rfl rfl (take_ofW HT_.out HW_.out (by kernel_rfl)) (fun _ _ _ h => h) (Or.inl ⟨by rfl, ?_⟩) hHeld ?_ ?_
                                                rotate_left
                                                · rintro w' ⟨s0, s1⟩
                                                  go_simp
                                                  with_reducible rfl
                                                rotate_left
                                                · simp only [Act.put, List.setIfInBounds_toArray, List.set_cons_zero, List.set_cons_succ, i64_w, i32_w]
                                                  rfl
                                                refine take_ (i := 11) (N := some 64) (v := ?_) (a' := ?_) #[true, true, true, true, true, true, true, true, true, true, true, true, false, false, false, false] rfl rfl (take_ofW HT_.out HW_.out (by kernel_rfl)) (fun _ _ _ h => h) (Or.inl ⟨by rfl, ?_⟩) hHeld ?_ ?_
                                                rotate_left
                                                · rintro w' ⟨s0, s1⟩
                                                  go_simp
                                                  with_reducible rfl
                                                rotate_left
                                                · simp only [Act.put, List.setIfInBounds_toArray, List.set_cons_zero, List.set_cons_succ, i64_w, i32_w]
                                                  rfl
                                                refine pure_ (i := 12) (N := some 65) (v := ?_) (a' := ?_) #[true, true, true, true, true, true, true, true, true, true, true, true, true, false, false, false] rfl rfl (any_of HT_.out (by kernel_rfl)) (fun _ _ _ h => h) (Or.inl ⟨by rfl, ?_⟩) ?_ ?_
                                                rotate_left
                                                · intro w'
                                                  go_simp
                                                  with_reducible rfl
                                                rotate_left
                                                · simp only [Act.put, List.setIfInBounds_toArray, List.set_cons_zero, List.set_cons_succ, i64_w, i32_w]
                                                  rfl
                                                refine pure_ (i := 13) (N := some 66) (v := ?_) (a' := ?_) #[true, true, true, true, true, true, true, true, true, true, true, true, true, true, false, false] rfl rfl (any_of HT_.out (by kernel_rfl)) (fun _ _ _ h => h) (Or.inl ⟨by rfl, ?_⟩) ?_ ?_
                                                rotate_left
                                                · intro w'
                                                  go_simp
                                                  with_reducible rfl
                                                rotate_left
                                                · simp only [Act.put, List.setIfInBounds_toArray, List.set_cons_zero, List.set_cons_succ, i64_w, i32_w]
                                                  rfl
                                                refine pure_ (i := 14) (N := some 67) (v := ?_) (a' := ?_) #[true, true, true, true, true, true, true, true, true, true, true, true, true, true, true, false] rfl rfl (any_of HT_.out (by kernel_rfl)) (fun _ _ _ h => h) (Or.inl ⟨by rfl, ?_⟩) ?_ ?_
                                                rotate_left
                                                · intro w'
                                                  go_simp
                                                  with_reducible rfl
                                                rotate_left
                                                · simp only [Act.put, List.setIfInBounds_toArray, List.set_cons_zero, List.set_cons_succ, i64_w, i32_w]
                                                  rfl
                                                refine last_ (i := 15) (N := none) #[true, true, true, true, true, true, true, true, true, true, true, true, true, true, true, true] rfl rfl (one_of HT_.out (by kernel_rfl)) (by decide) (fun K hK => ?_)
                                                refine skip_ (w1 := ?_) (by rfl) rfl ?_ ?_
                                                rotate_left
                                                · go_simp
                                                  rfl
                                                refine hK.out _ _ ?_
                                                clear hK K
                                                refine done_ (done_of HT_.out (by kernel_rfl)) ?_
                                                try go_wp2
                                                (try simp only [← hl3_2])
                                                go_roundg kj18
                                                case measure => have := HK1.out; have := HK2.out; have := HJ18.out; omega
                                                case rel => exact ⟨(y115), (ji24), (by first | rfl | (simp; done) | (simp only [← hji24] <;> (first | rfl | simp)) | (simp [*]; done)), H', ⟨by have := HK1.out; have := HK2.out; have := HJ18.out; omega⟩, ⟨by (try simp only [hl3_1]); (try simp only [hl3_2]); (with_reducible repeat (first | apply Kd.R_alloc | apply Kd.R_drewN | apply Kd.R_drew)); exact HQ46.out⟩, ⟨by repeat (first | (with_reducible first | exact HB.out | apply below_alloc | apply pw_below_drewN | apply below_drew1 | refine below_set ?_ GB6.out) | exact HB.out)⟩⟩
                                              · rw [if_neg c43] at H
                                                exact absurd H (by simp)
                                            · rw [if_neg c42] at H
                                              exact absurd H (by simp)
                                          · rw [if_neg c40] at H
                                            exact absurd H (by simp)
                                        · rw [if_neg c39] at H
                                          exact absurd H (by simp)
                                      · rw [if_neg c38] at H
                                        exact absurd H (by simp)
                                  · rw [if_neg c25] at H
                                    exact absurd H (by simp)
                          · rw [if_neg c18] at H
                            exact absurd H (by simp)
                        · rw [if_neg c17] at H
                          exact absurd H (by simp)
                      · rw [if_neg c16] at H
                        have c16b0 : decide (x29_2 < ((rd_L1 l0 (ji13)).length : Int)) = false := decide_eq_false c16
                        clear c16
                        have H' := Aside0.mk H
                        clear H
                        go_wp2
                        (try simp only [← hl3_1, ← hl3_2])
                        go_roundg k2
                        case measure => have := HK1.out; have := HK2.out; omega
                        case rel => exact ⟨(x3_2), (wrap64 (x4_1 + 1)), (by first | rfl | (simp; done) | (simp [*]; done)), H', ⟨by have := HK1.out; have := HK2.out; omega⟩, ⟨by (try simp only [hl3_1]); (try simp only [hl3_2]); (with_reducible repeat (first | apply Kd.R_alloc | apply Kd.R_drewN | apply Kd.R_drew)); exact HO_3.out⟩, ⟨by repeat (first | (with_reducible first | exact HB.out | apply below_alloc | apply pw_below_drewN | apply below_drew1) | exact HB.out)⟩⟩
                · rw [if_neg c15] at H
                  exact absurd H (by simp)
              · rw [if_neg c14] at H
                exact absurd H (by simp)
            · rw [if_neg c11] at H
              have c11b0 : decide (x4_1 < (x3_1.length : Int)) = false := decide_eq_false c11
              clear c11
              obtain ⟨ji47, hji47⟩ : ∃ j_ : Int, (wrap64 ((x3_1.length : Int) - 1)) = j_ := ⟨_, rfl⟩
              replace H : (if 0 ≤ (ji47) then (if (ji47) < (x3_1.length : Int) then (some (rd x3_1 (ji47))) else (none)) else (none)) = some r := by first | (rw [hji47] at H; exact H) | (simp only [hji47] at H ⊢; exact H)
              have hji47w : (IntKind.i64.wrap ((x3_1.length : Int) - 1)) = ji47 := (i64_w _).trans hji47
              by_cases c48 : 0 ≤ (ji47)
              · rw [if_pos c48] at H
                have c48b0 : decide (0 ≤ (ji47)) = true := decide_eq_true c48
                clear c48
                by_cases c49 : (ji47) < (x3_1.length : Int)
                · rw [if_pos c49] at H
                  have c49b0 : decide ((ji47) < (x3_1.length : Int)) = true := decide_eq_true c49
                  clear c49
                  obtain rfl := Option.some.inj H
                  have p105 : 0 ≤ ((ji47) : Int) := of_decide_eq_true (by first | (with_reducible assumption) | assumption)
                  have q105 : (ji47) < (x3_1.length : Int) := of_decide_eq_true (by first | (with_reducible assumption) | assumption)
                  obtain ⟨ad105, e105, hx105_0⟩ := Kd.at_int (Kd.R_reads' HO_3.out).2.2 (ji47) p105 q105
                  obtain rfl : (⟨go6, 0, none⟩ : Addr) = ad105 := (by injection e105)
                  (first | simp only [add_plain] at hx105_0 | simp only [add_at] at hx105_0 | simp only [Addr.add, Nat.zero_add] at hx105_0 | skip)
                  replace p105 := eq_true p105
                  replace q105 := eq_true q105
                  go_wp2
                  go_ret
                  exact ⟨by first | rfl | (simp [errW_none, errW_some] <;> rfl) | (simp only [← hji2, ← hji47]; first | rfl | (simp [errW_none, errW_some] <;> rfl)) | (simp [*, errW_none, errW_some] <;> rfl), by repeat (first | (with_reducible first | exact HB.out | apply below_alloc | apply pw_below_drewN | apply below_drew1) | exact HB.out)⟩
                · rw [if_neg c49] at H
                  exact absurd H (by simp)
              · rw [if_neg c48] at H
                exact absurd H (by simp)
      · rw [if_neg c5] at H
        exact absurd H (by simp)
    · rw [if_neg c4] at H
      exact absurd H (by simp)
  · rw [if_neg c3] at H
    exact absurd H (by simp)

end Go.Proofs.Ytbenbfhpbnepmaa.P

namespace Go.Proofs.Ytbenbfhpbnepmaa.P
open Go.RowKit Go.Proofs.YtbenbfhpbnepmaaW.PrintWords Go.Proofs.YtbenbfhpbnepmaaW.PrintLast Go.Proofs.YtbenbfhpbnepmaaW.PrintMore
attribute [local go_sem] max2_int min2_int max_two min_two max_three min_three max_four min_four   -- for this text's walks alone
set_option linter.unusedVariables false
set_option linter.unusedSimpArgs false

/-! ### impl_Determinant: function 23 -/
def impl_Determinant.f (k : Nat) (l0 : List (List Int)) : Option (Int) := (impl_SquareOk.f k l0).bind fun t101 => (if t101 = true then ((impl_determinant.f k l0).bind fun t102 => (some t102)) else (some 0))
theorem impl_Determinant.mono : ∀ a0 k, LeO (impl_Determinant.f k a0) (impl_Determinant.f (k + 1) a0) := by
  intro a0 k
  unfold impl_Determinant.f
  repeat' first
      | (with_reducible exact impl_SquareOk.mono _ _)
      | (with_reducible exact impl_determinant.mono _ _)
      | (with_reducible exact LeO.refl _)
      | (with_reducible exact LeO.none _)
      | (with_reducible refine LeO.ite ?_ ?_)
      | (with_reducible refine LeO.bind ?_ (fun _ => ?_))
      | exact impl_SquareOk.mono _ _
      | exact impl_determinant.mono _ _
      | exact LeO.none _
      | refine LeO.ite ?_ ?_
      | refine LeO.bind ?_ (fun _ => ?_)
set_option maxHeartbeats 8000000 in
set_option maxRecDepth 100000 in
theorem impl_Determinant.calls (k : Nat) (A0 : Option Addr) (c0 : Nat) (l0 : List (List Int)) (r : Int) (w : World) (hr0 : Kd.C (Kd.slice 3 (Kd.int .i64)) w A0 l0.length l0) (hc0 : l0.length ≤ c0) (h : impl_Determinant.f k l0 = some r) :
    Calls Try.prog 23 #[.slice A0 l0.length c0] w fun e w' => e = .returned (.int .i64 r) ∧ Below w.heap.size w w' := by
  have HR0 := Aside0.mk hr0
  have HC0 := Aside0.mk hc0
  clear hr0 hc0
  have HB := Aside0.mk (Below.refl w.heap.size w)
  have H : ((impl_SquareOk.f k l0).bind fun t101 => (if t101 = true then ((impl_determinant.f k l0).bind fun t102 => (some t102)) else (some 0))) = some r := h
  clear h
  replace H := Option.bind_eq_some_iff.mp H
  obtain ⟨t101, A20, H⟩ := H
  replace H : (if t101 = true then ((impl_determinant.f k l0).bind fun t102 => (some t102)) else (some 0)) = some r := H
  have A2 := Aside0.mk A20
  clear A20
  by_cases c3 : t101 = true
  · subst c3
    have H1 : ((impl_determinant.f k l0).bind fun t102 => (some t102)) = some r := by rw [if_pos rfl] at H; exact H
    clear H
    have H := H1
    clear H1
    replace H := Option.bind_eq_some_iff.mp H
    obtain ⟨t102, A40, H⟩ := H
    replace H : (some t102) = some r := H
    have A4 := Aside0.mk A40
    clear A40
    obtain rfl := Option.some.inj H
    go_enter Try.func23, Try.ntmps23
    go_wp2_with (first | ((with_reducible refine gate_callee (f := 55) rfl ?_); refine goesL_ (some 4) rfl rfl Try.func55 (by kernel_rfl) rfl #[.slice A0 l0.length c0] rfl (by (try simp only [List.map_toArray, List.map_cons, List.map_nil]); first | done | rfl | (simp only [List.length_drop, List.length_take]; rfl)) ?_; (with_reducible refine (impl_SquareOk.calls k _ _ l0 true _ ?side1 ?side2 A2.out).mono ?_); (case side1 => repeat (first | exact HR0.out | (with_reducible refine Kd.C_alloc ?_ _) | (with_reducible refine Kd.C_drewN ?_ _) | (with_reducible refine Kd.C_drew ?_))); (case side2 => exact HC0.out); rintro e w5 ⟨rfl, hb⟩; refine ⟨_, rfl, ?_⟩; have n0_ := Aside0.mk (below_step (by repeat (first | (with_reducible first | exact HB.out | apply below_alloc | apply pw_below_drewN | apply below_drew1) | exact HB.out)) hb); clear HB; have HB := n0_; clear n0_; (try clear hb); (try clear hb2); (try clear hk); (try clear hi)) | ((with_reducible refine gate_callee (f := 61) rfl ?_); refine goesL_ (some 7) rfl rfl Try.func61 (by kernel_rfl) rfl #[.slice A0 l0.length c0] rfl (by (try simp only [List.map_toArray, List.map_cons, List.map_nil]); first | done | rfl | (simp only [List.length_drop, List.length_take]; rfl)) ?_; (with_reducible refine (impl_determinant.calls k _ _ l0 t102 _ ?side1 ?side2 A4.out).mono ?_); (case side1 => repeat (first | exact (Kd.C_below HR0.out HB.out) | (with_reducible refine Kd.C_alloc ?_ _) | (with_reducible refine Kd.C_drewN ?_ _) | (with_reducible refine Kd.C_drew ?_))); (case side2 => exact HC0.out); rintro e w6 ⟨rfl, hb⟩; refine ⟨_, rfl, ?_⟩; have n0_ := Aside0.mk (below_step (by repeat (first | (with_reducible first | exact HB.out | apply below_alloc | apply pw_below_drewN | apply below_drew1) | exact HB.out)) hb); clear HB; have HB := n0_; clear n0_; (try clear hb); (try clear hb2); (try clear hk); (try clear hi)))
    go_ret
    exact ⟨by first | rfl | (simp [errW_none, errW_some] <;> rfl) | (simp [*, errW_none, errW_some] <;> rfl), by repeat (first | (with_reducible first | exact HB.out | apply below_alloc | apply pw_below_drewN | apply below_drew1) | exact HB.out)⟩
  · replace c3 := Bool.eq_false_iff.mpr c3
    subst c3
    have H1 : (some 0) = some r := by rw [if_neg (show ¬ (false = true) by decide)] at H; exact H
    clear H
    have H := H1
    clear H1
    obtain rfl := Option.some.inj H
    go_enter Try.func23, Try.ntmps23
    go_wp2_with (first | ((with_reducible refine gate_callee (f := 55) rfl ?_); refine goesL_ (some 4) rfl rfl Try.func55 (by kernel_rfl) rfl #[.slice A0 l0.length c0] rfl (by (try simp only [List.map_toArray, List.map_cons, List.map_nil]); first | done | rfl | (simp only [List.length_drop, List.length_take]; rfl)) ?_; (with_reducible refine (impl_SquareOk.calls k _ _ l0 false _ ?side1 ?side2 A2.out).mono ?_); (case side1 => repeat (first | exact HR0.out | (with_reducible refine Kd.C_alloc ?_ _) | (with_reducible refine Kd.C_drewN ?_ _) | (with_reducible refine Kd.C_drew ?_))); (case side2 => exact HC0.out); rintro e w7 ⟨rfl, hb⟩; refine ⟨_, rfl, ?_⟩; have n0_ := Aside0.mk (below_step (by repeat (first | (with_reducible first | exact HB.out | apply below_alloc | apply pw_below_drewN | apply below_drew1) | exact HB.out)) hb); clear HB; have HB := n0_; clear n0_; (try clear hb); (try clear hb2); (try clear hk); (try clear hi)))
    go_ret
    exact ⟨by first | rfl | (simp [errW_none, errW_some] <;> rfl) | (simp [*, errW_none, errW_some] <;> rfl), by repeat (first | (with_reducible first | exact HB.out | apply below_alloc | apply pw_below_drewN | apply below_drew1) | exact HB.out)⟩

end Go.Proofs.Ytbenbfhpbnepmaa.P

namespace Go.Proofs.Ytbenbfhpbnepmaa.P
open Go.RowKit Go.Proofs.YtbenbfhpbnepmaaW.PrintWords Go.Proofs.YtbenbfhpbnepmaaW.PrintLast Go.Proofs.YtbenbfhpbnepmaaW.PrintMore
attribute [local go_sem] max2_int min2_int max_two min_two max_three min_three max_four min_four   -- for this text's walks alone
set_option linter.unusedVariables false
set_option linter.unusedSimpArgs false

/-! ### laws_FnExactDeterminant: function 4 -/
def laws_FnExactDeterminant.f (k : Nat) (l0 : List (List Int)) : Option (Bool) := (laws_szIntSS.f k l0 1048576).bind fun t101 => (if t101 < 0 then (some true) else ((laws_toIntSS.f k l0).bind fun t102 => ((spec_Determinant.f k t102).bind fun t105 => ((laws_toIntSS.f k l0).bind fun t106 => ((impl_Determinant.f k t106).bind fun t109 => (if t109 = t105 then ((laws_toIntSS.f k l0).bind fun t110 => ((laws_eqIntSS.f k t106 t110).bind fun t113 => (if t113 = true then (some true) else (some false)))) else (some false)))))))
theorem laws_FnExactDeterminant.mono : ∀ a0 k, LeO (laws_FnExactDeterminant.f k a0) (laws_FnExactDeterminant.f (k + 1) a0) := by
  intro a0 k
  unfold laws_FnExactDeterminant.f
  repeat' first
      | (with_reducible exact impl_Determinant.mono _ _)
      | (with_reducible exact laws_eqIntSS.mono _ _ _)
      | (with_reducible exact laws_szIntSS.mono _ _ _)
      | (with_reducible exact laws_toIntSS.mono _ _)
      | (with_reducible exact spec_Determinant.mono _ _)
      | (with_reducible exact LeO.refl _)
      | (with_reducible exact LeO.none _)
      | (with_reducible refine LeO.ite ?_ ?_)
      | (with_reducible refine LeO.bind ?_ (fun _ => ?_))
      | exact impl_Determinant.mono _ _
      | exact laws_eqIntSS.mono _ _ _
      | exact laws_szIntSS.mono _ _ _
      | exact laws_toIntSS.mono _ _
      | exact spec_Determinant.mono _ _
      | exact LeO.none _
      | refine LeO.ite ?_ ?_
      | refine LeO.bind ?_ (fun _ => ?_)
set_option maxHeartbeats 8000000 in
set_option maxRecDepth 100000 in
theorem laws_FnExactDeterminant.calls (k : Nat) (A0 : Option Addr) (c0 : Nat) (l0 : List (List Int)) (r : Bool) (w : World) (hr0 : Kd.C (Kd.slice 3 (Kd.int .i64)) w A0 l0.length l0) (hc0 : l0.length ≤ c0) (h : laws_FnExactDeterminant.f k l0 = some r) :
    Calls Try.prog 4 #[.slice A0 l0.length c0] w fun e w' => e = .returned (.bool r) ∧ Below w.heap.size w w' := by
  have HR0 := Aside0.mk hr0
  have HC0 := Aside0.mk hc0
  clear hr0 hc0
  have HB := Aside0.mk (Below.refl w.heap.size w)
  have H : ((laws_szIntSS.f k l0 1048576).bind fun t101 => (if t101 < 0 then (some true) else ((laws_toIntSS.f k l0).bind fun t102 => ((spec_Determinant.f k t102).bind fun t105 => ((laws_toIntSS.f k l0).bind fun t106 => ((impl_Determinant.f k t106).bind fun t109 => (if t109 = t105 then ((laws_toIntSS.f k l0).bind fun t110 => ((laws_eqIntSS.f k t106 t110).bind fun t113 => (if t113 = true then (some true) else (some false)))) else (some false)))))))) = some r := h
  clear h
  replace H := Option.bind_eq_some_iff.mp H
  obtain ⟨t101, A20, H⟩ := H
  replace H : (if t101 < 0 then (some true) else ((laws_toIntSS.f k l0).bind fun t102 => ((spec_Determinant.f k t102).bind fun t105 => ((laws_toIntSS.f k l0).bind fun t106 => ((impl_Determinant.f k t106).bind fun t109 => (if t109 = t105 then ((laws_toIntSS.f k l0).bind fun t110 => ((laws_eqIntSS.f k t106 t110).bind fun t113 => (if t113 = true then (some true) else (some false)))) else (some false))))))) = some r := H
  have A2 := Aside0.mk A20
  clear A20
  by_cases c3 : t101 < 0
  · rw [if_pos c3] at H
    have c3b0 : decide (t101 < 0) = true := decide_eq_true c3
    clear c3
    obtain rfl := Option.some.inj H
    go_enter Try.func4, Try.ntmps4
    go_wp2_with (first | ((with_reducible refine gate_callee (f := 15) rfl ?_); refine goesL_ (some 9) rfl rfl Try.func15 (by kernel_rfl) rfl #[.slice A0 l0.length c0, .int .i64 1048576] rfl (by (try simp only [List.map_toArray, List.map_cons, List.map_nil]); first | done | rfl | (simp only [List.length_drop, List.length_take]; rfl)) ?_; (with_reducible refine (laws_szIntSS.calls k _ _ l0 1048576 t101 _ ?side1 ?side2 A2.out).mono ?_); (case side1 => repeat (first | exact HR0.out | (with_reducible refine Kd.C_alloc ?_ _) | (with_reducible refine Kd.C_drewN ?_ _) | (with_reducible refine Kd.C_drew ?_))); (case side2 => exact HC0.out); rintro e w' ⟨rfl, ⟨nd, rfl⟩⟩; clear A2; refine ⟨_, rfl, ?_⟩))
    go_ret
    exact ⟨by first | rfl | (simp [errW_none, errW_some] <;> rfl) | (simp [*, errW_none, errW_some] <;> rfl), by repeat (first | (with_reducible first | exact HB.out | apply below_alloc | apply pw_below_drewN | apply below_drew1) | exact HB.out)⟩
  · rw [if_neg c3] at H
    have c3b0 : decide (t101 < 0) = false := decide_eq_false c3
    clear c3
    replace H := Option.bind_eq_some_iff.mp H
    obtain ⟨t102, A40, H⟩ := H
    replace H : ((spec_Determinant.f k t102).bind fun t105 => ((laws_toIntSS.f k l0).bind fun t106 => ((impl_Determinant.f k t106).bind fun t109 => (if t109 = t105 then ((laws_toIntSS.f k l0).bind fun t110 => ((laws_eqIntSS.f k t106 t110).bind fun t113 => (if t113 = true then (some true) else (some false)))) else (some false))))) = some r := H
    have A4 := Aside0.mk A40
    clear A40
    replace H := Option.bind_eq_some_iff.mp H
    obtain ⟨t105, A50, H⟩ := H
    replace H : ((laws_toIntSS.f k l0).bind fun t106 => ((impl_Determinant.f k t106).bind fun t109 => (if t109 = t105 then ((laws_toIntSS.f k l0).bind fun t110 => ((laws_eqIntSS.f k t106 t110).bind fun t113 => (if t113 = true then (some true) else (some false)))) else (some false)))) = some r := H
    have A5 := Aside0.mk A50
    clear A50
    replace H := Option.bind_eq_some_iff.mp H
    obtain ⟨t106, A60, H⟩ := H
    replace H : ((impl_Determinant.f k t106).bind fun t109 => (if t109 = t105 then ((laws_toIntSS.f k l0).bind fun t110 => ((laws_eqIntSS.f k t106 t110).bind fun t113 => (if t113 = true then (some true) else (some false)))) else (some false))) = some r := H
    have A6 := Aside0.mk A60
    clear A60
    replace H := Option.bind_eq_some_iff.mp H
    obtain ⟨t109, A70, H⟩ := H
    replace H : (if t109 = t105 then ((laws_toIntSS.f k l0).bind fun t110 => ((laws_eqIntSS.f k t106 t110).bind fun t113 => (if t113 = true then (some true) else (some false)))) else (some false)) = some r := H
    have A7 := Aside0.mk A70
    clear A70
    by_cases c8 : t109 = t105
    · rw [if_pos c8] at H
      have c8b0 : (t109 == t105) = true := beq_iff_eq.mpr c8
      have c8b1 : (t109 != t105) = false := bne_eq_false_iff_eq.mpr c8
      clear c8
      replace H := Option.bind_eq_some_iff.mp H
      obtain ⟨t110, A90, H⟩ := H
      replace H : ((laws_eqIntSS.f k t106 t110).bind fun t113 => (if t113 = true then (some true) else (some false))) = some r := H
      have A9 := Aside0.mk A90
      clear A90
      replace H := Option.bind_eq_some_iff.mp H
      obtain ⟨t113, A100, H⟩ := H
      replace H : (if t113 = true then (some true) else (some false)) = some r := H
      have A10 := Aside0.mk A100
      clear A100
      by_cases c11 : t113 = true
      · subst c11
        have H1 : (some true) = some r := by rw [if_pos rfl] at H; exact H
        clear H
        have H := H1
        clear H1
        obtain rfl := Option.some.inj H
        go_enter Try.func4, Try.ntmps4
        go_wp2_with (first | ((with_reducible refine gate_callee (f := 15) rfl ?_); refine goesL_ (some 9) rfl rfl Try.func15 (by kernel_rfl) rfl #[.slice A0 l0.length c0, .int .i64 1048576] rfl (by (try simp only [List.map_toArray, List.map_cons, List.map_nil]); first | done | rfl | (simp only [List.length_drop, List.length_take]; rfl)) ?_; (with_reducible refine (laws_szIntSS.calls k _ _ l0 1048576 t101 _ ?side1 ?side2 A2.out).mono ?_); (case side1 => repeat (first | exact HR0.out | (with_reducible refine Kd.C_alloc ?_ _) | (with_reducible refine Kd.C_drewN ?_ _) | (with_reducible refine Kd.C_drew ?_))); (case side2 => exact HC0.out); rintro e w' ⟨rfl, ⟨nd, rfl⟩⟩; clear A2; refine ⟨_, rfl, ?_⟩) | ((with_reducible refine gate_callee (f := 17) rfl ?_); refine goesL_ (some 13) rfl rfl Try.func17 (by kernel_rfl) rfl #[.slice A0 l0.length c0] rfl (by (try simp only [List.map_toArray, List.map_cons, List.map_nil]); first | done | rfl | (simp only [List.length_drop, List.length_take]; rfl)) ?_; (with_reducible refine (laws_toIntSS.calls k _ _ l0 t102 _ ?side1 ?side2 A4.out).mono ?_); (case side1 => repeat (first | exact HR0.out | (with_reducible refine Kd.C_alloc ?_ _) | (with_reducible refine Kd.C_drewN ?_ _) | (with_reducible refine Kd.C_drew ?_))); (case side2 => exact HC0.out); rintro e w12 ⟨v103, rfl, ho0, hb⟩; clear A4; refine ⟨_, rfl, ?_⟩; have n0_ := Aside0.mk (Kd.S_lower ho0 (below_size (by repeat (first | (with_reducible first | exact HB.out | apply below_alloc | apply pw_below_drewN | apply below_drew1) | exact HB.out)))); have n1_ := Aside0.mk (below_step (by repeat (first | (with_reducible first | exact HB.out | apply below_alloc | apply pw_below_drewN | apply below_drew1) | exact HB.out)) hb); clear HB; have HO104 := n0_; have HB := n1_; clear n0_ n1_; (try clear hb); (try clear hb2); (try clear hk); (try clear hi); (try clear ho0); obtain ⟨Ao13, co13, eo13⟩ := Kd.S_slice HO104.out; subst eo13) | ((with_reducible refine gate_callee (f := 22) rfl ?_); refine goesL_ (some 14) rfl rfl Try.func22 (by kernel_rfl) rfl #[.slice Ao13 t102.length co13] rfl (by (try simp only [List.map_toArray, List.map_cons, List.map_nil]); first | done | rfl | (simp only [List.length_drop, List.length_take]; rfl)) ?_; (with_reducible refine (spec_Determinant.calls k _ _ t102 t105 _ ?side1 ?side2 A5.out).mono ?_); (case side1 => repeat (first | exact (Kd.S_reads' HO104.out).2.2 | (with_reducible refine Kd.C_alloc ?_ _) | (with_reducible refine Kd.C_drewN ?_ _) | (with_reducible refine Kd.C_drew ?_))); (case side2 => exact (Kd.S_reads' HO104.out).2.1); rintro e w14 ⟨rfl, hb⟩; clear A5; refine ⟨_, rfl, ?_⟩; have n0_ := Aside0.mk (Kd.S_below (by (with_reducible repeat (first | apply Kd.S_alloc | apply Kd.S_drewN | apply Kd.S_drew)); exact HO104.out) hb); have n1_ := Aside0.mk (below_step (by repeat (first | (with_reducible first | exact HB.out | apply below_alloc | apply pw_below_drewN | apply below_drew1) | exact HB.out)) hb); clear HO104; clear HB; have HO104 := n0_; have HB := n1_; clear n0_ n1_; (try clear hb); (try clear hb2); (try clear hk); (try clear hi)) | ((with_reducible refine gate_callee (f := 17) rfl ?_); refine goesL_ (some 16) rfl rfl Try.func17 (by kernel_rfl) rfl #[.slice A0 l0.length c0] rfl (by (try simp only [List.map_toArray, List.map_cons, List.map_nil]); first | done | rfl | (simp only [List.length_drop, List.length_take]; rfl)) ?_; (with_reducible refine (laws_toIntSS.calls k _ _ l0 t106 _ ?side1 ?side2 A6.out).mono ?_); (case side1 => repeat (first | exact (Kd.C_below HR0.out HB.out) | (with_reducible refine Kd.C_alloc ?_ _) | (with_reducible refine Kd.C_drewN ?_ _) | (with_reducible refine Kd.C_drew ?_))); (case side2 => exact HC0.out); rintro e w15 ⟨v107, rfl, ho0, hb⟩; clear A6; refine ⟨_, rfl, ?_⟩; have n0_ := Aside0.mk (Kd.S_elder' (by (with_reducible repeat (first | apply Kd.S_alloc | apply Kd.S_drewN | apply Kd.S_drew)); exact HO104.out) (Kd.S_base ho0) hb); have n1_ := Aside0.mk (Kd.S_lower (Kd.S_new' ho0 (Kd.S_lt (by (with_reducible repeat (first | apply Kd.S_alloc | apply Kd.S_drewN | apply Kd.S_drew)); exact HO104.out))) (below_size (by repeat (first | (with_reducible first | exact HB.out | apply below_alloc | apply pw_below_drewN | apply below_drew1) | exact HB.out)))); have n2_ := Aside0.mk (below_step (by repeat (first | (with_reducible first | exact HB.out | apply below_alloc | apply pw_below_drewN | apply below_drew1) | exact HB.out)) hb); clear HO104; clear HB; have HO104 := n0_; have HO108 := n1_; have HB := n2_; clear n0_ n1_ n2_; (try clear hb); (try clear hb2); (try clear hk); (try clear hi); (try clear ho0); obtain ⟨Ao16, co16, eo16⟩ := Kd.S_slice HO108.out; subst eo16) | ((with_reducible refine gate_callee (f := 23) rfl ?_); refine goesL_ (some 18) rfl rfl Try.func23 (by kernel_rfl) rfl #[.slice Ao16 t106.length co16] rfl (by (try simp only [List.map_toArray, List.map_cons, List.map_nil]); first | done | rfl | (simp only [List.length_drop, List.length_take]; rfl)) ?_; (with_reducible refine (impl_Determinant.calls k _ _ t106 t109 _ ?side1 ?side2 A7.out).mono ?_); (case side1 => repeat (first | exact (Kd.S_reads' HO108.out).2.2 | (with_reducible refine Kd.C_alloc ?_ _) | (with_reducible refine Kd.C_drewN ?_ _) | (with_reducible refine Kd.C_drew ?_))); (case side2 => exact (Kd.S_reads' HO108.out).2.1); rintro e w17 ⟨rfl, hb⟩; clear A7; refine ⟨_, rfl, ?_⟩; have n0_ := Aside0.mk (Kd.S_below (by (with_reducible repeat (first | apply Kd.S_alloc | apply Kd.S_drewN | apply Kd.S_drew)); exact HO104.out) hb); have n1_ := Aside0.mk (Kd.S_below (by (with_reducible repeat (first | apply Kd.S_alloc | apply Kd.S_drewN | apply Kd.S_drew)); exact HO108.out) hb); have n2_ := Aside0.mk (below_step (by repeat (first | (with_reducible first | exact HB.out | apply below_alloc | apply pw_below_drewN | apply below_drew1) | exact HB.out)) hb); clear HO104; clear HO108; clear HB; have HO104 := n0_; have HO108 := n1_; have HB := n2_; clear n0_ n1_ n2_; (try clear hb); (try clear hb2); (try clear hk); (try clear hi)) | ((with_reducible refine gate_callee (f := 17) rfl ?_); refine goesL_ (some 24) rfl rfl Try.func17 (by kernel_rfl) rfl #[.slice A0 l0.length c0] rfl (by (try simp only [List.map_toArray, List.map_cons, List.map_nil]); first | done | rfl | (simp only [List.length_drop, List.length_take]; rfl)) ?_; (with_reducible refine (laws_toIntSS.calls k _ _ l0 t110 _ ?side1 ?side2 A9.out).mono ?_); (case side1 => repeat (first | exact (Kd.C_below HR0.out HB.out) | (with_reducible refine Kd.C_alloc ?_ _) | (with_reducible refine Kd.C_drewN ?_ _) | (with_reducible refine Kd.C_drew ?_))); (case side2 => exact HC0.out); rintro e w18 ⟨v111, rfl, ho0, hb⟩; clear A9; refine ⟨_, rfl, ?_⟩; have n0_ := Aside0.mk (Kd.S_elder' (by (with_reducible repeat (first | apply Kd.S_alloc | apply Kd.S_drewN | apply Kd.S_drew)); exact HO104.out) (Kd.S_base ho0) hb); have n1_ := Aside0.mk (Kd.S_elder' (by (with_reducible repeat (first | apply Kd.S_alloc | apply Kd.S_drewN | apply Kd.S_drew)); exact HO108.out) (Kd.S_base ho0) hb); have n2_ := Aside0.mk (Kd.S_lower (Kd.S_new' (Kd.S_new' ho0 (Kd.S_lt (by (with_reducible repeat (first | apply Kd.S_alloc | apply Kd.S_drewN | apply Kd.S_drew)); exact HO104.out))) (Kd.S_lt (by (with_reducible repeat (first | apply Kd.S_alloc | apply Kd.S_drewN | apply Kd.S_drew)); exact HO108.out))) (below_size (by repeat (first | (with_reducible first | exact HB.out | apply below_alloc | apply pw_below_drewN | apply below_drew1) | exact HB.out)))); have n3_ := Aside0.mk (below_step (by repeat (first | (with_reducible first | exact HB.out | apply below_alloc | apply pw_below_drewN | apply below_drew1) | exact HB.out)) hb); clear HO104; clear HO108; clear HB; have HO104 := n0_; have HO108 := n1_; have HO112 := n2_; have HB := n3_; clear n0_ n1_ n2_ n3_; (try clear hb); (try clear hb2); (try clear hk); (try clear hi); (try clear ho0); obtain ⟨Ao19, co19, eo19⟩ := Kd.S_slice HO112.out; subst eo19) | ((with_reducible refine gate_callee (f := 19) rfl ?_); refine goesL_ (some 25) rfl rfl Try.func19 (by kernel_rfl) rfl #[.slice Ao16 t106.length co16, .slice Ao19 t110.length co19] rfl (by (try simp only [List.map_toArray, List.map_cons, List.map_nil]); first | done | rfl | (simp only [List.length_drop, List.length_take]; rfl)) ?_; (with_reducible refine (laws_eqIntSS.calls k _ _ t106 _ _ t110 true _ ?side1 ?side2 ?side3 ?side4 A10.out).mono ?_); (case side1 => repeat (first | exact (Kd.S_reads' HO108.out).2.2 | (with_reducible refine Kd.C_alloc ?_ _) | (with_reducible refine Kd.C_drewN ?_ _) | (with_reducible refine Kd.C_drew ?_))); (case side2 => exact (Kd.S_reads' HO108.out).2.1); (case side3 => repeat (first | exact (Kd.S_reads' HO112.out).2.2 | (with_reducible refine Kd.C_alloc ?_ _) | (with_reducible refine Kd.C_drewN ?_ _) | (with_reducible refine Kd.C_drew ?_))); (case side4 => exact (Kd.S_reads' HO112.out).2.1); rintro e w' ⟨rfl, ⟨nd, rfl⟩⟩; clear A10; refine ⟨_, rfl, ?_⟩))
        go_ret
        exact ⟨by first | rfl | (simp [errW_none, errW_some] <;> rfl) | (simp [*, errW_none, errW_some] <;> rfl), by repeat (first | (with_reducible first | exact HB.out | apply below_alloc | apply pw_below_drewN | apply below_drew1) | exact HB.out)⟩
      · replace c11 := Bool.eq_false_iff.mpr c11
        subst c11
        have H1 : (some false) = some r := by rw [if_neg (show ¬ (false = true) by decide)] at H; exact H
        clear H
        have H := H1
        clear H1
        obtain rfl := Option.some.inj H
        go_enter Try.func4, Try.ntmps4
        go_wp2_with (first | ((with_reducible refine gate_callee (f := 15) rfl ?_); refine goesL_ (some 9) rfl rfl Try.func15 (by kernel_rfl) rfl #[.slice A0 l0.length c0, .int .i64 1048576] rfl (by (try simp only [List.map_toArray, List.map_cons, List.map_nil]); first | done | rfl | (simp only [List.length_drop, List.length_take]; rfl)) ?_; (with_reducible refine (laws_szIntSS.calls k _ _ l0 1048576 t101 _ ?side1 ?side2 A2.out).mono ?_); (case side1 => repeat (first | exact HR0.out | (with_reducible refine Kd.C_alloc ?_ _) | (with_reducible refine Kd.C_drewN ?_ _) | (with_reducible refine Kd.C_drew ?_))); (case side2 => exact HC0.out); rintro e w' ⟨rfl, ⟨nd, rfl⟩⟩; clear A2; refine ⟨_, rfl, ?_⟩) | ((with_reducible refine gate_callee (f := 17) rfl ?_); refine goesL_ (some 13) rfl rfl Try.func17 (by kernel_rfl) rfl #[.slice A0 l0.length c0] rfl (by (try simp only [List.map_toArray, List.map_cons, List.map_nil]); first | done | rfl | (simp only [List.length_drop, List.length_take]; rfl)) ?_; (with_reducible refine (laws_toIntSS.calls k _ _ l0 t102 _ ?side1 ?side2 A4.out).mono ?_); (case side1 => repeat (first | exact HR0.out | (with_reducible refine Kd.C_alloc ?_ _) | (with_reducible refine Kd.C_drewN ?_ _) | (with_reducible refine Kd.C_drew ?_))); (case side2 => exact HC0.out); rintro e w20 ⟨v103, rfl, ho0, hb⟩; clear A4; refine ⟨_, rfl, ?_⟩; have n0_ := Aside0.mk (Kd.S_lower ho0 (below_size (by repeat (first | (with_reducible first | exact HB.out | apply below_alloc | apply pw_below_drewN | apply below_drew1) | exact HB.out)))); have n1_ := Aside0.mk (below_step (by repeat (first | (with_reducible first | exact HB.out | apply below_alloc | apply pw_below_drewN | apply below_drew1) | exact HB.out)) hb); clear HB; have HO104 := n0_; have HB := n1_; clear n0_ n1_; (try clear hb); (try clear hb2); (try clear hk); (try clear hi); (try clear ho0); obtain ⟨Ao21, co21, eo21⟩ := Kd.S_slice HO104.out; subst eo21) | ((with_reducible refine gate_callee (f := 22) rfl ?_); refine goesL_ (some 14) rfl rfl Try.func22 (by kernel_rfl) rfl #[.slice Ao21 t102.length co21] rfl (by (try simp only [List.map_toArray, List.map_cons, List.map_nil]); first | done | rfl | (simp only [List.length_drop, List.length_take]; rfl)) ?_; (with_reducible refine (spec_Determinant.calls k _ _ t102 t105 _ ?side1 ?side2 A5.out).mono ?_); (case side1 => repeat (first | exact (Kd.S_reads' HO104.out).2.2 | (with_reducible refine Kd.C_alloc ?_ _) | (with_reducible refine Kd.C_drewN ?_ _) | (with_reducible refine Kd.C_drew ?_))); (case side2 => exact (Kd.S_reads' HO104.out).2.1); rintro e w22 ⟨rfl, hb⟩; clear A5; refine ⟨_, rfl, ?_⟩; have n0_ := Aside0.mk (Kd.S_below (by (with_reducible repeat (first | apply Kd.S_alloc | apply Kd.S_drewN | apply Kd.S_drew)); exact HO104.out) hb); have n1_ := Aside0.mk (below_step (by repeat (first | (with_reducible first | exact HB.out | apply below_alloc | apply pw_below_drewN | apply below_drew1) | exact HB.out)) hb); clear HO104; clear HB; have HO104 := n0_; have HB := n1_; clear n0_ n1_; (try clear hb); (try clear hb2); (try clear hk); (try clear hi)) | ((with_reducible refine gate_callee (f := 17) rfl ?_); refine goesL_ (some 16) rfl rfl Try.func17 (by kernel_rfl) rfl #[.slice A0 l0.length c0] rfl (by (try simp only [List.map_toArray, List.map_cons, List.map_nil]); first | done | rfl | (simp only [List.length_drop, List.length_take]; rfl)) ?_; (with_reducible refine (laws_toIntSS.calls k _ _ l0 t106 _ ?side1 ?side2 A6.out).mono ?_); (case side1 => repeat (first | exact (Kd.C_below HR0.out HB.out) | (with_reducible refine Kd.C_alloc ?_ _) | (with_reducible refine Kd.C_drewN ?_ _) | (with_reducible refine Kd.C_drew ?_))); (case side2 => exact HC0.out); rintro e w23 ⟨v107, rfl, ho0, hb⟩; clear A6; refine ⟨_, rfl, ?_⟩; have n0_ := Aside0.mk (Kd.S_elder' (by (with_reducible repeat (first | apply Kd.S_alloc | apply Kd.S_drewN | apply Kd.S_drew)); exact HO104.out) (Kd.S_base ho0) hb); have n1_ := Aside0.mk (Kd.S_lower (Kd.S_new' ho0 (Kd.S_lt (by (with_reducible repeat (first | apply Kd.S_alloc | apply Kd.S_drewN | apply Kd.S_drew)); exact HO104.out))) (below_size (by repeat (first | (with_reducible first | exact HB.out | apply below_alloc | apply pw_below_drewN | apply below_drew1) | exact HB.out)))); have n2_ := Aside0.mk (below_step (by repeat (first | (with_reducible first | exact HB.out | apply below_alloc | apply pw_below_drewN | apply below_drew1) | exact HB.out)) hb); clear HO104; clear HB; have HO104 := n0_; have HO108 := n1_; have HB := n2_; clear n0_ n1_ n2_; (try clear hb); (try clear hb2); (try clear hk); (try clear hi); (try clear ho0); obtain ⟨Ao24, co24, eo24⟩ := Kd.S_slice HO108.out; subst eo24) | ((with_reducible refine gate_callee (f := 23) rfl ?_); refine goesL_ (some 18) rfl rfl Try.func23 (by kernel_rfl) rfl #[.slice Ao24 t106.length co24] rfl (by (try simp only [List.map_toArray, List.map_cons, List.map_nil]); first | done | rfl | (simp only [List.length_drop, List.length_take]; rfl)) ?_; (with_reducible refine (impl_Determinant.calls k _ _ t106 t109 _ ?side1 ?side2 A7.out).mono ?_); (case side1 => repeat (first | exact (Kd.S_reads' HO108.out).2.2 | (with_reducible refine Kd.C_alloc ?_ _) | (with_reducible refine Kd.C_drewN ?_ _) | (with_reducible refine Kd.C_drew ?_))); (case side2 => exact (Kd.S_reads' HO108.out).2.1); rintro e w25 ⟨rfl, hb⟩; clear A7; refine ⟨_, rfl, ?_⟩; have n0_ := Aside0.mk (Kd.S_below (by (with_reducible repeat (first | apply Kd.S_alloc | apply Kd.S_drewN | apply Kd.S_drew)); exact HO104.out) hb); have n1_ := Aside0.mk (Kd.S_below (by (with_reducible repeat (first | apply Kd.S_alloc | apply Kd.S_drewN | apply Kd.S_drew)); exact HO108.out) hb); have n2_ := Aside0.mk (below_step (by repeat (first | (with_reducible first | exact HB.out | apply below_alloc | apply pw_below_drewN | apply below_drew1) | exact HB.out)) hb); clear HO104; clear HO108; clear HB; have HO104 := n0_; have HO108 := n1_; have HB := n2_; clear n0_ n1_ n2_; (try clear hb); (try clear hb2); (try clear hk); (try clear hi)) | ((with_reducible refine gate_callee (f := 17) rfl ?_); refine goesL_ (some 24) rfl rfl Try.func17 (by kernel_rfl) rfl #[.slice A0 l0.length c0] rfl (by (try simp only [List.map_toArray, List.map_cons, List.map_nil]); first | done | rfl | (simp only [List.length_drop, List.length_take]; rfl)) ?_; (with_reducible refine (laws_toIntSS.calls k _ _ l0 t110 _ ?side1 ?side2 A9.out).mono ?_); (case side1 => repeat (first | exact (Kd.C_below HR0.out HB.out) | (with_reducible refine Kd.C_alloc ?_ _) | (with_reducible refine Kd.C_drewN ?_ _) | (with_reducible refine Kd.C_drew ?_))); (case side2 => exact HC0.out); rintro e w26 ⟨v111, rfl, ho0, hb⟩; clear A9; refine ⟨_, rfl, ?_⟩; have n0_ := Aside0.mk (Kd.S_elder' (by (with_reducible repeat (first | apply Kd.S_alloc | apply Kd.S_drewN | apply Kd.S_drew)); exact HO104.out) (Kd.S_base ho0) hb); have n1_ := Aside0.mk (Kd.S_elder' (by (with_reducible repeat (first | apply Kd.S_alloc | apply Kd.S_drewN | apply Kd.S_drew)); exact HO108.out) (Kd.S_base ho0) hb); have n2_ := Aside0.mk (Kd.S_lower (Kd.S_new' (Kd.S_new' ho0 (Kd.S_lt (by (with_reducible repeat (first | apply Kd.S_alloc | apply Kd.S_drewN | apply Kd.S_drew)); exact HO104.out))) (Kd.S_lt (by (with_reducible repeat (first | apply Kd.S_alloc | apply Kd.S_drewN | apply Kd.S_drew)); exact HO108.out))) (below_size (by repeat (first | (with_reducible first | exact HB.out | apply below_alloc | apply pw_below_drewN | apply below_drew1) | exact HB.out)))); have n3_ := Aside0.mk (below_step (by repeat (first | (with_reducible first | exact HB.out | apply below_alloc | apply pw_below_drewN | apply below_drew1) | exact HB.out)) hb); clear HO104; clear HO108; clear HB; have HO104 := n0_; have HO108 := n1_; have HO112 := n2_; have HB := n3_; clear n0_ n1_ n2_ n3_; (try clear hb); (try clear hb2); (try clear hk); (try clear hi); (try clear ho0); obtain ⟨Ao27, co27, eo27⟩ := Kd.S_slice HO112.out; subst eo27) | ((with_reducible refine gate_callee (f := 19) rfl ?_); refine goesL_ (some 25) rfl rfl Try.func19 (by kernel_rfl) rfl #[.slice Ao24 t106.length co24, .slice Ao27 t110.length co27] rfl (by (try simp only [List.map_toArray, List.map_cons, List.map_nil]); first | done | rfl | (simp only [List.length_drop, List.length_take]; rfl)) ?_; (with_reducible refine (laws_eqIntSS.calls k _ _ t106 _ _ t110 false _ ?side1 ?side2 ?side3 ?side4 A10.out).mono ?_); (case side1 => repeat (first | exact (Kd.S_reads' HO108.out).2.2 | (with_reducible refine Kd.C_alloc ?_ _) | (with_reducible refine Kd.C_drewN ?_ _) | (with_reducible refine Kd.C_drew ?_))); (case side2 => exact (Kd.S_reads' HO108.out).2.1); (case side3 => repeat (first | exact (Kd.S_reads' HO112.out).2.2 | (with_reducible refine Kd.C_alloc ?_ _) | (with_reducible refine Kd.C_drewN ?_ _) | (with_reducible refine Kd.C_drew ?_))); (case side4 => exact (Kd.S_reads' HO112.out).2.1); rintro e w' ⟨rfl, ⟨nd, rfl⟩⟩; clear A10; refine ⟨_, rfl, ?_⟩))
        go_ret
        exact ⟨by first | rfl | (simp [errW_none, errW_some] <;> rfl) | (simp [*, errW_none, errW_some] <;> rfl), by repeat (first | (with_reducible first | exact HB.out | apply below_alloc | apply pw_below_drewN | apply below_drew1) | exact HB.out)⟩
    · rw [if_neg c8] at H
      have c8b0 : (t109 == t105) = false := beq_eq_false_iff_ne.mpr c8
      have c8b1 : (t109 != t105) = true := bne_iff_ne.mpr c8
      obtain rfl := Option.some.inj H
      go_enter Try.func4, Try.ntmps4
      go_wp2_with (first | ((with_reducible refine gate_callee (f := 15) rfl ?_); refine goesL_ (some 9) rfl rfl Try.func15 (by kernel_rfl) rfl #[.slice A0 l0.length c0, .int .i64 1048576] rfl (by (try simp only [List.map_toArray, List.map_cons, List.map_nil]); first | done | rfl | (simp only [List.length_drop, List.length_take]; rfl)) ?_; (with_reducible refine (laws_szIntSS.calls k _ _ l0 1048576 t101 _ ?side1 ?side2 A2.out).mono ?_); (case side1 => repeat (first | exact HR0.out | (with_reducible refine Kd.C_alloc ?_ _) | (with_reducible refine Kd.C_drewN ?_ _) | (with_reducible refine Kd.C_drew ?_))); (case side2 => exact HC0.out); rintro e w' ⟨rfl, ⟨nd, rfl⟩⟩; clear A2; refine ⟨_, rfl, ?_⟩) | ((with_reducible refine gate_callee (f := 17) rfl ?_); refine goesL_ (some 13) rfl rfl Try.func17 (by kernel_rfl) rfl #[.slice A0 l0.length c0] rfl (by (try simp only [List.map_toArray, List.map_cons, List.map_nil]); first | done | rfl | (simp only [List.length_drop, List.length_take]; rfl)) ?_; (with_reducible refine (laws_toIntSS.calls k _ _ l0 t102 _ ?side1 ?side2 A4.out).mono ?_); (case side1 => repeat (first | exact HR0.out | (with_reducible refine Kd.C_alloc ?_ _) | (with_reducible refine Kd.C_drewN ?_ _) | (with_reducible refine Kd.C_drew ?_))); (case side2 => exact HC0.out); rintro e w28 ⟨v103, rfl, ho0, hb⟩; clear A4; refine ⟨_, rfl, ?_⟩; have n0_ := Aside0.mk (Kd.S_lower ho0 (below_size (by repeat (first | (with_reducible first | exact HB.out | apply below_alloc | apply pw_below_drewN | apply below_drew1) | exact HB.out)))); have n1_ := Aside0.mk (below_step (by repeat (first | (with_reducible first | exact HB.out | apply below_alloc | apply pw_below_drewN | apply below_drew1) | exact HB.out)) hb); clear HB; have HO104 := n0_; have HB := n1_; clear n0_ n1_; (try clear hb); (try clear hb2); (try clear hk); (try clear hi); (try clear ho0); obtain ⟨Ao29, co29, eo29⟩ := Kd.S_slice HO104.out; subst eo29) | ((with_reducible refine gate_callee (f := 22) rfl ?_); refine goesL_ (some 14) rfl rfl Try.func22 (by kernel_rfl) rfl #[.slice Ao29 t102.length co29] rfl (by (try simp only [List.map_toArray, List.map_cons, List.map_nil]); first | done | rfl | (simp only [List.length_drop, List.length_take]; rfl)) ?_; (with_reducible refine (spec_Determinant.calls k _ _ t102 t105 _ ?side1 ?side2 A5.out).mono ?_); (case side1 => repeat (first | exact (Kd.S_reads' HO104.out).2.2 | (with_reducible refine Kd.C_alloc ?_ _) | (with_reducible refine Kd.C_drewN ?_ _) | (with_reducible refine Kd.C_drew ?_))); (case side2 => exact (Kd.S_reads' HO104.out).2.1); rintro e w30 ⟨rfl, hb⟩; clear A5; refine ⟨_, rfl, ?_⟩; have n0_ := Aside0.mk (Kd.S_below (by (with_reducible repeat (first | apply Kd.S_alloc | apply Kd.S_drewN | apply Kd.S_drew)); exact HO104.out) hb); have n1_ := Aside0.mk (below_step (by repeat (first | (with_reducible first | exact HB.out | apply below_alloc | apply pw_below_drewN | apply below_drew1) | exact HB.out)) hb); clear HO104; clear HB; have HO104 := n0_; have HB := n1_; clear n0_ n1_; (try clear hb); (try clear hb2); (try clear hk); (try clear hi)) | ((with_reducible refine gate_callee (f := 17) rfl ?_); refine goesL_ (some 16) rfl rfl Try.func17 (by kernel_rfl) rfl #[.slice A0 l0.length c0] rfl (by (try simp only [List.map_toArray, List.map_cons, List.map_nil]); first | done | rfl | (simp only [List.length_drop, List.length_take]; rfl)) ?_; (with_reducible refine (laws_toIntSS.calls k _ _ l0 t106 _ ?side1 ?side2 A6.out).mono ?_); (case side1 => repeat (first | exact (Kd.C_below HR0.out HB.out) | (with_reducible refine Kd.C_alloc ?_ _) | (with_reducible refine Kd.C_drewN ?_ _) | (with_reducible refine Kd.C_drew ?_))); (case side2 => exact HC0.out); rintro e w31 ⟨v107, rfl, ho0, hb⟩; clear A6; refine ⟨_, rfl, ?_⟩; have n0_ := Aside0.mk (Kd.S_elder' (by (with_reducible repeat (first | apply Kd.S_alloc | apply Kd.S_drewN | apply Kd.S_drew)); exact HO104.out) (Kd.S_base ho0) hb); have n1_ := Aside0.mk (Kd.S_lower (Kd.S_new' ho0 (Kd.S_lt (by (with_reducible repeat (first | apply Kd.S_alloc | apply Kd.S_drewN | apply Kd.S_drew)); exact HO104.out))) (below_size (by repeat (first | (with_reducible first | exact HB.out | apply below_alloc | apply pw_below_drewN | apply below_drew1) | exact HB.out)))); have n2_ := Aside0.mk (below_step (by repeat (first | (with_reducible first | exact HB.out | apply below_alloc | apply pw_below_drewN | apply below_drew1) | exact HB.out)) hb); clear HO104; clear HB; have HO104 := n0_; have HO108 := n1_; have HB := n2_; clear n0_ n1_ n2_; (try clear hb); (try clear hb2); (try clear hk); (try clear hi); (try clear ho0); obtain ⟨Ao32, co32, eo32⟩ := Kd.S_slice HO108.out; subst eo32) | ((with_reducible refine gate_callee (f := 23) rfl ?_); refine goesL_ (some 18) rfl rfl Try.func23 (by kernel_rfl) rfl #[.slice Ao32 t106.length co32] rfl (by (try simp only [List.map_toArray, List.map_cons, List.map_nil]); first | done | rfl | (simp only [List.length_drop, List.length_take]; rfl)) ?_; (with_reducible refine (impl_Determinant.calls k _ _ t106 t109 _ ?side1 ?side2 A7.out).mono ?_); (case side1 => repeat (first | exact (Kd.S_reads' HO108.out).2.2 | (with_reducible refine Kd.C_alloc ?_ _) | (with_reducible refine Kd.C_drewN ?_ _) | (with_reducible refine Kd.C_drew ?_))); (case side2 => exact (Kd.S_reads' HO108.out).2.1); rintro e w33 ⟨rfl, hb⟩; clear A7; refine ⟨_, rfl, ?_⟩; have n0_ := Aside0.mk (Kd.S_below (by (with_reducible repeat (first | apply Kd.S_alloc | apply Kd.S_drewN | apply Kd.S_drew)); exact HO104.out) hb); have n1_ := Aside0.mk (Kd.S_below (by (with_reducible repeat (first | apply Kd.S_alloc | apply Kd.S_drewN | apply Kd.S_drew)); exact HO108.out) hb); have n2_ := Aside0.mk (below_step (by repeat (first | (with_reducible first | exact HB.out | apply below_alloc | apply pw_below_drewN | apply below_drew1) | exact HB.out)) hb); clear HO104; clear HO108; clear HB; have HO104 := n0_; have HO108 := n1_; have HB := n2_; clear n0_ n1_ n2_; (try clear hb); (try clear hb2); (try clear hk); (try clear hi)))
      go_ret
      exact ⟨by first | rfl | (simp [errW_none, errW_some] <;> rfl) | (simp [*, errW_none, errW_some] <;> rfl), by repeat (first | (with_reducible first | exact HB.out | apply below_alloc | apply pw_below_drewN | apply below_drew1) | exact HB.out)⟩

end Go.Proofs.Ytbenbfhpbnepmaa.P

namespace Go.Proofs.Ytbenbfhpbnepmaa.P
open Go.RowKit Go.Proofs.YtbenbfhpbnepmaaW.PrintWords
set_option linter.unusedVariables false
set_option linter.unusedSimpArgs false
section
variable {α β : Type}
theorem Ev.tt {c : Prop} [Decidable c] {g f : Nat → Option α} {r : α} (h : c) (e : Ev g r) : Ev (fun k => if c then g k else f k) r := by simpa only [if_pos h] using e
theorem Ev.ff {c : Prop} [Decidable c] {g f : Nat → Option α} {r : α} (h : ¬ c) (e : Ev f r) : Ev (fun k => if c then g k else f k) r := by simpa only [if_neg h] using e
theorem Ev.ite {c : Prop} [Decidable c] {g f : Nat → Option α} {r : α} (e1 : c → Ev g r) (e2 : ¬ c → Ev f r) : Ev (fun k => if c then g k else f k) r := by
  by_cases h : c
  · exact Ev.tt h (e1 h)
  · exact Ev.ff h (e2 h)
theorem Ev.bnd0 {o : Option α} {f : Nat → α → Option β} {a : α} {r : β} (h : o = some a) (k : Ev (fun n => f n a) r) : Ev (fun n => o.bind (f n)) r := by subst h; exact k
theorem Ev.ret {a r : α} (h : a = r) : Ev (fun _ => some a) r := ⟨0, fun _ _ => by rw [h]⟩
theorem Ev.eq {g : Nat → Option α} {r r' : α} (h : Ev g r) (e : r = r') : Ev g r' := e ▸ h
end
theorem wrap64_id {x : Int} (h0 : -9223372036854775808 ≤ x) (h1 : x ≤ 9223372036854775807) : wrap64 x = x := by unfold wrap64; omega
theorem wsucc {i : Nat} (h : i < 4611686018427387904) : wrap64 ((i : Int) + 1) = ((i + 1 : Nat) : Int) := by unfold wrap64; omega
theorem rd_nat (l : List Int) (i : Nat) : rd l (i : Int) = l.getD i 0 := rfl
theorem rd_get {l : List Int} {i : Nat} (h : i < l.length) : rd l (i : Int) = l[i] := by simp [rd_nat, List.getD_eq_getElem?_getD, List.getElem?_eq_getElem h]
theorem rd_app {l m : List Int} {i : Nat} (h : i < l.length) : rd (l ++ m) (i : Int) = rd l (i : Int) := by
  rw [rd_get h, rd_get (by simp; omega), List.getElem_append_left h]
end Go.Proofs.Ytbenbfhpbnepmaa.P

namespace Go.Proofs.Ytbenbfhpbnepmaa.P
open Go Go.RowKit Go.Proofs.YtbenbfhpbnepmaaW.PrintWords
set_option linter.unusedVariables false
set_option linter.unusedSimpArgs false

theorem wrap_small {n : Nat} (h : n < 9223372036854775808) : IntKind.i64.wrap (n : Int) = n := by
  rw [IntKind.wrap_i64]; omega
theorem shl_pow {k : Nat} (h : k < 63) : shl .i64 1 (k : Int) = ((2 ^ k : Nat) : Int) := by
  have h1 : (2 : Nat) ^ k < 2 ^ 63 := Nat.pow_lt_pow_right (by decide) h
  unfold shl
  rw [show min (k : Int).toNat IntKind.i64.bits = k by simp [IntKind.bits]; omega, Int.one_mul]
  have := wrap_small (n := 2 ^ k) (by simpa using h1)
  simpa using this
theorem bits_and {a b : Nat} (ha : a < 4611686018427387904) (hb : b < 4611686018427387904) : Go.bits .and .i64 a b = ((a &&& b : Nat) : Int) :=
  (bits_nat .i64 62 (by decide) (fun n h0 h1 => by rw [IntKind.wrap_i64]; omega) a b (by simpa using ha) (by simpa using hb)).1
theorem bits_or {a b : Nat} (ha : a < 4611686018427387904) (hb : b < 4611686018427387904) : Go.bits .or .i64 a b = ((a ||| b : Nat) : Int) :=
  (bits_nat .i64 62 (by decide) (fun n h0 h1 => by rw [IntKind.wrap_i64]; omega) a b (by simpa using ha) (by simpa using hb)).2
theorem bits_xor {a b : Nat} (ha : a < 4611686018427387904) (hb : b < 4611686018427387904) : Go.bits .xor .i64 a b = ((a ^^^ b : Nat) : Int) := by
  have e : (BitVec.ofInt 64 (a : Int) ^^^ BitVec.ofInt 64 (b : Int)).toNat = a ^^^ b := by
    rw [BitVec.ofInt_natCast, BitVec.ofInt_natCast, BitVec.toNat_xor, BitVec.toNat_ofNat, BitVec.toNat_ofNat, Nat.mod_eq_of_lt (by omega), Nat.mod_eq_of_lt (by omega)]
  show IntKind.i64.wrap ((BitVec.ofInt 64 (a : Int) ^^^ BitVec.ofInt 64 (b : Int)).toNat : Int) = _
  rw [e]
  exact wrap_small (Nat.lt_of_lt_of_le (Nat.xor_lt_two_pow (n := 62) (by simpa using ha) (by simpa using hb)) (by decide))
/-- a without the bits of b. -/
def andNot (a b : Nat) : Nat := a ^^^ (a &&& b)
theorem testBit_andNot (a b i : Nat) : (andNot a b).testBit i = (a.testBit i && !b.testBit i) := by
  simp [andNot]
  cases a.testBit i <;> cases b.testBit i <;> rfl
theorem andNot_le (a b : Nat) : andNot a b ≤ a := by
  apply Nat.le_of_testBit
  intro i h
  rw [testBit_andNot] at h
  simp at h
  exact h.1
theorem bits_andNot {a b : Nat} (ha : a < 4611686018427387904) (hb : b < 4611686018427387904) : Go.bits .andNot .i64 a b = ((andNot a b : Nat) : Int) := by
  have e : (BitVec.ofInt 64 (a : Int) &&& ~~~ BitVec.ofInt 64 (b : Int)).toNat = andNot a b := by
    rw [BitVec.ofInt_natCast, BitVec.ofInt_natCast]
    apply Nat.eq_of_testBit_eq
    intro i
    rw [testBit_andNot, BitVec.testBit_toNat, BitVec.getLsbD_and, BitVec.getLsbD_not, BitVec.getLsbD_ofNat, BitVec.getLsbD_ofNat]
    by_cases h : i < 64
    · simp [h]
    · have : a.testBit i = false := Nat.testBit_lt_two_pow (Nat.lt_of_lt_of_le (by simpa using ha : a < 2 ^ 62) (Nat.pow_le_pow_right (by decide) (by omega)))
      simp [h, this]
  show IntKind.i64.wrap ((BitVec.ofInt 64 (a : Int) &&& ~~~ BitVec.ofInt 64 (b : Int)).toNat : Int) = _
  rw [e]
  exact wrap_small (by have := andNot_le a b; omega)
theorem shr_nat {m : Nat} (hm : m < 4611686018427387904) (k : Nat) : shr .i64 (m : Int) (k : Int) = ((m / 2 ^ k : Nat) : Int) := by
  unfold shr
  by_cases h : k ≤ 64
  · rw [show min (k : Int).toNat IntKind.i64.bits = k by simp [IntKind.bits]; omega]
    simp
  · rw [show min (k : Int).toNat IntKind.i64.bits = 64 by simp [IntKind.bits]; omega]
    have h1 : m / 2 ^ k = 0 := Nat.div_eq_of_lt (Nat.lt_of_lt_of_le (by simpa using hm : m < 2 ^ 62) (Nat.pow_le_pow_right (by decide) (by omega)))
    rw [h1]
    have : (m : Int) / 2 ^ 64 = ((m / 2 ^ 64 : Nat) : Int) := by simp
    rw [this, Nat.div_eq_of_lt (by omega)]
/-- The test of a bit, as the program and the reference make it. -/
theorem bit_test {m : Nat} (hm : m < 4611686018427387904) (k : Nat) (c : Int) : (Go.bits .and .i64 (shr .i64 (m : Int) (k : Int)) 1 == c) = (((m.testBit k).toNat : Int) == c) := by
  rw [shr_nat hm, show (1 : Int) = ((1 : Nat) : Int) from rfl, bits_and (Nat.lt_of_le_of_lt (Nat.div_le_self _ _) hm) (by decide)]
  congr 2
  rw [Nat.testBit_eq_decide_div_mod_eq, Nat.and_one_is_mod]
  have := Nat.mod_two_eq_zero_or_one (m / 2 ^ k)
  rcases this with h | h <;> simp [h]
theorem bit_one {m : Nat} (hm : m < 4611686018427387904) (k : Nat) : (Go.bits .and .i64 (shr .i64 (m : Int) (k : Int)) 1 == 1) = m.testBit k := by
  rw [bit_test hm]
  cases m.testBit k <;> rfl
theorem bit_zero {m : Nat} (hm : m < 4611686018427387904) (k : Nat) : (Go.bits .and .i64 (shr .i64 (m : Int) (k : Int)) 1 == 0) = !m.testBit k := by
  rw [bit_test hm]
  cases m.testBit k <;> rfl
/-- A number with one bit set, or not. -/
def setB (o g : Nat) (b : Bool) : Nat := if b then o ||| 2 ^ g else andNot o (2 ^ g)
theorem testBit_setB (o g : Nat) (b : Bool) (i : Nat) : (setB o g b).testBit i = if i = g then b else o.testBit i := by
  unfold setB
  cases b
  · simp only [Bool.false_eq_true, if_false, testBit_andNot, Nat.testBit_two_pow]
    by_cases h : i = g
    · simp [h]
    · simp [h, show ¬ g = i from fun e => h e.symm]
  · simp only [if_true, Nat.testBit_or, Nat.testBit_two_pow]
    by_cases h : i = g
    · simp [h]
    · simp [h, show ¬ g = i from fun e => h e.symm]
theorem setB_lt {o g n : Nat} (b : Bool) (ho : o < 2 ^ n) (hg : g < n) : setB o g b < 2 ^ n := by
  unfold setB
  split
  · exact Nat.or_lt_two_pow ho (Nat.pow_lt_pow_right (by decide) hg)
  · exact Nat.lt_of_le_of_lt (andNot_le _ _) ho
theorem setB_self {o g : Nat} : setB o g (o.testBit g) = o := by
  apply Nat.eq_of_testBit_eq
  intro i
  rw [testBit_setB]
  split
  · rename_i h; rw [h]
  · rfl
theorem xor_setB {o g : Nat} {b : Bool} (h : (o.testBit g) ≠ b) : o ^^^ 2 ^ g = setB o g b := by
  apply Nat.eq_of_testBit_eq
  intro i
  rw [testBit_setB, Nat.testBit_xor, Nat.testBit_two_pow]
  by_cases e : i = g
  · subst e
    cases hb : b <;> cases ho : o.testBit i <;> simp_all
  · simp [e, show ¬ g = i from fun e' => e e'.symm]
end Go.Proofs.Ytbenbfhpbnepmaa.P

namespace Go.Proofs.Ytbenbfhpbnepmaa.P
open Go.RowKit Go.Proofs.YtbenbfhpbnepmaaW.PrintWords
set_option linter.unusedVariables false
set_option linter.unusedSimpArgs false

/-- The number of set bits of s under n. -/
def pop : Nat → Nat → Nat
  | 0, _ => 0
  | n + 1, s => pop n s + (s.testBit n).toNat
theorem pop_le (n s : Nat) : pop n s ≤ n := by
  induction n with
  | zero => simp [pop]
  | succ n ih => simp only [pop]; have := Bool.toNat_le (s.testBit n); omega
theorem pop_congr {n s t : Nat} (h : ∀ i, i < n → s.testBit i = t.testBit i) : pop n s = pop n t := by
  induction n with
  | zero => rfl
  | succ n ih => simp only [pop]; rw [ih (fun i hi => h i (by omega)), h n (by omega)]
theorem pop_add (m n s : Nat) : pop (m + n) s = pop m s + pop n (s / 2 ^ m) := by
  induction n with
  | zero => simp [pop]
  | succ n ih =>
    rw [← Nat.add_assoc]
    simp only [pop]
    rw [ih, Nat.add_assoc, Nat.testBit_div_two_pow, Nat.add_comm n m]
theorem pop_mod (n s : Nat) : pop n (s % 2 ^ n) = pop n s := pop_congr fun i hi => by rw [Nat.testBit_mod_two_pow]; simp [hi]
theorem pop_big {n m s : Nat} (h : s < 2 ^ n) (hm : n ≤ m) : pop m s = pop n s := by
  obtain ⟨d, rfl⟩ := Nat.exists_eq_add_of_le hm
  rw [pop_add, Nat.div_eq_of_lt h]
  have : pop d 0 = 0 := by
    induction d with
    | zero => rfl
    | succ d ih => simp only [pop, Nat.zero_testBit]; rw [ih (by omega)]; rfl
  rw [this, Nat.add_zero]
end Go.Proofs.Ytbenbfhpbnepmaa.P

namespace Go.Proofs.Ytbenbfhpbnepmaa.P
open Go.RowKit Go.Proofs.YtbenbfhpbnepmaaW.PrintWords
set_option linter.unusedVariables false
set_option linter.unusedSimpArgs false

def sumTo : Nat → (Nat → Int) → Int
  | 0, _ => 0
  | n + 1, f => sumTo n f + f n
theorem sumTo_congr {n : Nat} {f g : Nat → Int} (h : ∀ i, i < n → f i = g i) : sumTo n f = sumTo n g := by
  induction n with
  | zero => rfl
  | succ n ih => simp only [sumTo]; rw [ih (fun i hi => h i (by omega)), h n (by omega)]
theorem sumTo_zero {n : Nat} {f : Nat → Int} (h : ∀ i, i < n → f i = 0) : sumTo n f = 0 := by
  induction n with
  | zero => rfl
  | succ n ih => simp only [sumTo]; rw [ih (fun i hi => h i (by omega)), h n (by omega)]; rfl
/-- Two sums that differ at one place. -/
theorem sumTo_one {n : Nat} {f g : Nat → Int} {k : Nat} (hk : k < n) (h : ∀ i, i < n → i ≠ k → g i = f i) : sumTo n g = sumTo n f + (g k - f k) := by
  induction n with
  | zero => omega
  | succ n ih =>
    simp only [sumTo]
    by_cases e : k = n
    · subst e
      rw [sumTo_congr (fun i hi => h i (by omega) (by omega))]
      omega
    · rw [ih (by omega) (fun i hi hne => h i (by omega) hne), h n (by omega) (fun e' => e e'.symm)]
      omega
/-- s without k. -/
def del (s k : Nat) : Nat := andNot s (2 ^ k)
theorem testBit_del (s k i : Nat) : (del s k).testBit i = (s.testBit i && decide (i ≠ k)) := by
  unfold del
  rw [testBit_andNot, Nat.testBit_two_pow]
  by_cases h : i = k
  · simp [h]
  · simp [h, show ¬ k = i from fun e => h e.symm]
theorem del_le (s k : Nat) : del s k ≤ s := andNot_le _ _
theorem del_lt {s k : Nat} (h : s.testBit k = true) : del s k < s := by
  refine Nat.lt_of_le_of_ne (del_le s k) fun e => ?_
  have := testBit_del s k k
  rw [e, h] at this
  simp at this
theorem pop_del {n s k : Nat} (hk : k < n) (h : s.testBit k = true) : pop n s = pop n (del s k) + 1 := by
  induction n with
  | zero => omega
  | succ n ih =>
    simp only [pop]
    by_cases e : k = n
    · subst e
      rw [testBit_del, h, pop_congr (s := del s k) (t := s) (fun i hi => by rw [testBit_del]; simp; omega)]
      simp
    · rw [ih (by omega), testBit_del]
      simp [show ¬ n = k from fun e' => e e'.symm]
      omega
/-- How many of s stand above k, under n. -/
def above (n s k : Nat) : Nat := pop n (s / 2 ^ (k + 1))
theorem above_step {n s k : Nat} (hk : k + 1 < n) (hs : s < 2 ^ n) : above n s k = above n s (k + 1) + (s.testBit (k + 1)).toNat := by
  have h1 : ∀ i, i < n → s < 2 ^ (i + 1 + (n - 1)) := fun i hi => Nat.lt_of_lt_of_le hs (Nat.pow_le_pow_right (by decide) (by omega))
  have cut : ∀ i, i < n → above n s i = pop (n - 1) (s / 2 ^ (i + 1)) := fun i hi => pop_big (Nat.div_lt_of_lt_mul (by rw [← Nat.pow_add]; exact h1 i hi)) (by omega)
  unfold above
  have e : pop n (s / 2 ^ (k + 1)) = pop (1 + (n - 1)) (s / 2 ^ (k + 1)) := by rw [show 1 + (n - 1) = n by omega]
  rw [e, pop_add, Nat.div_div_eq_div_mul, ← Nat.pow_succ]
  have e2 := cut (k + 1) (by omega)
  unfold above at e2
  rw [e2]
  simp only [pop]
  rw [Nat.testBit_div_two_pow]
  simp
  omega
theorem above_top {n s : Nat} (hs : s < 2 ^ n) (hn : 0 < n) : above n s (n - 1) = 0 := by
  unfold above
  rw [show n - 1 + 1 = n by omega, Nat.div_eq_of_lt hs]
  exact Nat.le_zero.1 (by rw [← pop_mod]; simp [show pop n 0 = 0 from by
    induction n with
    | zero => rfl
    | succ n ih => exact Nat.le_zero.1 (by simp only [pop, Nat.zero_testBit]; rw [pop_big (n := 0) (by decide) (by omega)]; simp [pop])])
/-- 1, or -1 for an odd number. -/
def sgn (c : Nat) : Int := if c % 2 = 0 then 1 else -1
theorem sgn_succ (c : Nat) : sgn (c + 1) = -sgn c := by
  unfold sgn
  by_cases h : c % 2 = 0
  · rw [if_pos h, if_neg (by omega)]
  · rw [if_neg h, if_pos (by omega)]; rfl
/-- The determinant of the first r rows, over the columns of s. -/
def Dn (a : Nat → Nat → Int) (n : Nat) : Nat → Nat → Int
  | 0, _ => 1
  | r + 1, s => sumTo n fun k => if s.testBit k then sgn (above n s k) * a r k * Dn a n r (del s k) else 0
/-- The determinant of as many rows as s has columns. -/
def Ds (a : Nat → Nat → Int) (n s : Nat) : Int := Dn a n (pop n s) s
def term (a : Nat → Nat → Int) (n s k : Nat) : Int := sgn (above n s k) * a (pop n s - 1) k * Ds a n (del s k)
theorem Ds_sum {a : Nat → Nat → Int} {n s : Nat} (h : pop n s ≠ 0) : Ds a n s = sumTo n fun k => if s.testBit k then term a n s k else 0 := by
  unfold Ds
  obtain ⟨r, hr⟩ : ∃ r, pop n s = r + 1 := ⟨pop n s - 1, by omega⟩
  rw [hr]
  simp only [Dn]
  refine sumTo_congr fun k hk => ?_
  by_cases hb : s.testBit k = true
  · rw [if_pos hb, if_pos hb]
    unfold term Ds
    rw [pop_del hk hb] at hr
    rw [pop_del hk hb, show pop n (del s k) = r by omega]
    rfl
  · rw [if_neg hb, if_neg hb]
theorem pop_ne {n s : Nat} (hs : s < 2 ^ n) (h0 : s ≠ 0) : pop n s ≠ 0 := by
  intro h
  apply h0
  apply Nat.eq_of_testBit_eq
  intro i
  rw [Nat.zero_testBit]
  by_cases hi : i < n
  · cases hb : s.testBit i
    · rfl
    · have := pop_del hi hb; omega
  · exact Nat.testBit_lt_two_pow (Nat.lt_of_lt_of_le hs (Nat.pow_le_pow_right (by decide) (by omega)))
theorem Ds_zero (a : Nat → Nat → Int) (n : Nat) : Ds a n 0 = 1 := by
  unfold Ds
  rw [show pop n 0 = 0 from by rw [pop_big (n := 0) (by decide) (by omega)]; rfl]
  rfl
theorem pop_full (n : Nat) : pop n (2 ^ n - 1) = n := by
  have : ∀ m, m ≤ n → pop m (2 ^ n - 1) = m := by
    intro m
    induction m with
    | zero => intro _; rfl
    | succ m ih =>
      intro h
      simp only [pop]
      rw [ih (by omega), Nat.testBit_two_pow_sub_one]
      simp
      omega
  exact this n (Nat.le_refl n)
theorem pop_max {n s : Nat} (hs : s < 2 ^ n) (h : pop n s = n) : ∀ i, i < n → s.testBit i = true := by
  intro i hi
  cases hb : s.testBit i
  · exfalso
    have h1 : (s ||| 2 ^ i).testBit i = true := by rw [Nat.testBit_or, Nat.testBit_two_pow]; simp
    have h2 := pop_del hi h1
    have h3 : del (s ||| 2 ^ i) i = s := by
      apply Nat.eq_of_testBit_eq
      intro j
      rw [testBit_del, Nat.testBit_or, Nat.testBit_two_pow]
      by_cases e : j = i
      · subst e; simp [hb]
      · simp [e, show ¬ i = j from fun e' => e e'.symm]
    rw [h3] at h2
    have := pop_le n (s ||| 2 ^ i)
    omega
  · rfl
theorem pop_le_exp {n s : Nat} : pop n s ≤ n := pop_le n s
end Go.Proofs.Ytbenbfhpbnepmaa.P

namespace Go.Proofs.Ytbenbfhpbnepmaa.P
open Go.RowKit Go.Proofs.YtbenbfhpbnepmaaW.PrintWords
set_option linter.unusedVariables false
set_option linter.unusedSimpArgs false

def p1 (x : Nat) : Nat := ((x / 2) &&& 6148914691236517205) + (x &&& 6148914691236517205)
def p2 (x : Nat) : Nat := ((x / 4) &&& 3689348814741910323) + (x &&& 3689348814741910323)
def p3 (x : Nat) : Nat := (x / 16 + x) &&& 1085102592571150095
theorem and_split {a m : Nat} (b M : Nat) (ha : a < 256) (hm : m < 256) : (256 * b + a) &&& (256 * M + m) = 256 * (b &&& M) + (a &&& m) := by
  apply Nat.eq_of_testBit_eq
  intro i
  have h1 := Nat.testBit_two_pow_mul_add b (i := 8) ha i
  have h2 := Nat.testBit_two_pow_mul_add M (i := 8) hm i
  have h3 := Nat.testBit_two_pow_mul_add (b &&& M) (i := 8) (b := a &&& m) (Nat.lt_of_le_of_lt Nat.and_le_left ha) i
  simp only [show (2 : Nat) ^ 8 = 256 from rfl] at h1 h2 h3
  rw [Nat.testBit_and, h1, h2, h3]
  split <;> simp [Nat.testBit_and]
theorem p1_split (b a : Nat) (ha : a < 256) : p1 (256 * b + a) = 256 * (((b / 2) &&& 24019198012642645) + (b &&& 24019198012642645)) + p1 a := by
  have e1 : (256 * b + a) / 2 = 256 * (b / 2) + (128 * (b % 2) + a / 2) := by omega
  have e2 : ∀ c, c < 2 → ∀ a, a < 256 → (128 * c + a / 2) &&& 85 = (a / 2) &&& 6148914691236517205 := by decide +kernel
  have e3 : ∀ a, a < 256 → a &&& 85 = a &&& 6148914691236517205 := by decide +kernel
  unfold p1
  rw [e1, show (6148914691236517205 : Nat) = 256 * 24019198012642645 + 85 from rfl, and_split _ _ (by omega) (by decide), and_split _ _ ha (by decide), ← show (6148914691236517205 : Nat) = 256 * 24019198012642645 + 85 from rfl, e2 _ (Nat.mod_lt _ (by decide)) a ha, e3 a ha]
  omega
theorem p2_split (b a : Nat) (ha : a < 256) : p2 (256 * b + a) = 256 * (((b / 4) &&& 14411518807585587) + (b &&& 14411518807585587)) + p2 a := by
  have e1 : (256 * b + a) / 4 = 256 * (b / 4) + (64 * (b % 4) + a / 4) := by omega
  have e2 : ∀ c, c < 4 → ∀ a, a < 256 → (64 * c + a / 4) &&& 51 = (a / 4) &&& 3689348814741910323 := by decide +kernel
  have e3 : ∀ a, a < 256 → a &&& 51 = a &&& 3689348814741910323 := by decide +kernel
  unfold p2
  rw [e1, show (3689348814741910323 : Nat) = 256 * 14411518807585587 + 51 from rfl, and_split _ _ (by omega) (by decide), and_split _ _ ha (by decide), ← show (3689348814741910323 : Nat) = 256 * 14411518807585587 + 51 from rfl, e2 _ (Nat.mod_lt _ (by decide)) a ha, e3 a ha]
  omega
theorem p3_split (b a : Nat) (ha : a < 72) (hb : b % 16 ≤ 4) : p3 (256 * b + a) = 256 * ((b / 16 + b) &&& 4238682002231055) + p3 a := by
  have e1 : (256 * b + a) / 16 + (256 * b + a) = 256 * (b / 16 + b) + (16 * (b % 16) + a / 16 + a) := by omega
  have e2 : ∀ c, c < 5 → ∀ a, a < 72 → (16 * c + a / 16 + a) &&& 15 = (a / 16 + a) &&& 1085102592571150095 := by decide +kernel
  unfold p3
  rw [e1, show (1085102592571150095 : Nat) = 256 * 4238682002231055 + 15 from rfl, and_split _ _ (by omega) (by decide), ← show (1085102592571150095 : Nat) = 256 * 4238682002231055 + 15 from rfl, e2 _ (by omega) a ha]
theorem byte : ∀ a, a < 256 → p1 a < 256 ∧ p1 a % 4 ≤ 2 ∧ p2 (p1 a) < 72 ∧ p2 (p1 a) % 16 ≤ 4 ∧ p3 (p2 (p1 a)) = pop 8 a := by decide +kernel
theorem and_low {b M : Nat} (hb : b < 65536) : b &&& M = b &&& (M % 65536) := by
  have h := Nat.and_mod_two_pow (a := b) (b := M) (n := 16)
  simp only [show (2 : Nat) ^ 16 = 65536 from rfl] at h
  rw [Nat.mod_eq_of_lt hb, Nat.mod_eq_of_lt (Nat.lt_of_le_of_lt Nat.and_le_left hb)] at h
  exact h
theorem p1_hi {b : Nat} (hb : b < 65536) : ((b / 2) &&& 24019198012642645) + (b &&& 24019198012642645) = p1 b := by
  unfold p1
  rw [and_low (show b / 2 < 65536 by omega), and_low hb, and_low (M := 6148914691236517205) (show b / 2 < 65536 by omega), and_low (M := 6148914691236517205) hb]
theorem p2_hi {b : Nat} (hb : b < 65536) : ((b / 4) &&& 14411518807585587) + (b &&& 14411518807585587) = p2 b := by
  unfold p2
  rw [and_low (show b / 4 < 65536 by omega), and_low hb, and_low (M := 3689348814741910323) (show b / 4 < 65536 by omega), and_low (M := 3689348814741910323) hb]
theorem p3_hi {b : Nat} (hb : b < 61680) : (b / 16 + b) &&& 4238682002231055 = p3 b := by
  unfold p3
  rw [and_low (show b / 16 + b < 65536 by omega), and_low (M := 1085102592571150095) (show b / 16 + b < 65536 by omega)]
theorem p3_three {a b c : Nat} (ha : a < 256) (hb : b < 256) (hc : c < 256) : p3 (p2 (p1 (256 * (256 * c + b) + a))) = 256 * (256 * pop 8 c + pop 8 b) + pop 8 a := by
  obtain ⟨a1, _, a2, a3, a4⟩ := byte a ha
  obtain ⟨b1, _, b2, b3, b4⟩ := byte b hb
  obtain ⟨c1, _, c2, c3, c4⟩ := byte c hc
  rw [p1_split _ _ ha, p1_hi (by omega), p1_split _ _ hb, p1_hi (by omega)]
  rw [p2_split _ _ a1, p2_hi (by omega), p2_split _ _ b1, p2_hi (by omega)]
  rw [p3_split _ _ a2 (by omega), p3_hi (by omega), p3_split _ _ b2 c3, p3_hi (by omega), a4, b4, c4]
theorem pop24 (a b c : Nat) (ha : a < 256) (hb : b < 256) (hc : c < 256) : pop 24 (256 * (256 * c + b) + a) = pop 8 a + pop 8 b + pop 8 c := by
  rw [show 24 = 8 + (8 + 8) from rfl, pop_add, pop_add, show (2 : Nat) ^ 8 = 256 from rfl, show (256 * (256 * c + b) + a) / 256 = 256 * c + b by omega, show (256 * c + b) / 256 = c by omega]
  rw [← pop_mod 8 (256 * (256 * c + b) + a), ← pop_mod 8 (256 * c + b), show (2 : Nat) ^ 8 = 256 from rfl, show (256 * (256 * c + b) + a) % 256 = a by omega, show (256 * c + b) % 256 = b by omega, Nat.add_assoc]
theorem u64_small {n : Nat} (h : n < 18446744073709551616) : IntKind.u64.wrap (n : Int) = n := by
  rw [IntKind.wrap_u64]; omega
theorem u64_and {a b : Nat} (ha : a < 9223372036854775808) (hb : b < 9223372036854775808) : Go.bits .and .u64 a b = ((a &&& b : Nat) : Int) :=
  (bits_nat .u64 63 (by decide) (fun n h0 h1 => by rw [IntKind.wrap_u64]; omega) a b (by simpa using ha) (by simpa using hb)).1
def s1 (a : Int) : Int := IntKind.u64.wrap ((Go.bits .and .u64 (a / 2) 6148914691236517205) + (Go.bits .and .u64 a 6148914691236517205))
def s2 (a : Int) : Int := IntKind.u64.wrap ((Go.bits .and .u64 (a / 4) 3689348814741910323) + (Go.bits .and .u64 a 3689348814741910323))
def s3 (a : Int) : Int := Go.bits .and .u64 (IntKind.u64.wrap (a / 16 + a)) 1085102592571150095
def s4 (a : Int) : Int := IntKind.u64.wrap (a + a / 256)
def s5 (a : Int) : Int := IntKind.u64.wrap (a + a / 65536)
def s6 (a : Int) : Int := IntKind.u64.wrap (a + a / 4294967296)
theorem ones_steps (a : Int) : bits_OnesCount.f a = some (Go.bits .and .i64 (wrap64 (s6 (s5 (s4 (s3 (s2 (s1 a))))))) 127) := rfl
theorem s1_nat {a : Nat} (h : a < 16777216) : s1 (a : Int) = (p1 a : Int) := by
  unfold s1 p1
  rw [show ((a : Int) / 2) = ((a / 2 : Nat) : Int) by omega, show (6148914691236517205 : Int) = ((6148914691236517205 : Nat) : Int) from rfl, u64_and (by omega) (by decide), u64_and (by omega) (by decide)]
  have h1 : (a / 2 &&& 6148914691236517205) ≤ a / 2 := Nat.and_le_left
  have h2 : (a &&& 6148914691236517205) ≤ a := Nat.and_le_left
  rw [← Int.natCast_add, u64_small (by omega)]
theorem s2_nat {a : Nat} (h : a < 67108864) : s2 (a : Int) = (p2 a : Int) := by
  unfold s2 p2
  rw [show ((a : Int) / 4) = ((a / 4 : Nat) : Int) by omega, show (3689348814741910323 : Int) = ((3689348814741910323 : Nat) : Int) from rfl, u64_and (by omega) (by decide), u64_and (by omega) (by decide)]
  have h1 : (a / 4 &&& 3689348814741910323) ≤ a / 4 := Nat.and_le_left
  have h2 : (a &&& 3689348814741910323) ≤ a := Nat.and_le_left
  rw [← Int.natCast_add, u64_small (by omega)]
theorem s3_nat {a : Nat} (h : a < 268435456) : s3 (a : Int) = (p3 a : Int) := by
  unfold s3 p3
  rw [show ((a : Int) / 16 + a) = ((a / 16 + a : Nat) : Int) by omega, u64_small (by omega), show (1085102592571150095 : Int) = ((1085102592571150095 : Nat) : Int) from rfl, u64_and (by omega) (by decide)]
/-- The library's count of bits. -/
theorem ones_eq {s : Nat} (h : s < 16777216) : bits_OnesCount.f (s : Int) = some (pop 24 s : Int) := by
  rw [ones_steps]
  have h1 : p1 s < 67108864 := by
    unfold p1
    have h1 : (s / 2 &&& 6148914691236517205) ≤ s / 2 := Nat.and_le_left
    have h2 : (s &&& 6148914691236517205) ≤ s := Nat.and_le_left
    omega
  have h2 : p2 (p1 s) < 268435456 := by
    unfold p2
    have h3 : (p1 s / 4 &&& 3689348814741910323) ≤ p1 s / 4 := Nat.and_le_left
    have h4 : (p1 s &&& 3689348814741910323) ≤ p1 s := Nat.and_le_left
    omega
  rw [s1_nat h, s2_nat h1, s3_nat h2]
  obtain ⟨a, b, c, ha, hb, hc, rfl⟩ : ∃ a b c, a < 256 ∧ b < 256 ∧ c < 256 ∧ s = 256 * (256 * c + b) + a := ⟨s % 256, s / 256 % 256, s / 65536, by omega, by omega, by omega, by omega⟩
  rw [p3_three ha hb hc, pop24 _ _ _ ha hb hc]
  have qa := pop_le 8 a
  have qb := pop_le 8 b
  have qc := pop_le 8 c
  generalize pop 8 a = x at *
  generalize pop 8 b = y at *
  generalize pop 8 c = z at *
  have e4 : s4 ((256 * (256 * z + y) + x : Nat) : Int) = ((65536 * z + 256 * (y + z) + (x + y) : Nat) : Int) := by
    unfold s4
    rw [show (((256 * (256 * z + y) + x : Nat) : Int) + ((256 * (256 * z + y) + x : Nat) : Int) / 256) = ((65536 * z + 256 * (y + z) + (x + y) : Nat) : Int) by omega, u64_small (by omega)]
  have e5 : s5 ((65536 * z + 256 * (y + z) + (x + y) : Nat) : Int) = ((65536 * z + 256 * (y + z) + (x + y + z) : Nat) : Int) := by
    unfold s5
    rw [show (((65536 * z + 256 * (y + z) + (x + y) : Nat) : Int) + ((65536 * z + 256 * (y + z) + (x + y) : Nat) : Int) / 65536) = ((65536 * z + 256 * (y + z) + (x + y + z) : Nat) : Int) by omega, u64_small (by omega)]
  have e6 : s6 ((65536 * z + 256 * (y + z) + (x + y + z) : Nat) : Int) = ((65536 * z + 256 * (y + z) + (x + y + z) : Nat) : Int) := by
    unfold s6
    rw [show (((65536 * z + 256 * (y + z) + (x + y + z) : Nat) : Int) + ((65536 * z + 256 * (y + z) + (x + y + z) : Nat) : Int) / 4294967296) = ((65536 * z + 256 * (y + z) + (x + y + z) : Nat) : Int) by omega, u64_small (by omega)]
  rw [e4, e5, e6, wrap64_id (by omega) (by omega), show (127 : Int) = ((127 : Nat) : Int) from rfl, bits_and (by omega) (by decide)]
  congr 2
  rw [show (127 : Nat) = 2 ^ 7 - 1 from rfl, Nat.and_two_pow_sub_one_eq_mod]
  omega
theorem ones_eq' {n s : Nat} (hn : n ≤ 24) (h : s < 2 ^ n) : bits_OnesCount.f (s : Int) = some (pop n s : Int) := by
  rw [ones_eq (Nat.lt_of_lt_of_le h (Nat.pow_le_pow_right (by decide) hn)), pop_big h hn]
end Go.Proofs.Ytbenbfhpbnepmaa.P

namespace Go.Proofs.Ytbenbfhpbnepmaa.P
open Go.RowKit Go.Proofs.YtbenbfhpbnepmaaW.PrintWords
set_option linter.unusedVariables false
set_option linter.unusedSimpArgs false

theorem wrap64_shift (x q : Int) : wrap64 (x + 18446744073709551616 * q) = wrap64 x := by unfold wrap64; omega
theorem wrap64_rep (x : Int) : ∃ q, wrap64 x = x + 18446744073709551616 * q := by
  refine ⟨-((x + 9223372036854775808) / 18446744073709551616), ?_⟩
  unfold wrap64
  omega
theorem wrap64_wrap (x : Int) : wrap64 (wrap64 x) = wrap64 x := by unfold wrap64; omega
theorem wrap64_addl (x y : Int) : wrap64 (wrap64 x + y) = wrap64 (x + y) := by unfold wrap64; omega
theorem wrap64_addr (x y : Int) : wrap64 (x + wrap64 y) = wrap64 (x + y) := by unfold wrap64; omega
theorem wrap64_add (x y : Int) : wrap64 (wrap64 x + wrap64 y) = wrap64 (x + y) := by unfold wrap64; omega
theorem wrap64_sub (x y : Int) : wrap64 (wrap64 x - wrap64 y) = wrap64 (x - y) := by unfold wrap64; omega
theorem wrap64_neg (x : Int) : wrap64 (-wrap64 x) = wrap64 (-x) := by unfold wrap64; omega
theorem wrap64_mull (x y : Int) : wrap64 (wrap64 x * y) = wrap64 (x * y) := by
  obtain ⟨q, hq⟩ := wrap64_rep x
  rw [hq, Int.add_mul, Int.mul_assoc, wrap64_shift]
theorem wrap64_mulr (x y : Int) : wrap64 (x * wrap64 y) = wrap64 (x * y) := by
  rw [Int.mul_comm, wrap64_mull, Int.mul_comm]
theorem wrap64_mul (x y : Int) : wrap64 (wrap64 x * wrap64 y) = wrap64 (x * y) := by rw [wrap64_mull, wrap64_mulr]
end Go.Proofs.Ytbenbfhpbnepmaa.P

namespace Go.Proofs.Ytbenbfhpbnepmaa.P
open Go.RowKit Go.Proofs.YtbenbfhpbnepmaaW.PrintWords Go.Proofs.YtbenbfhpbnepmaaW.PrintLast Go.Proofs.YtbenbfhpbnepmaaW.PrintMore
attribute [local go_sem] max2_int min2_int max_two min_two max_three min_three max_four min_four   -- for this text's walks alone
set_option linter.unusedVariables false
set_option linter.unusedSimpArgs false

/-! ### laws_markIntS: function 58 -/
def laws_markIntS.l0 : Nat → List Int → Int → Int → Option (Int × List Int)
  | 0, _, _, _ => none
  | k + 1, x0, x1, x5 => if x5 < (x0.length : Int) then (if 0 ≤ x5 then (laws_markIntS.l0 k (x0.set (x5 : Int).toNat x1) (wrap64 (x1 + 1)) (wrap64 (x5 + 1))) else (none)) else (some (x1, x0))
def laws_markIntS.f (k : Nat) (l0 : List Int) (a1 : Int) : Option (Int × List Int) := laws_markIntS.l0 k l0 a1 0
theorem laws_markIntS.mono_l : ∀ k, (∀ y0 y1 y2, LeO (laws_markIntS.l0 k y0 y1 y2) (laws_markIntS.l0 (k + 1) y0 y1 y2))
  | 0 => fun _ _ _ r h => by simp [laws_markIntS.l0] at h
  | k + 1 => by
    have ih0 := laws_markIntS.mono_l k
    · intro y0 y1 y2
      unfold laws_markIntS.l0
      repeat' first
      | (with_reducible exact ih0 _ _ _)
      | (with_reducible exact LeO.refl _)
      | (with_reducible exact LeO.none _)
      | (with_reducible refine LeO.ite ?_ ?_)
      | (with_reducible refine LeO.bind ?_ (fun _ => ?_))
      | exact ih0 _ _ _
      | exact LeO.none _
      | refine LeO.ite ?_ ?_
      | refine LeO.bind ?_ (fun _ => ?_)
theorem laws_markIntS.mono : ∀ a0 a1 k, LeO (laws_markIntS.f k a0 a1) (laws_markIntS.f (k + 1) a0 a1) := by
  intro a0 a1 k
  have ih0 := laws_markIntS.mono_l k
  unfold laws_markIntS.f
  repeat' first
      | (with_reducible exact ih0 _ _ _)
      | (with_reducible exact LeO.refl _)
      | (with_reducible exact LeO.none _)
      | (with_reducible refine LeO.ite ?_ ?_)
      | (with_reducible refine LeO.bind ?_ (fun _ => ?_))
      | exact ih0 _ _ _
      | exact LeO.none _
      | refine LeO.ite ?_ ?_
      | refine LeO.bind ?_ (fun _ => ?_)
set_option maxHeartbeats 8000000 in
set_option maxRecDepth 100000 in
theorem laws_markIntS.calls (k : Nat) (P0_ : Nat → Prop) (u9000_ : Value) (l0 : List Int) (a1 : Int) (r1 : Int) (r2 : List Int) (w0 w : World) (hB : Below w0.heap.size w0 w) (ho0 : Kd.R (Kd.int .i64) 3 w w0.heap.size P0_ u9000_ l0) (h : laws_markIntS.f k l0 a1 = some (r1, r2)) :
    Calls Try.prog 58 #[u9000_, .int .i64 a1] w fun e w' => e = .returned (.int .i64 r1) ∧ Kd.R (Kd.int .i64) 3 w' w0.heap.size (fun k_ => (P0_ k_ ∨ w.heap.size ≤ k_)) u9000_ r2 ∧ Below w0.heap.size w0 w' ∧ Kept w w' (fun k_ => P0_ k_) := by
  have HO0 := Aside0.mk (show Kd.R (Kd.int .i64) 3 w w0.heap.size (fun k_ => (P0_ k_ ∨ w.heap.size ≤ k_)) u9000_ l0 from Kd.R_mono ho0 (fun k_ hk => (.inl hk)))
  have HK := Aside0.mk (Kept.refl w (fun k_ => P0_ k_))
  have HW0 := Aside0.mk hB.size
  have HB := Aside0.mk hB
  clear hB
  have H : (laws_markIntS.l0 k l0 a1 0) = some (r1, r2) := h
  clear h
  have H' := Aside0.mk H
  clear H
  go_enter Try.func58, Try.ntmps58
  go_wp2
  go_loopg [1, 5] k (fun kq v1 v5 w' => ∃ (x0_1 : List Int) (x1_1 : Int) (x5_1 : Int), v1 = .int .i64 x1_1 ∧ v5 = .int .i64 x5_1 ∧ Aside0 (laws_markIntS.l0 kq x0_1 x1_1 x5_1 = some (r1, r2)) ∧ Aside0 (kq ≤ k) ∧ Aside0 (Kd.R (Kd.int .i64) 3 w' w0.heap.size (fun k_ => (P0_ k_ ∨ w.heap.size ≤ k_)) u9000_ x0_1) ∧ Aside0 (Kept w w' (fun k_ => P0_ k_)) ∧ Aside0 (Below w0.heap.size w0 w'))
  case atStart => exact ⟨(l0), (a1), (0), (by first | rfl | (simp; done) | (simp [*]; done)), (by first | rfl | (simp; done) | (simp [*]; done)), H', ⟨Nat.le_refl _⟩, ⟨by (with_reducible repeat (first | apply Kd.R_alloc | apply Kd.R_drewN | apply Kd.R_drew)); exact HO0.out⟩, ⟨by repeat (first | (with_reducible first | exact HK.out | apply Kept.alloc | apply Kept.drewN | apply Kept.drew) | exact HK.out)⟩, ⟨by repeat (first | (with_reducible first | exact HB.out | apply below_alloc | apply pw_below_drewN | apply below_drew1) | exact HB.out)⟩⟩
  case round =>
    clear H'
    try clear p2
    obtain ⟨x0_1, x1_1, x5_1, rfl, rfl, HA, HK1, HO_0, HK, HB⟩ := hrel
    cases gk with
    | zero => exact absurd HA.out (by simp [laws_markIntS.l0])
    | succ k1 =>
      have H := HA.out
      clear HA
      simp only [laws_markIntS.l0] at H
      by_cases c3 : x5_1 < (x0_1.length : Int)
      · rw [if_pos c3] at H
        have c3b0 : decide (x5_1 < (x0_1.length : Int)) = true := decide_eq_true c3
        clear c3
        by_cases c4 : 0 ≤ x5_1
        · rw [if_pos c4] at H
          have c4b0 : decide (0 ≤ x5_1) = true := decide_eq_true c4
          clear c4
          obtain ⟨y101, hy101⟩ : ∃ y_ : List Int, y_ = (x0_1.set (x5_1 : Int).toNat x1_1) := ⟨_, rfl⟩
          replace H : (laws_markIntS.l0 k1 y101 (wrap64 (x1_1 + 1)) (wrap64 (x5_1 + 1))) = some (r1, r2) := by first | (rw [hy101]; with_reducible exact H) | (have H2_ := (Option.bind_some _ _).symm.trans H; rw [hy101]; with_reducible exact H2_) | (have H2_ := (Option.bind_some _ _).symm.trans H; with_reducible exact H2_) | with_reducible exact H | (rw [hy101]; exact H) | exact H
          have Ny101 := Aside0.mk hy101
          clear hy101
          have H' := Aside0.mk H
          clear H
          obtain ⟨Ao6, co6, eo6⟩ := Kd.R_slice HO_0.out
          subst eo6
          have p5 : 0 ≤ (x5_1 : Int) := of_decide_eq_true (by first | (with_reducible assumption) | assumption)
          have q5 : (x5_1 : Int) < ((x0_1.length : Int) : Int) := of_decide_eq_true (by first | (with_reducible assumption) | assumption)
          obtain ⟨go5, co5, eo5, gb5, gl5, cl5, HG5⟩ := Kd.R_form HO_0.out (by omega)
          (first | cases eo5 | (injection eo5 with ea_ en_ ec_; (first | subst ea_ | (injection ea_ with ea_; subst ea_)); subst ec_; clear en_))
          have GB5 := Aside0.mk gb5
          have GG5 := Aside0.mk HG5
          clear gb5 gl5 HG5
          have HMgo5 := Aside0.mk (show (P0_ go5 ∨ w.heap.size ≤ go5) from (HO_0.out.1 _ rfl))
          obtain ⟨hx5_0, hf5_0⟩ := Kd.R_celln 0 HO_0.out (x5_1 : Int) p5 q5
          replace p5 := eq_true p5
          replace q5 := eq_true q5
          have HP7 := Kd.R_putg HO_0.out (x5_1 : Int) x1_1
          go_wp2_with (first | ((with_reducible refine gate_store (t := 3) (p := 15) rfl ?_); refine store_event (t := 3) (p := 15) (v := ?vo_w8) (w1 := (wr.setCell ⟨go5, (x5_1 : Int).toNat, none⟩ (.int .i64 x1_1))) ?hg ?ho ?hn ?hr ?_; (case ho => rfl); (case hg => rfl); (case hn => rfl); (case hr => first | (go_simp; done) | (go_simp; rfl)); intro w8 hw; have hg : wr.grownBy w8 (some go5) := (by rw [hw]; exact HP7.2); have hp_ : Kd.R (Kd.int .i64) 3 w8 w0.heap.size (fun k_ => (P0_ k_ ∨ w.heap.size ≤ k_)) (.slice (some ⟨go5, 0, none⟩) x0_1.length co6) y101 := (by rw [hw, Ny101.out]; exact HP7.1); clear HP7; have n0_ := Aside0.mk (hp_); have n1_ := Aside0.mk ((by rw [hw]; exact below_set (HB.out) GB5.out : Below w0.heap.size w0 w8)); have n2_ := Aside0.mk (Kept.of_grown (S := (fun k_ => P0_ k_)) hg (by repeat (first | (with_reducible first | exact HK.out | apply Kept.alloc | apply Kept.drewN | apply Kept.drew) | exact HK.out)) (fun k_ e_ => (HO_0.out.1 k_ e_))); clear HO_0; clear HB; clear HK; have HO_0 := n0_; have HB := n1_; have HK := n2_; clear n0_ n1_ n2_; clear hg hw hp_))
          go_roundg k1
          case measure => have := HK1.out; omega
          case rel => exact ⟨(y101), (wrap64 (x1_1 + 1)), (wrap64 (x5_1 + 1)), (by first | rfl | (simp; done) | (simp [*]; done)), (by first | rfl | (simp; done) | (simp [*]; done)), H', ⟨by have := HK1.out; omega⟩, ⟨by (with_reducible repeat (first | apply Kd.R_alloc | apply Kd.R_drewN | apply Kd.R_drew)); exact HO_0.out⟩, ⟨by repeat (first | (with_reducible first | exact HK.out | apply Kept.alloc | apply Kept.drewN | apply Kept.drew) | exact HK.out)⟩, ⟨by repeat (first | (with_reducible first | exact HB.out | apply below_alloc | apply pw_below_drewN | apply below_drew1) | exact HB.out)⟩⟩
        · rw [if_neg c4] at H
          exact absurd H (by simp)
      · rw [if_neg c3] at H
        have c3b0 : decide (x5_1 < (x0_1.length : Int)) = false := decide_eq_false c3
        clear c3
        simp only [Option.some.injEq, Prod.mk.injEq] at H
        obtain ⟨rfl, rfl⟩ := H
        obtain ⟨Ao9, co9, eo9⟩ := Kd.R_slice HO_0.out
        subst eo9
        go_wp2
        go_ret
        exact ⟨by first | rfl | (simp [errW_none, errW_some] <;> rfl) | (simp [*, errW_none, errW_some] <;> rfl), by (with_reducible repeat (first | apply Kd.R_alloc | apply Kd.R_drewN | apply Kd.R_drew)); exact HO_0.out, by repeat (first | (with_reducible first | exact HB.out | apply below_alloc | apply pw_below_drewN | apply below_drew1) | exact HB.out), by repeat (first | (with_reducible first | exact HK.out | apply Kept.alloc | apply Kept.drewN | apply Kept.drew) | exact HK.out)⟩

end Go.Proofs.Ytbenbfhpbnepmaa.P

namespace Go.Proofs.Ytbenbfhpbnepmaa.P
open Go.RowKit Go.Proofs.YtbenbfhpbnepmaaW.PrintWords Go.Proofs.YtbenbfhpbnepmaaW.PrintLast Go.Proofs.YtbenbfhpbnepmaaW.PrintMore
attribute [local go_sem] max2_int min2_int max_two min_two max_three min_three max_four min_four   -- for this text's walks alone
set_option linter.unusedVariables false
set_option linter.unusedSimpArgs false

/-! ### laws_heldIntS: function 59 -/
def laws_heldIntS.l0 : Nat → List Int → Int → Int → Option (Int)
  | 0, _, _, _ => none
  | k + 1, x0, x1, x5 => if x5 < (x0.length : Int) then (if 0 ≤ x5 then (if (rd x0 x5) = x1 then (laws_heldIntS.l0 k x0 (wrap64 (x1 + 1)) (wrap64 (x5 + 1))) else (some (-1))) else (none)) else (some x1)
def laws_heldIntS.f (k : Nat) (l0 : List Int) (a1 : Int) : Option (Int) := laws_heldIntS.l0 k l0 a1 0
theorem laws_heldIntS.mono_l : ∀ k, (∀ y0 y1 y2, LeO (laws_heldIntS.l0 k y0 y1 y2) (laws_heldIntS.l0 (k + 1) y0 y1 y2))
  | 0 => fun _ _ _ r h => by simp [laws_heldIntS.l0] at h
  | k + 1 => by
    have ih0 := laws_heldIntS.mono_l k
    · intro y0 y1 y2
      unfold laws_heldIntS.l0
      repeat' first
      | (with_reducible exact ih0 _ _ _)
      | (with_reducible exact LeO.refl _)
      | (with_reducible exact LeO.none _)
      | (with_reducible refine LeO.ite ?_ ?_)
      | (with_reducible refine LeO.bind ?_ (fun _ => ?_))
      | exact ih0 _ _ _
      | exact LeO.none _
      | refine LeO.ite ?_ ?_
      | refine LeO.bind ?_ (fun _ => ?_)
theorem laws_heldIntS.mono : ∀ a0 a1 k, LeO (laws_heldIntS.f k a0 a1) (laws_heldIntS.f (k + 1) a0 a1) := by
  intro a0 a1 k
  have ih0 := laws_heldIntS.mono_l k
  unfold laws_heldIntS.f
  repeat' first
      | (with_reducible exact ih0 _ _ _)
      | (with_reducible exact LeO.refl _)
      | (with_reducible exact LeO.none _)
      | (with_reducible refine LeO.ite ?_ ?_)
      | (with_reducible refine LeO.bind ?_ (fun _ => ?_))
      | exact ih0 _ _ _
      | exact LeO.none _
      | refine LeO.ite ?_ ?_
      | refine LeO.bind ?_ (fun _ => ?_)
set_option maxHeartbeats 8000000 in
set_option maxRecDepth 100000 in
theorem laws_heldIntS.calls (k : Nat) (A0 : Option Addr) (c0 : Nat) (l0 : List Int) (a1 : Int) (r : Int) (w : World) (hr0 : Kd.C (Kd.int .i64) w A0 l0.length l0) (hc0 : l0.length ≤ c0) (h : laws_heldIntS.f k l0 a1 = some r) :
    Calls Try.prog 59 #[.slice A0 l0.length c0, .int .i64 a1] w fun e w' => e = .returned (.int .i64 r) ∧ Drawn0 w w' := by
  have HR0 := Aside0.mk hr0
  have HC0 := Aside0.mk hc0
  clear hr0 hc0
  have H : (laws_heldIntS.l0 k l0 a1 0) = some r := h
  clear h
  have H' := Aside0.mk H
  clear H
  go_enter Try.func59, Try.ntmps59
  go_wp2
  go_loopg [1, 5] k (fun kq v1 v5 w' => ∃ (x1_1 : Int) (x5_1 : Int), v1 = .int .i64 x1_1 ∧ v5 = .int .i64 x5_1 ∧ Aside0 (laws_heldIntS.l0 kq l0 x1_1 x5_1 = some r) ∧ Aside0 (kq ≤ k) ∧ Drawn0 w w')
  case atStart => exact ⟨(a1), (0), (by first | rfl | (simp; done) | (simp [*]; done)), (by first | rfl | (simp; done) | (simp [*]; done)), H', ⟨Nat.le_refl _⟩, by repeat (first | exact Drawn0.refl _ | apply Drawn0.step)⟩
  case round =>
    clear H'
    try clear p2
    obtain ⟨x1_1, x5_1, rfl, rfl, HA, HK1, ⟨m1, rfl⟩⟩ := hrel
    cases gk with
    | zero => exact absurd HA.out (by simp [laws_heldIntS.l0])
    | succ k1 =>
      have H := HA.out
      clear HA
      simp only [laws_heldIntS.l0] at H
      by_cases c3 : x5_1 < (l0.length : Int)
      · rw [if_pos c3] at H
        have c3b0 : decide (x5_1 < (l0.length : Int)) = true := decide_eq_true c3
        clear c3
        by_cases c4 : 0 ≤ x5_1
        · rw [if_pos c4] at H
          have c4b0 : decide (0 ≤ x5_1) = true := decide_eq_true c4
          clear c4
          by_cases c5 : (rd l0 x5_1) = x1_1
          · rw [if_pos c5] at H
            have c5b0 : ((rd l0 x5_1) == x1_1) = true := beq_iff_eq.mpr c5
            have c5b1 : ((rd l0 x5_1) != x1_1) = false := bne_eq_false_iff_eq.mpr c5
            clear c5
            have H' := Aside0.mk H
            clear H
            have p101 : 0 ≤ (x5_1 : Int) := of_decide_eq_true (by first | (with_reducible assumption) | assumption)
            have q101 : x5_1 < (l0.length : Int) := of_decide_eq_true (by first | (with_reducible assumption) | assumption)
            obtain ⟨ad101, e101, hx101_0⟩ := Kd.at_int HR0.out x5_1 p101 q101
            cases e101
            replace p101 := eq_true p101
            replace q101 := eq_true q101
            go_wp2
            go_roundg k1
            case measure => have := HK1.out; omega
            case rel => exact ⟨(wrap64 (x1_1 + 1)), (wrap64 (x5_1 + 1)), (by first | rfl | (simp; done) | (simp [*]; done)), (by first | rfl | (simp; done) | (simp [*]; done)), H', ⟨by have := HK1.out; omega⟩, by repeat (first | exact Drawn0.refl _ | apply Drawn0.step)⟩
          · rw [if_neg c5] at H
            have c5b0 : ((rd l0 x5_1) == x1_1) = false := beq_eq_false_iff_ne.mpr c5
            have c5b1 : ((rd l0 x5_1) != x1_1) = true := bne_iff_ne.mpr c5
            obtain rfl := Option.some.inj H
            have p101 : 0 ≤ (x5_1 : Int) := of_decide_eq_true (by first | (with_reducible assumption) | assumption)
            have q101 : x5_1 < (l0.length : Int) := of_decide_eq_true (by first | (with_reducible assumption) | assumption)
            obtain ⟨ad101, e101, hx101_0⟩ := Kd.at_int HR0.out x5_1 p101 q101
            cases e101
            replace p101 := eq_true p101
            replace q101 := eq_true q101
            go_wp2
            go_ret
            exact ⟨by first | rfl | (simp; done) | (simp [*]; done), by repeat (first | exact Drawn0.refl _ | apply Drawn0.step)⟩
        · rw [if_neg c4] at H
          exact absurd H (by simp)
      · rw [if_neg c3] at H
        have c3b0 : decide (x5_1 < (l0.length : Int)) = false := decide_eq_false c3
        clear c3
        obtain rfl := Option.some.inj H
        go_wp2
        go_ret
        exact ⟨by first | rfl | (simp; done) | (simp [*]; done), by repeat (first | exact Drawn0.refl _ | apply Drawn0.step)⟩

end Go.Proofs.Ytbenbfhpbnepmaa.P

namespace Go.Proofs.Ytbenbfhpbnepmaa.P
open Go.RowKit Go.Proofs.YtbenbfhpbnepmaaW.PrintWords
set_option linter.unusedVariables false
set_option linter.unusedSimpArgs false

theorem toIntS_l0 (l : List Int) (hl : l.length ≤ 35184372088832) : ∀ (d i : Nat) (m : List Int), l.length - i = d → i ≤ l.length → m.length = l.length → (∀ j, j < i → rd m j = rd l j) → Ev (fun k => laws_toIntS.l0 k l m i) l
  | 0, i, m, hd, hi, hm, he => by
    refine Ev.step (fun _ => laws_toIntS.l0.eq_2 ..) ?_
    refine Ev.ff (by omega) (Ev.ret ?_)
    refine List.ext_getElem hm fun j h1 h2 => ?_
    have := he j (by omega)
    rwa [rd_get h1, rd_get h2] at this
  | d + 1, i, m, hd, hi, hm, he => by
    refine Ev.step (fun _ => laws_toIntS.l0.eq_2 ..) ?_
    refine Ev.tt (by omega) (Ev.tt (by omega) (Ev.tt (by omega) ?_))
    rw [wsucc (by omega)]
    refine toIntS_l0 l hl d (i + 1) _ (by omega) (by omega) (by rw [List.length_set]; exact hm) fun j hj => ?_
    by_cases e : j = i
    · subst e
      rw [rd_get (by rw [List.length_set]; omega)]
      simp [rd_get (show j < l.length by omega)]
    · rw [← he j (by omega), rd_get (by rw [List.length_set]; omega), rd_get (by omega)]
      simp only [Int.toNat_natCast]
      rw [List.getElem_set_ne (by omega), rd_get (by omega)]
theorem toIntS_ev (l : List Int) (hl : l.length ≤ 35184372088832) : Ev (fun k => laws_toIntS.f k l) l := by
  unfold laws_toIntS.f
  refine Ev.tt (by omega) (Ev.tt (by omega) ?_)
  exact toIntS_l0 l hl l.length 0 _ (by omega) (by omega) (by simp) (fun j hj => by omega)

theorem eqIntS_l0 (a b : List Int) (hl : a.length = b.length) (hb : b.length ≤ 35184372088832) : ∀ (d i : Nat), a.length - i = d → i ≤ a.length → Ev (fun k => laws_eqIntS.l0 k a b i) (decide (a.drop i = b.drop i))
  | 0, i, hd, hi => by
    refine Ev.step (fun _ => laws_eqIntS.l0.eq_2 ..) ?_
    refine Ev.ff (by omega) (Ev.ret ?_)
    rw [List.drop_eq_nil_of_le (by omega), List.drop_eq_nil_of_le (by omega)]
    rfl
  | d + 1, i, hd, hi => by
    refine Ev.step (fun _ => laws_eqIntS.l0.eq_2 ..) ?_
    refine Ev.tt (by omega) (Ev.tt (by omega) (Ev.tt (by omega) ?_))
    have h1 : a.drop i = a[i]'(by omega) :: a.drop (i + 1) := List.drop_eq_getElem_cons (by omega)
    have h2 : b.drop i = b[i]'(by omega) :: b.drop (i + 1) := List.drop_eq_getElem_cons (by omega)
    rw [rd_get (show i < a.length by omega), rd_get (show i < b.length by omega), h1, h2]
    refine Ev.ite (fun e => ?_) (fun e => ?_)
    · rw [wsucc (by omega)]
      refine Ev.eq (eqIntS_l0 a b hl hb d (i + 1) (by omega) (by omega)) ?_
      rw [decide_eq_decide, List.cons.injEq, e]
      simp only [true_and]
    · refine Ev.ret ?_
      symm
      rw [decide_eq_false_iff_not, List.cons.injEq]
      exact fun h => e h.1
theorem eqIntS_ev (a b : List Int) (hb : b.length ≤ 35184372088832) : Ev (fun k => laws_eqIntS.f k a b) (decide (a = b)) := by
  unfold laws_eqIntS.f
  refine Ev.ite (fun h => ?_) (fun h => ?_)
  · have := eqIntS_l0 a b (by omega) hb a.length 0 (by omega) (by omega)
    simpa using this
  · refine Ev.ret ?_
    have : a ≠ b := by rintro rfl; exact h rfl
    simp [this]

/-- m, m + 1, .. : d of them. -/
def marks (m d : Nat) : List Int := (List.range d).map fun t => ((m + t : Nat) : Int)
theorem marks_length (m d : Nat) : (marks m d).length = d := by simp [marks]
theorem marks_succ (m d : Nat) : marks m (d + 1) = (m : Int) :: marks (m + 1) d := by
  simp only [marks, List.range_succ_eq_map, List.map_cons, List.map_map, Nat.add_zero]
  congr 1
  apply List.map_congr_left
  intro t _
  simp only [Function.comp, Nat.succ_eq_add_one]
  congr 1
  omega
theorem markIntS_l0 : ∀ (d i m : Nat) (l : List Int), l.length - i = d → i ≤ l.length → l.length ≤ 35184372088832 → m + d ≤ 35184372088839 → Ev (fun k => laws_markIntS.l0 k l m i) (((m + d : Nat) : Int), l.take i ++ marks m d)
  | 0, i, m, l, hd, hi, hl, hm => by
    refine Ev.step (fun _ => laws_markIntS.l0.eq_2 ..) ?_
    refine Ev.ff (by omega) (Ev.ret ?_)
    rw [List.take_of_length_le (by omega)]
    simp [marks]
  | d + 1, i, m, l, hd, hi, hl, hm => by
    refine Ev.step (fun _ => laws_markIntS.l0.eq_2 ..) ?_
    refine Ev.tt (by omega) (Ev.tt (by omega) ?_)
    rw [wsucc (by omega), wsucc (by omega)]
    simp only [Int.toNat_natCast]
    refine Ev.eq (markIntS_l0 d (i + 1) (m + 1) (l.set i m) (by rw [List.length_set]; omega) (by rw [List.length_set]; omega) (by rw [List.length_set]; omega) (by omega)) ?_
    rw [marks_succ, List.take_succ_eq_append_getElem (by rw [List.length_set]; omega), List.take_set_of_le (Nat.le_refl _)]
    simp
    omega
theorem markIntS_ev (l : List Int) (hl : l.length ≤ 35184372088832) : Ev (fun k => laws_markIntS.f k l 1) (((1 + l.length : Nat) : Int), marks 1 l.length) := by
  unfold laws_markIntS.f
  have := markIntS_l0 l.length 0 1 l (by omega) (by omega) hl (by omega)
  simpa using this
theorem heldIntS_l0 : ∀ (d i m : Nat) (l : List Int), l.length - i = d → i ≤ l.length → l.length ≤ 35184372088832 → m + d ≤ 35184372088839 → l.drop i = marks m d → Ev (fun k => laws_heldIntS.l0 k l m i) ((m + d : Nat) : Int)
  | 0, i, m, l, hd, hi, hl, hm, he => by
    refine Ev.step (fun _ => laws_heldIntS.l0.eq_2 ..) ?_
    exact Ev.ff (by omega) (Ev.ret rfl)
  | d + 1, i, m, l, hd, hi, hl, hm, he => by
    refine Ev.step (fun _ => laws_heldIntS.l0.eq_2 ..) ?_
    refine Ev.tt (by omega) (Ev.tt (by omega) ?_)
    rw [List.drop_eq_getElem_cons (by omega), marks_succ] at he
    injection he with h1 h2
    rw [rd_get (show i < l.length by omega), h1]
    refine Ev.tt rfl ?_
    rw [wsucc (by omega), wsucc (by omega)]
    refine Ev.eq (heldIntS_l0 d (i + 1) (m + 1) l (by omega) (by omega) hl (by omega) h2) ?_
    omega
theorem heldIntS_ev (n : Nat) (hl : n ≤ 35184372088832) : Ev (fun k => laws_heldIntS.f k (marks 1 n) 1) ((1 + n : Nat) : Int) := by
  unfold laws_heldIntS.f
  have := heldIntS_l0 n 0 1 (marks 1 n) (by simp [marks_length]) (by omega) (by rw [marks_length]; exact hl) (by omega) (by simp)
  simpa using this
end Go.Proofs.Ytbenbfhpbnepmaa.P

namespace Go.Proofs.Ytbenbfhpbnepmaa.Sup
open Go.ChangeShapes Go.WideShapes Go.ChangeAt Go.RowKit Go.Joins Go.Proofs.YtbenbfhpbnepmaaW.PrintWords
set_option linter.unusedVariables false
set_option linter.unusedSimpArgs false

/-- The range of an int. -/
def InR (a : Int) : Prop := -9223372036854775808 ≤ a ∧ a ≤ 9223372036854775807
theorem inR_of_wf {a : Int} (h : (Lit.int .i64 a).wf = true) : InR a := by
  simp only [Lit.wf, IntKind.min, IntKind.max, IntKind.signed, IntKind.bits, Bool.and_eq_true, decide_eq_true_eq, if_true] at h
  unfold InR
  omega
theorem u8_of_wf {a : Int} (h : (Lit.int .u8 a).wf = true) : 0 ≤ a ∧ a ≤ 255 := by
  simp only [Lit.wf, IntKind.min, IntKind.max, IntKind.signed, IntKind.bits, Bool.and_eq_true, decide_eq_true_eq] at h
  simp at h
  omega

section
variable {H : Type} {enc : TypeId × Value → H} {P : Program} {w : World} {base : Nat} {spare : Nat → Bool} {held : Bool}

theorem open2 {r : Reach} {b0 : Nat} {t : TypeId} {f0 f1 : Field} {v : Value} {d : DataW H} {p : List MemPlace} (hs : P.underlying t = some (.struct #[f0, f1])) (h0 : P.underlying f0.type = some (.int .i64)) (h1 : P.underlying f1.type = some (.int .i64))
    (o0 : f0.offset = 0) (o1 : f1.offset = 1) (c0 : P.cellsOf f0.type = 1) (c1 : P.cellsOf f1.type = 1) (hC : P.cellsOf t = 2)
    (hv : Value.okWide P w r b0 t v) (h : DataW.Trod enc P w base spare held t v d p) :
    ∃ a b : Int, v = .agg #[.int .i64 a, .int .i64 b] ∧ InR a ∧ InR b := by
  obtain ⟨cs, rfl, hsz⟩ := okWide_struct hs hv
  obtain ⟨x0, x1, rfl⟩ := array2 (hsz.trans hC)
  obtain ⟨fuel, hf⟩ := h
  obtain ⟨y0, y1, n, hx, _, g0, g1⟩ := trod_struct2 hs hf
  simp only [Value.cells, o0, o1, c0, c1, List.drop_zero, List.take_succ_cons, List.take_zero, List.drop_succ_cons] at g0 g1
  obtain ⟨a, e0, _, w0⟩ := DataW.trod_int h0 g0
  obtain ⟨b, e1, _, w1⟩ := DataW.trod_int h1 g1
  simp at e0 e1
  subst e0 e1
  exact ⟨a, b, rfl, inR_of_wf w0, inR_of_wf w1⟩

theorem open3 {r : Reach} {b0 : Nat} {t : TypeId} {f0 f1 g0 g1 : Field} {v : Value} {d : DataW H} {p : List MemPlace} (hs : P.underlying t = some (.struct #[f0, f1])) (hs0 : P.underlying f0.type = some (.struct #[g0, g1]))
    (hg0 : P.underlying g0.type = some (.int .i64)) (hg1 : P.underlying g1.type = some (.int .i64)) (h1 : P.underlying f1.type = some (.int .i64))
    (o0 : f0.offset = 0) (o1 : f1.offset = 2) (p0 : g0.offset = 0) (p1 : g1.offset = 1) (c0 : P.cellsOf f0.type = 2) (c1 : P.cellsOf f1.type = 1) (e0 : P.cellsOf g0.type = 1) (e1 : P.cellsOf g1.type = 1) (hC : P.cellsOf t = 3)
    (hv : Value.okWide P w r b0 t v) (h : DataW.Trod enc P w base spare held t v d p) :
    ∃ a b c : Int, v = .agg #[.int .i64 a, .int .i64 b, .int .i64 c] ∧ InR a ∧ InR b ∧ InR c := by
  obtain ⟨cs, rfl, hsz⟩ := okWide_struct hs hv
  obtain ⟨x0, x1, x2, rfl⟩ := array3 (hsz.trans hC)
  obtain ⟨fuel, hf⟩ := h
  obtain ⟨y0, y1, n, hx, _, k0, k1⟩ := trod_struct2 hs hf
  simp only [Value.cells, o0, o1, c0, c1, List.drop_zero, List.take_succ_cons, List.take_zero, List.drop_succ_cons] at k0 k1
  obtain ⟨z0, z1, n', hx', _, j0, j1⟩ := trod_struct2 hs0 k0
  simp only [p0, p1, e0, e1, List.drop_zero, List.take_succ_cons, List.take_zero, List.drop_succ_cons] at j0 j1
  obtain ⟨a, q0, _, w0⟩ := DataW.trod_int hg0 j0
  obtain ⟨b, q1, _, w1⟩ := DataW.trod_int hg1 j1
  obtain ⟨c, q2, _, w2⟩ := DataW.trod_int h1 k1
  simp at q0 q1 q2
  subst q0 q1 q2
  exact ⟨a, b, c, rfl, inR_of_wf w0, inR_of_wf w1, inR_of_wf w2⟩
end

def IsRow (k : IntKind) (w : World) (a : Option Addr) (len cap : Nat) (zs : List Int) : Prop :=
  (a = none ∧ len = 0 ∧ cap = 0 ∧ zs = []) ∨
  ∃ x, a = some x ∧ len ≤ cap ∧ cap ≤ maxLen ∧ zs.length = cap ∧ (∀ i, i < zs.length → w.cell? (x.add i) = some (.int k (zs.getD i 0))) ∧ ∀ n ∈ zs, (Lit.int k n).wf = true

/-- A slice of slices of ints that comes in. -/
theorem open_rows {H : Type} {enc : TypeId × Value → H} {P : Program} {W : World} {base : Nat} {held : Bool} {ts : List TypeId} {ds : List (DataW H)} {t e q : TypeId} {a : Option Addr} {len cap : Nat} {d : DataW H} {p : List MemPlace}
    (ht : P.underlying t = some (.slice e)) (he : P.underlying e = some (.slice q)) (hq : P.underlying q = some (.int .i64)) (ce : P.cellsOf e = 1) (cq : P.cellsOf q = 1) (hsz : (DataW.weightsEach P ts ds).all (· ≤ reachBytes) = true)
    {B : Nat} (hB : P.bytesOf e = B) (hB1 : 1 ≤ B) {j : Nat} (hj : ts[j]? = some t) (hd : ds[j]? = some d) (h : DataW.Trod enc P W base (fun _ => true) held t (.slice a len cap) d p) :
    ∃ l : List (List Int), len = l.length ∧ Kd.C (Kd.slice q (Kd.int .i64)) W a l.length l ∧ l.length ≤ cap ∧ l.length ≤ 140737488351232 ∧ ∀ row ∈ l, row.length ≤ 9223372036854775807 ∧ ∀ x ∈ row, InR x := by
  obtain ⟨fuel, hf⟩ := h
  rcases Go.Deep.open_int_rows ht he hq ce cq hf with ⟨hcs, _⟩ | ⟨x, len', cap', A, L, C, Z, hcs, _, hl, hm, hx, hr⟩
  · simp [Value.cells] at hcs
    obtain ⟨rfl, rfl, rfl⟩ := hcs
    exact ⟨[], rfl, ⟨rfl, by simp, fun h => absurd h (by simp)⟩, by simp, by simp, by simp⟩
  · simp [Value.cells] at hcs
    obtain ⟨rfl, rfl, rfl⟩ := hcs
    obtain ⟨hx, _⟩ := Prod.mk.inj hx
    subst hx
    have z := sized_slice hsz hj hd ht
    rw [hB] at z
    have hb : len * B ≤ reachBytes := Nat.le_trans (Nat.mul_le_mul_right _ (by simp)) z
    have hb2 : len ≤ 140737488351232 := by
      have h1 : len * 1 ≤ len * B := Nat.mul_le_mul_left _ hB1
      have h2 : reachBytes ≤ 140737488351232 := by decide
      omega
    have hlen : ((List.range len).map fun r => (Z r).take (L r)).length = len := by simp
    refine ⟨(List.range len).map fun r => (Z r).take (L r), hlen.symm, ?_, by rw [hlen]; exact hl, by rw [hlen]; exact hb2, ?_⟩
    · rw [hlen]
      refine ⟨hlen, by omega, fun hn => ⟨x, rfl, fun j p hp => ?_⟩⟩
      simp only [List.getElem?_map, Option.map_eq_some_iff] at hp
      obtain ⟨j', hj', rfl⟩ := hp
      obtain ⟨hjl, rfl⟩ := List.getElem?_eq_some_iff.1 hj'
      simp at hjl
      simp only [List.getElem_range]
      obtain ⟨h1, h2, h3, h4, h5, h6, h7⟩ := hr j (by omega)
      have hL : ((Z j).take (L j)).length = L j := by rw [List.length_take]; omega
      refine ⟨[.slice (A j) (L j) (C j)], rfl, ⟨A j, C j, by rw [hL], by rw [hL]; exact h2, hL ▸ rfl, by rw [hL]; simp only [maxLen] at h3; omega, fun hn => ?_⟩, fun i u hu => ?_⟩
      · cases hA : A j with
        | none => have := h6 hA; omega
        | some a' =>
          refine ⟨a', rfl, fun i p hp => ⟨[.int .i64 p], rfl, rfl, fun i' u hu => ?_⟩⟩
          obtain ⟨hi, rfl⟩ := List.getElem?_eq_some_iff.1 hp
          rw [List.length_take] at hi
          cases i' with
          | succ n => simp at hu
          | zero =>
            simp at hu
            subst hu
            have := (h7 a' hA).2 i (by omega)
            rw [show i * (Kd.int .i64).sz + 0 = i from by simp [Kd.int, Kd.scalar]]
            rw [this]
            congr 2
            rw [List.getD_eq_getElem?_getD, List.getElem?_eq_getElem (by omega)]
            rfl
      · cases i with
        | succ n => simp at hu
        | zero =>
          simp at hu
          subst hu
          rw [show j * (Kd.slice q (Kd.int .i64)).sz + 0 = j from by simp [Kd.slice]]
          exact h1
    · intro row hrow
      simp only [List.mem_map, List.mem_range] at hrow
      obtain ⟨j, hj, rfl⟩ := hrow
      obtain ⟨h1, h2, h3, h4, h5, h6, h7⟩ := hr j (by omega)
      refine ⟨by rw [List.length_take]; simp only [maxLen] at h3; omega, fun y hy => inR_of_wf (h5 y (List.mem_of_mem_take hy))⟩
end Go.Proofs.Ytbenbfhpbnepmaa.Sup

namespace Go.Proofs.Ytbenbfhpbnepmaa.P
open Go.RowKit Go.Proofs.YtbenbfhpbnepmaaW.PrintWords Go.Proofs.Ytbenbfhpbnepmaa.Sup
set_option linter.unusedVariables false
set_option linter.unusedSimpArgs false

theorem rdL_get {l : List (List Int)} {i : Nat} (h : i < l.length) : rd_L1 l (i : Int) = l[i] := by simp [rd_L1, List.getD_eq_getElem?_getD, List.getElem?_eq_getElem h]
def lens (l : List (List Int)) : Nat := (l.map List.length).sum
theorem lens_cons (a : List Int) (l : List (List Int)) : lens (a :: l) = a.length + lens l := by simp [lens]
theorem szIntS_eq (l : List Int) (n : Nat) (hn : n ≤ 1048576) (hl : l.length ≤ 9223372036854775807) : laws_szIntS.f l (n : Int) = some (if l.length ≤ n then ((n - l.length : Nat) : Int) else -1) := by
  unfold laws_szIntS.f
  rw [wrap64_id (by omega) (by omega)]
  by_cases h : l.length ≤ n
  · rw [if_neg (by omega), if_pos h]; congr 1; omega
  · rw [if_pos (by omega), if_neg h]
theorem szIntSS_l0 (l : List (List Int)) (hl : l.length ≤ 1048576) (hr : ∀ row ∈ l, row.length ≤ 9223372036854775807) : ∀ (d i n : Nat), l.length - i = d → i ≤ l.length → n ≤ 1048576 →
    Ev (fun k => laws_szIntSS.l0 k l (n : Int) i) (if lens (l.drop i) ≤ n then ((n - lens (l.drop i) : Nat) : Int) else -1)
  | 0, i, n, hd, hi, hn => by
    refine Ev.step (fun _ => laws_szIntSS.l0.eq_2 ..) ?_
    refine Ev.ff (by omega) (Ev.ret ?_)
    rw [List.drop_eq_nil_of_le (by omega)]
    simp [lens]
  | d + 1, i, n, hd, hi, hn => by
    refine Ev.step (fun _ => laws_szIntSS.l0.eq_2 ..) ?_
    have hil : i < l.length := by omega
    have hrow := hr l[i] (List.getElem_mem hil)
    rw [rdL_get hil, List.drop_eq_getElem_cons hil, lens_cons]
    refine Ev.tt (by omega) (Ev.tt (by omega) ?_)
    refine Ev.bnd0 (szIntS_eq _ n hn hrow) ?_
    by_cases h : (l[i]).length ≤ n
    · rw [if_pos h]
      refine Ev.ff (by omega) ?_
      rw [wsucc (by omega)]
      refine Ev.eq (szIntSS_l0 l hl hr d (i + 1) (n - (l[i]).length) (by omega) (by omega) (by omega)) ?_
      by_cases h2 : (l[i]).length + lens (l.drop (i + 1)) ≤ n
      · rw [if_pos (by omega), if_pos h2]; congr 1; omega
      · rw [if_neg (by omega), if_neg h2]
    · rw [if_neg h, if_neg (by omega)]
      exact Ev.tt (by omega) (Ev.ret rfl)
/-- The size of a slice of slices, out of 2^20. -/
theorem szIntSS_ev (l : List (List Int)) (hl : l.length ≤ 140737488351232) (hr : ∀ row ∈ l, row.length ≤ 9223372036854775807) :
    Ev (fun k => laws_szIntSS.f k l 1048576) (if l.length + lens l ≤ 1048576 then ((1048576 - (l.length + lens l) : Nat) : Int) else -1) := by
  unfold laws_szIntSS.f
  rw [wrap64_id (by omega) (by omega)]
  by_cases h : l.length ≤ 1048576
  · refine Ev.ff (by omega) ?_
    rw [show (1048576 - (l.length : Int)) = ((1048576 - l.length : Nat) : Int) by omega]
    refine Ev.eq (szIntSS_l0 l h hr l.length 0 (1048576 - l.length) (by omega) (by omega) (by omega)) ?_
    rw [List.drop_zero]
    by_cases h2 : l.length + lens l ≤ 1048576
    · rw [if_pos (by omega), if_pos h2]; congr 1; omega
    · rw [if_neg (by omega), if_neg h2]
  · rw [if_neg (by omega)]
    exact Ev.tt (by omega) (Ev.ret rfl)
theorem row_le_lens {l : List (List Int)} {row : List Int} (h : row ∈ l) : row.length ≤ lens l := by
  induction l with
  | nil => simp at h
  | cons a t ih =>
    rw [lens_cons]
    rcases List.mem_cons.1 h with rfl | h
    · omega
    · have := ih h; omega
theorem toIntSS_l0 (l : List (List Int)) (hl : l.length ≤ 1048576) (hr : ∀ row ∈ l, row.length ≤ 1048576) : ∀ (d i : Nat) (m : List (List Int)), l.length - i = d → i ≤ l.length → m.length = l.length → (∀ (j : Nat), j < i → m[j]? = l[j]?) → Ev (fun k => laws_toIntSS.l0 k l m i) l
  | 0, i, m, hd, hi, hm, he => by
    refine Ev.step (fun _ => laws_toIntSS.l0.eq_2 ..) ?_
    refine Ev.ff (by omega) (Ev.ret ?_)
    refine List.ext_getElem? fun j => ?_
    by_cases h : j < i
    · exact he j h
    · rw [List.getElem?_eq_none (by omega), List.getElem?_eq_none (by omega)]
  | d + 1, i, m, hd, hi, hm, he => by
    refine Ev.step (fun _ => laws_toIntSS.l0.eq_2 ..) ?_
    have hil : i < l.length := by omega
    refine Ev.tt (by omega) (Ev.tt (by omega) ?_)
    rw [rdL_get hil]
    refine Ev.bind (toIntS_ev _ (by have := hr _ (List.getElem_mem hil); omega)) ?_
    refine Ev.tt (by omega) ?_
    rw [wsucc (by omega)]
    refine toIntSS_l0 l hl hr d (i + 1) _ (by omega) (by omega) (by rw [List.length_set]; exact hm) fun j hj => ?_
    simp only [Int.toNat_natCast]
    by_cases e : j = i
    · subst e
      rw [List.getElem?_set_self (by omega), List.getElem?_eq_getElem hil]
    · rw [List.getElem?_set_ne (by omega)]
      exact he j (by omega)
theorem toIntSS_ev (l : List (List Int)) (hl : l.length ≤ 1048576) (hr : ∀ row ∈ l, row.length ≤ 1048576) : Ev (fun k => laws_toIntSS.f k l) l := by
  unfold laws_toIntSS.f
  refine Ev.tt (by omega) (Ev.tt (by omega) ?_)
  exact toIntSS_l0 l hl hr l.length 0 _ (by omega) (by omega) (by simp) (fun j hj => by omega)
theorem eqIntSS_l0 (a b : List (List Int)) (hl : a.length = b.length) (hb : b.length ≤ 1048576) (hr : ∀ row ∈ b, row.length ≤ 1048576) : ∀ (d i : Nat), a.length - i = d → i ≤ a.length → Ev (fun k => laws_eqIntSS.l0 k a b i) (decide (a.drop i = b.drop i))
  | 0, i, hd, hi => by
    refine Ev.step (fun _ => laws_eqIntSS.l0.eq_2 ..) ?_
    refine Ev.ff (by omega) (Ev.ret ?_)
    rw [List.drop_eq_nil_of_le (by omega), List.drop_eq_nil_of_le (by omega)]
    rfl
  | d + 1, i, hd, hi => by
    refine Ev.step (fun _ => laws_eqIntSS.l0.eq_2 ..) ?_
    have ha' : i < a.length := by omega
    have hb' : i < b.length := by omega
    refine Ev.tt (by omega) (Ev.tt (by omega) (Ev.tt (by omega) ?_))
    rw [rdL_get ha', rdL_get hb', List.drop_eq_getElem_cons ha', List.drop_eq_getElem_cons hb']
    refine Ev.bind (eqIntS_ev _ _ (by have := hr _ (List.getElem_mem hb'); omega)) ?_
    refine Ev.ite (fun e => ?_) (fun e => ?_)
    · rw [wsucc (by omega)]
      refine Ev.eq (eqIntSS_l0 a b hl hb hr d (i + 1) (by omega) (by omega)) ?_
      rw [decide_eq_decide, List.cons.injEq, of_decide_eq_true e]
      simp only [true_and]
    · refine Ev.ret ?_
      symm
      rw [decide_eq_false_iff_not, List.cons.injEq]
      exact fun h => e (decide_eq_true h.1)
theorem eqIntSS_ev (a b : List (List Int)) (hb : b.length ≤ 1048576) (hr : ∀ row ∈ b, row.length ≤ 1048576) : Ev (fun k => laws_eqIntSS.f k a b) (decide (a = b)) := by
  unfold laws_eqIntSS.f
  refine Ev.ite (fun h => ?_) (fun h => ?_)
  · have := eqIntSS_l0 a b (by omega) hb hr a.length 0 (by omega) (by omega)
    simpa using this
  · refine Ev.ret ?_
    have : a ≠ b := by rintro rfl; exact h rfl
    simp [this]
end Go.Proofs.Ytbenbfhpbnepmaa.P

namespace Go.Proofs.Ytbenbfhpbnepmaa.P
open Go.RowKit Go.Proofs.YtbenbfhpbnepmaaW.PrintWords
set_option linter.unusedVariables false
set_option linter.unusedSimpArgs false

/-- An entry of a matrix. -/
def ent (m : List (List Int)) (r k : Nat) : Int := rd (rd_L1 m r) k
theorem rd_set {X : List Int} {i j : Nat} {v : Int} (hi : i < X.length) : rd (X.set i v) j = if j = i then v else rd X j := by
  by_cases e : j = i
  · subst e
    rw [if_pos rfl, rd_get (by simpa using hi)]
    simp
  · rw [if_neg e, rd_nat, rd_nat, List.getD_eq_getElem?_getD, List.getD_eq_getElem?_getD, List.getElem?_set_ne (fun e' => e e'.symm)]
theorem shl_one {n : Nat} (h : n ≤ 16) : shl .i64 1 (n : Int) = ((2 ^ n : Nat) : Int) := shl_pow (by omega)
theorem pow_small {n : Nat} (h : n ≤ 16) : 2 ^ n ≤ 65536 := Nat.pow_le_pow_right (by decide) h
theorem tmod_two (c : Nat) : (Int.tmod (c : Int) 2 = 1) ↔ ¬ c % 2 = 0 := by
  rw [Int.tmod_eq_emod_of_nonneg (by omega)]
  omega
def rowSum (a : Nat → Nat → Int) (n s j : Nat) : Int := sumTo j fun k => if s.testBit k then term a n s k else 0
theorem rowSum_skip {a : Nat → Nat → Int} {n s j : Nat} (h : s.testBit j = true → a (pop n s - 1) j = 0) : rowSum a n s (j + 1) = rowSum a n s j := by
  unfold rowSum
  simp only [sumTo]
  by_cases hb : s.testBit j = true
  · rw [if_pos hb]
    unfold term
    rw [h hb]
    simp
  · rw [if_neg hb, Int.add_zero]
theorem rowSum_next {a : Nat → Nat → Int} {n s j : Nat} (hb : s.testBit j = true) : rowSum a n s (j + 1) = rowSum a n s j + term a n s j := by
  unfold rowSum
  simp only [sumTo]
  rw [if_pos hb]
section
variable {m : List (List Int)} {n : Nat}
theorem impl_det_l1 (hn : n = m.length) (h16 : n ≤ 16) {s : Nat} (hs : s < 2 ^ n) (h0 : s ≠ 0) (row : List Int) (hr : row = rd_L1 m (pop n s - 1 : Nat)) (hl : row.length = n) (res : Int)
    (next : ∀ X : List Int, X.length = 2 ^ n → (∀ t : Nat, t < 2 ^ n → rd X t = if t < s + 1 then wrap64 (Ds (ent m) n t) else 0) → Ev (fun k => impl_determinant.l0 k m X ((s + 1 : Nat) : Int)) res) :
    ∀ (d j : Nat) (X : List Int), n - j = d → j ≤ n → X.length = 2 ^ n → (∀ t : Nat, t < 2 ^ n → t ≠ s → rd X t = if t < s then wrap64 (Ds (ent m) n t) else 0) → rd X s = wrap64 (rowSum (ent m) n s j) →
      Ev (fun k => impl_determinant.l1 k m X s row (n : Int) j) res
  | 0, j, X, hd, hj, hX, hi, hj2 => by
    have hp := pow_small h16
    refine Ev.step (fun _ => impl_determinant.l1.eq_2 ..) ?_
    refine Ev.ff (by omega) ?_
    rw [wsucc (by omega)]
    refine next X hX fun t ht => ?_
    by_cases e : t = s
    · subst e
      rw [if_pos (by omega), hj2, Ds_sum (pop_ne hs h0), show n = j by omega]
      rfl
    · rw [hi t ht e]
      by_cases h : t < s
      · rw [if_pos h, if_pos (by omega)]
      · rw [if_neg h, if_neg (by omega)]
  | d + 1, j, X, hd, hj, hX, hi, hj2 => by
    have hp := pow_small h16
    have ih := impl_det_l1 hn h16 hs h0 row hr hl res next d (j + 1)
    have hw : rd row j = ent m (pop n s - 1) j := by rw [hr]; rfl
    refine Ev.step (fun _ => impl_determinant.l1.eq_2 ..) ?_
    refine Ev.tt (by omega) (Ev.tt (by omega) (Ev.tt (by omega) ?_))
    have skip : (s.testBit j = true → ent m (pop n s - 1) j = 0) → Ev (fun k => impl_determinant.j2 k m X s j (rd row j) row (n : Int) j true) res := by
      intro h
      refine Ev.step (fun _ => impl_determinant.j2.eq_2 ..) ?_
      refine Ev.tt rfl ?_
      rw [wsucc (by omega)]
      exact ih X (by omega) (by omega) hX hi (by rw [hj2, rowSum_skip h])
    by_cases hv : rd row j = 0
    · exact Ev.tt hv (skip fun _ => by rw [← hw]; exact hv)
    · refine Ev.ff hv ?_
      rw [bit_zero (by omega)]
      cases hb : s.testBit j
      · exact skip fun h => by rw [hb] at h; cases h
      · refine Ev.step (fun _ => impl_determinant.j2.eq_2 ..) ?_
        refine Ev.ff (by simp) ?_
        have hdl := del_le s j
        have hdn : Go.bits .andNot .i64 (s : Int) (shl .i64 1 (j : Int)) = ((del s j : Nat) : Int) := by
          rw [shl_one (by omega), bits_andNot (by omega) (by have := pow_small (show j ≤ 16 by omega); omega)]
          rfl
        rw [wsucc (by omega)]
        refine Ev.tt (by omega) ?_
        rw [shr_nat (by omega), u64_small (by have := Nat.div_le_self s (2 ^ (j + 1)); omega)]
        refine Ev.bnd0 (ones_eq' (n := n) (by omega) (Nat.lt_of_le_of_lt (Nat.div_le_self _ _) hs)) ?_
        rw [hdn]
        have hD : rd X (del s j : Nat) = wrap64 (Ds (ent m) n (del s j)) := by
          have := del_lt hb
          rw [hi _ (by omega) (by omega), if_pos this]
        rw [hD, hj2]
        have fin : ∀ v : Int, wrap64 v = wrap64 (rowSum (ent m) n s (j + 1)) → v = wrap64 v → Ev (fun k => impl_determinant.l1 k m (X.set ((s : Int)).toNat v) s row (n : Int) ((j + 1 : Nat) : Int)) res := by
          intro v hv1 hv2
          rw [Int.toNat_natCast]
          refine ih _ (by omega) (by omega) (by rw [List.length_set]; exact hX) (fun t ht hne => ?_) ?_
          · rw [rd_set (by omega), if_neg hne]
            exact hi t ht hne
          · rw [rd_set (by omega), if_pos rfl, hv2, hv1]
        have ht := rowSum_next (a := ent m) (n := n) (s := s) (j := j) hb
        unfold term at ht
        rw [← hw] at ht
        refine Ev.ite (fun ho => ?_) (fun ho => ?_)
        · refine Ev.tt (by omega) (Ev.tt (by omega) (Ev.tt (by omega) (Ev.tt (by omega) (Ev.tt (by omega) ?_))))
          refine fin _ ?_ (wrap64_wrap _).symm
          rw [wrap64_wrap, wrap64_mul, wrap64_add, ht]
          have hsg : sgn (above n s j) = -1 := by unfold sgn; rw [if_neg]; exact (tmod_two _).1 ho
          rw [hsg]
          congr 2
          simp
        · refine Ev.tt (by omega) (Ev.tt (by omega) (Ev.tt (by omega) (Ev.tt (by omega) (Ev.tt (by omega) ?_))))
          refine fin _ ?_ (wrap64_wrap _).symm
          rw [wrap64_wrap, wrap64_mulr, wrap64_add, ht]
          have hsg : sgn (above n s j) = 1 := by unfold sgn; rw [if_pos]; exact Decidable.not_not.1 (fun h => ho ((tmod_two _).2 h))
          rw [hsg]
          congr 2
          simp
theorem impl_det_l0 (hn : n = m.length) (h16 : n ≤ 16) (hrow : ∀ r, r < n → (rd_L1 m (r : Nat)).length = n) : ∀ (d s : Nat) (X : List Int), 2 ^ n - s = d → s ≤ 2 ^ n → s ≠ 0 → X.length = 2 ^ n → (∀ t : Nat, t < 2 ^ n → rd X t = if t < s then wrap64 (Ds (ent m) n t) else 0) →
      Ev (fun k => impl_determinant.l0 k m X s) (wrap64 (Ds (ent m) n (2 ^ n - 1)))
  | 0, s, X, hd, hs, h0, hX, hi => by
    have hp := pow_small h16
    have hp1 : 0 < 2 ^ n := Nat.two_pow_pos n
    refine Ev.step (fun _ => impl_determinant.l0.eq_2 ..) ?_
    refine Ev.ff (by omega) ?_
    rw [hX, show wrap64 (((2 ^ n : Nat) : Int) - 1) = ((2 ^ n - 1 : Nat) : Int) by rw [wrap64_id (by omega) (by omega)]; omega]
    refine Ev.tt (by omega) (Ev.tt (by omega) (Ev.ret ?_))
    rw [hi _ (by omega), if_pos (by omega)]
  | d + 1, s, X, hd, hs, h0, hX, hi => by
    have hp := pow_small h16
    have hsl : s < 2 ^ n := by omega
    have hpn := pop_ne hsl h0
    have hpl := pop_le n s
    refine Ev.step (fun _ => impl_determinant.l0.eq_2 ..) ?_
    refine Ev.tt (by omega) ?_
    rw [u64_small (by omega)]
    refine Ev.bnd0 (ones_eq' (n := n) (by omega) hsl) ?_
    rw [show wrap64 ((pop n s : Int) - 1) = ((pop n s - 1 : Nat) : Int) by rw [wrap64_id (by omega) (by omega)]; omega]
    refine Ev.tt (by omega) (Ev.tt (by omega) ?_)
    have hl := hrow (pop n s - 1) (by omega)
    rw [hl]
    refine impl_det_l1 hn h16 hsl h0 _ rfl hl _ (fun X' hX' hi' => impl_det_l0 hn h16 hrow d (s + 1) X' (by omega) (by omega) (by omega) hX' hi') n 0 X (by omega) (by omega) hX (fun t ht hne => ?_) ?_
    · rw [hi t ht]
    · rw [hi s hsl, if_neg (by omega), show rowSum (ent m) n s 0 = 0 from rfl, wrap64_id (by decide) (by decide)]
theorem impl_det_ev (hn : n = m.length) (h16 : n ≤ 16) (hrow : ∀ r, r < n → (rd_L1 m (r : Nat)).length = n) : Ev (fun k => impl_determinant.f k m) (wrap64 (Ds (ent m) n (2 ^ n - 1))) := by
  have hp := pow_small h16
  have hp1 : 0 < 2 ^ n := Nat.two_pow_pos n
  unfold impl_determinant.f
  rw [← hn, shl_one h16]
  refine Ev.tt (by omega) (Ev.tt (by omega) (Ev.bnd0 rfl (Ev.tt (by rw [List.length_replicate]; omega) ?_)))
  refine impl_det_l0 hn h16 hrow (2 ^ n - 1) 1 _ rfl (by omega) (by omega) (by rw [List.length_set, List.length_replicate]; omega) fun t ht => ?_
  rw [show ((0 : Int)).toNat = 0 from rfl, rd_set (by rw [List.length_replicate]; omega)]
  by_cases e : t = 0
  · subst e
    rw [if_pos rfl, if_pos (by omega), Ds_zero, wrap64_id (by decide) (by decide)]
  · rw [if_neg e, if_neg (by omega), rd_nat, List.getD_eq_getElem?_getD]
    cases h : (List.replicate (((2 ^ n : Nat) : Int)).toNat (0 : Int))[t]? with
    | none => rfl
    | some v => exact (List.mem_replicate.1 (List.mem_of_getElem? h)).2
end
end Go.Proofs.Ytbenbfhpbnepmaa.P

namespace Go.Proofs.Ytbenbfhpbnepmaa.P
open Go.RowKit Go.Proofs.YtbenbfhpbnepmaaW.PrintWords
set_option linter.unusedVariables false
set_option linter.unusedSimpArgs false

theorem spec_bit {n : Nat} (hn : n < 16777216) (g : Nat) : spec_l03Bit.f (n : Int) (g : Int) = some (n.testBit g) := by
  unfold spec_l03Bit.f
  rw [if_pos (by omega), bit_one (by omega)]
/-- The part of t's sum that the sets below s, and s above j, have given. -/
def part (a : Nat → Nat → Int) (n s j t : Nat) : Int := sumTo n fun k => if t.testBit k && (decide (del t k < s) || (decide (del t k = s) && decide (j ≤ k))) then term a n t k else 0
theorem part_all {a : Nat → Nat → Int} {n s j t : Nat} (ht : t < 2 ^ n) (h0 : t ≠ 0) (h : t ≤ s) : part a n s j t = Ds a n t := by
  rw [Ds_sum (pop_ne ht h0)]
  unfold part
  refine sumTo_congr fun k hk => ?_
  cases hb : t.testBit k
  · rfl
  · have := del_lt hb
    simp [show del t k < s by omega]
theorem part_next {a : Nat → Nat → Int} {n s t : Nat} : part a n (s + 1) n t = part a n s 0 t := by
  unfold part
  refine sumTo_congr fun k hk => ?_
  have : (decide (del t k < s + 1) || (decide (del t k = s + 1) && decide (n ≤ k))) = (decide (del t k < s) || (decide (del t k = s) && decide (0 ≤ k))) := by
    rw [Bool.eq_iff_iff]
    simp
    omega
  rw [this]
theorem part_top {a : Nat → Nat → Int} {n s j t : Nat} (h : ∀ k, j ≤ k → k < n → s.testBit k = true) (hj : j ≤ n) : part a n s j t = part a n s n t := by
  unfold part
  refine sumTo_congr fun k hk => ?_
  cases hb : t.testBit k
  · rfl
  · have : (decide (del t k = s) && decide (j ≤ k)) = (decide (del t k = s) && decide (n ≤ k)) := by
      by_cases e : del t k = s
      · by_cases hjk : j ≤ k
        · exfalso
          have h1 := h k hjk hk
          rw [← e, testBit_del] at h1
          simp at h1
        · rw [decide_eq_false hjk, decide_eq_false (show ¬ n ≤ k by omega)]
      · rw [decide_eq_false e, Bool.false_and, Bool.false_and]
    rw [this]
/-- One step down: k gives to s with k, if s has not k. -/
theorem part_step {a : Nat → Nat → Int} {n s k t : Nat} (hk : k < n) (hs : s < 2 ^ n) : part a n s k t = part a n s (k + 1) t + (if s.testBit k = false ∧ t = s ||| 2 ^ k then term a n t k else 0) := by
  unfold part
  by_cases hc : s.testBit k = false ∧ t = s ||| 2 ^ k
  · rw [if_pos hc]
    obtain ⟨hb, rfl⟩ := hc
    have hd : del (s ||| 2 ^ k) k = s := by
      apply Nat.eq_of_testBit_eq
      intro j
      rw [testBit_del, Nat.testBit_or, Nat.testBit_two_pow]
      by_cases e : j = k
      · subst e; simp [hb]
      · simp [e, show ¬ k = j from fun e' => e e'.symm]
    have ht : (s ||| 2 ^ k).testBit k = true := by rw [Nat.testBit_or, Nat.testBit_two_pow]; simp
    rw [sumTo_one hk (g := fun i => if (s ||| 2 ^ k).testBit i && (decide (del (s ||| 2 ^ k) i < s) || (decide (del (s ||| 2 ^ k) i = s) && decide (k ≤ i))) then term a n (s ||| 2 ^ k) i else 0)
      (f := fun i => if (s ||| 2 ^ k).testBit i && (decide (del (s ||| 2 ^ k) i < s) || (decide (del (s ||| 2 ^ k) i = s) && decide (k + 1 ≤ i))) then term a n (s ||| 2 ^ k) i else 0)]
    · simp only [ht, hd, Nat.lt_irrefl, decide_false, Bool.false_or, decide_true, Bool.true_and, Nat.le_refl, show ¬ k + 1 ≤ k by omega, if_true]
      simp
    · intro i hi hne
      have : decide (k ≤ i) = decide (k + 1 ≤ i) := by rw [decide_eq_decide]; omega
      simp only [this]
  · rw [if_neg hc, Int.add_zero]
    refine sumTo_congr fun i hi => ?_
    cases hb : t.testBit i
    · rfl
    · by_cases e : i = k
      · subst e
        by_cases hd : del t i = s
        · exfalso
          apply hc
          refine ⟨?_, ?_⟩
          · rw [← hd, testBit_del]; simp
          · apply Nat.eq_of_testBit_eq
            intro j
            rw [← hd, Nat.testBit_or, testBit_del, Nat.testBit_two_pow]
            by_cases e : j = i
            · subst e; simp [hb]
            · simp [e, show ¬ i = j from fun e' => e e'.symm]
        · simp [hd]
      · have : decide (k ≤ i) = decide (k + 1 ≤ i) := by rw [decide_eq_decide]; omega
        rw [this]
theorem wrap64_zero_term {x : Int} (c y : Int) (h : wrap64 x = 0) : wrap64 (c * y * x) = 0 := by
  rw [← wrap64_mulr, h, Int.mul_zero, wrap64_id (by decide) (by decide)]
section
variable {m : List (List Int)} {n : Nat}
/-- Counting the rows that a set has used. -/
theorem spec_det_l1 (h16 : n ≤ 16) {s : Nat} (hs : s < 2 ^ n) (X : List Int) (res : Int)
    (next : Ev (fun k => spec_l11Det.l1 k m (n : Int) X s (pop n s : Nat) (n : Int)) res) :
    ∀ (d j : Nat), n - j = d → j ≤ n → Ev (fun k => spec_l11Det.l1 k m (n : Int) X s (pop j s : Nat) j) res
  | 0, j, hd, hj => by
    have : j = n := by omega
    subst this
    exact next
  | d + 1, j, hd, hj => by
    have hp := pow_small h16
    have := pop_le j s
    refine Ev.step (fun _ => spec_l11Det.l1.eq_2 ..) ?_
    refine Ev.tt (by omega) (Ev.bnd0 (spec_bit (by omega) j) ?_)
    have ih := spec_det_l1 h16 hs X res next d (j + 1) (by omega) (by omega)
    rw [wsucc (by omega), wsucc (by omega)]
    cases hb : s.testBit j
    · refine Ev.ff (by simp) ?_
      simpa [pop, hb] using ih
    · refine Ev.tt rfl ?_
      simpa [pop, hb] using ih
theorem spec_det_l2 (hn : n = m.length) (h16 : n ≤ 16) (hrow : ∀ r : Nat, r < n → (rd_L1 m (r : Nat)).length = n) {s : Nat} (hs : s < 2 ^ n) (hps : pop n s < n) (res : Int)
    (next : ∀ X : List Int, X.length = 2 ^ n → (∀ t : Nat, t < 2 ^ n → rd X t = if t = 0 then 1 else wrap64 (part (ent m) n s 0 t)) → Ev (fun k => spec_l11Det.l0 k m (n : Int) X ((s + 1 : Nat) : Int)) res) :
    ∀ (j : Nat) (X : List Int), j ≤ n → X.length = 2 ^ n → (∀ t : Nat, t < 2 ^ n → rd X t = if t = 0 then 1 else wrap64 (part (ent m) n s j t)) →
      Ev (fun k => spec_l11Det.l2 k m (n : Int) X s (pop n s : Nat) (sgn (if j = 0 then above n s 0 + (s.testBit 0).toNat else above n s (j - 1))) ((j : Int) - 1)) res
  | 0, X, hj, hX, hi => by
    have hp := pow_small h16
    refine Ev.step (fun _ => spec_l11Det.l2.eq_2 ..) ?_
    refine Ev.ff (by omega) ?_
    rw [wsucc (by omega)]
    exact next X hX hi
  | j + 1, X, hj, hX, hi => by
    have hp := pow_small h16
    have ih := spec_det_l2 hn h16 hrow hs hps res next j
    refine Ev.step (fun _ => spec_l11Det.l2.eq_2 ..) ?_
    rw [show (((j + 1 : Nat) : Int) - 1) = (j : Int) by omega, if_neg (by omega), show j + 1 - 1 = j by omega]
    have hsgn : ∀ c, wrap64 (-sgn c) = sgn (c + 1) := by
      intro c
      rw [sgn_succ]
      unfold sgn
      split <;> rw [wrap64_id (by decide) (by decide)]
    have hnext : sgn (if j = 0 then above n s 0 + (s.testBit 0).toNat else above n s (j - 1)) = if s.testBit j then sgn (above n s j + 1) else sgn (above n s j) := by
      by_cases e : j = 0
      · subst e
        rw [if_pos rfl]
        cases hb : s.testBit 0 <;> simp
      · rw [if_neg e]
        obtain ⟨j', rfl⟩ : ∃ j', j = j' + 1 := ⟨j - 1, by omega⟩
        rw [show j' + 1 - 1 = j' by omega, above_step (by omega) hs]
        cases hb : s.testBit (j' + 1) <;> simp
    refine Ev.tt (by omega) (Ev.bnd0 (spec_bit (by omega) j) ?_)
    rw [show wrap64 ((j : Int) - 1) = (j : Int) - 1 by rw [wrap64_id (by omega) (by omega)]]
    cases hb : s.testBit j
    · refine Ev.ff (by simp) ?_
      rw [hb] at hnext
      simp only [Bool.false_eq_true, if_false] at hnext
      rw [hnext] at ih
      have hlr := hrow _ hps
      refine Ev.tt (by omega) (Ev.tt (by omega) (Ev.tt (by omega) (Ev.tt (by omega) ?_)))
      have hent : rd (rd_L1 m (pop n s : Nat)) j = ent m (pop n s) j := rfl
      rw [hent]
      have hor : s ||| 2 ^ j < 2 ^ n := Nat.or_lt_two_pow hs (Nat.pow_lt_pow_right (by decide) (by omega))
      have hd : del (s ||| 2 ^ j) j = s := by
        apply Nat.eq_of_testBit_eq
        intro i
        rw [testBit_del, Nat.testBit_or, Nat.testBit_two_pow]
        by_cases e : i = j
        · subst e; simp [hb]
        · simp [e, show ¬ j = i from fun e' => e e'.symm]
      have ht1 : (s ||| 2 ^ j).testBit j = true := by rw [Nat.testBit_or, Nat.testBit_two_pow]; simp
      have hpo := pop_del (show j < n by omega) ht1
      rw [hd] at hpo
      have hor0 : s ||| 2 ^ j ≠ 0 := by intro e; rw [e] at ht1; simp at ht1
      have hab : above n (s ||| 2 ^ j) j = above n s j := by
        unfold above
        refine pop_congr fun i hi => ?_
        rw [Nat.testBit_div_two_pow, Nat.testBit_div_two_pow, Nat.testBit_or, Nat.testBit_two_pow]
        simp
        omega
      have hterm : term (ent m) n (s ||| 2 ^ j) j = sgn (above n s j) * ent m (pop n s) j * Ds (ent m) n s := by
        unfold term
        rw [hab, hpo, hd]
        rfl
      by_cases hv : ent m (pop n s) j = 0
      · refine Ev.tt hv ?_
        refine ih X (by omega) hX fun t ht => ?_
        rw [hi t ht, part_step (k := j) (by omega) hs]
        by_cases hc : s.testBit j = false ∧ t = s ||| 2 ^ j
        · rw [if_pos hc, hc.2, hterm, hv]
          simp
        · rw [if_neg hc, Int.add_zero]
      · refine Ev.ff hv ?_
        have e1 : Go.bits .or .i64 (s : Int) (shl .i64 1 (j : Int)) = ((s ||| 2 ^ j : Nat) : Int) := by
          rw [shl_one (by omega), bits_or (by omega) (by have := pow_small (show j ≤ 16 by omega); omega)]
        rw [e1]
        refine Ev.tt (by omega) (Ev.tt (by omega) (Ev.tt (by omega) (Ev.tt (by omega) ?_)))
        refine ih _ (by omega) (by rw [List.length_set]; exact hX) fun t ht => ?_
        rw [Int.toNat_natCast, rd_set (by omega)]
        by_cases e : t = s ||| 2 ^ j
        · subst e
          rw [if_pos rfl, if_neg hor0, part_step (k := j) (by omega) hs, if_pos ⟨hb, rfl⟩, hterm, hi _ ht, if_neg hor0]
          have hXs : wrap64 (rd X s) = wrap64 (Ds (ent m) n s) := by
            rw [hi s hs]
            by_cases h0 : s = 0
            · subst h0
              rw [if_pos rfl, Ds_zero]
            · rw [if_neg h0, part_all hs h0 (Nat.le_refl s), wrap64_wrap]
          rw [wrap64_add, ← wrap64_addr]
          rw [← wrap64_addr (y := sgn (above n s j) * ent m (pop n s) j * Ds (ent m) n s)]
          congr 2
          rw [wrap64_mull, Int.mul_assoc, ← wrap64_mulr, ← wrap64_mull (rd X s), hXs, wrap64_mull, wrap64_mulr, Int.mul_comm (Ds _ _ _), ← Int.mul_assoc]
        · rw [if_neg e, hi t ht]
          by_cases h0 : t = 0
          · rw [if_pos h0, if_pos h0]
          · rw [if_neg h0, if_neg h0, part_step (k := j) (by omega) hs, if_neg (fun h => e h.2), Int.add_zero]
    · refine Ev.tt rfl ?_
      rw [hb] at hnext
      simp only [if_true] at hnext
      rw [hnext] at ih
      rw [hsgn]
      refine ih X (by omega) hX fun t ht => ?_
      rw [hi t ht, part_step (k := j) (by omega) hs, if_neg (show ¬ (s.testBit j = false ∧ t = s ||| 2 ^ j) from fun h => by rw [hb] at h; simp at h), Int.add_zero]
theorem spec_det_l0 (hn : n = m.length) (h16 : n ≤ 16) (hrow : ∀ r : Nat, r < n → (rd_L1 m (r : Nat)).length = n) : ∀ (d s : Nat) (X : List Int), 2 ^ n - s = d → s ≤ 2 ^ n → X.length = 2 ^ n → (∀ t : Nat, t < 2 ^ n → rd X t = if t = 0 then 1 else wrap64 (part (ent m) n s n t)) →
      Ev (fun k => spec_l11Det.l0 k m (n : Int) X s) (wrap64 (Ds (ent m) n (2 ^ n - 1)))
  | 0, s, X, hd, hs, hX, hi => by
    have hp := pow_small h16
    have hp1 : 0 < 2 ^ n := Nat.two_pow_pos n
    refine Ev.step (fun _ => spec_l11Det.l0.eq_2 ..) ?_
    rw [shl_one h16]
    refine Ev.tt (by omega) (Ev.ff (by omega) ?_)
    rw [show wrap64 (((2 ^ n : Nat) : Int) - 1) = ((2 ^ n - 1 : Nat) : Int) by rw [wrap64_id (by omega) (by omega)]; omega]
    refine Ev.tt (by omega) (Ev.tt (by omega) (Ev.ret ?_))
    rw [hi _ (by omega)]
    by_cases h0 : 2 ^ n - 1 = 0
    · rw [if_pos h0, h0, Ds_zero, wrap64_id (by decide) (by decide)]
    · rw [if_neg h0, part_all (by omega) h0 (by omega)]
  | d + 1, s, X, hd, hs, hX, hi => by
    have hp := pow_small h16
    have hsl : s < 2 ^ n := by omega
    have hpl := pop_le n s
    have ih := spec_det_l0 hn h16 hrow d (s + 1)
    refine Ev.step (fun _ => spec_l11Det.l0.eq_2 ..) ?_
    rw [shl_one h16]
    refine Ev.tt (by omega) (Ev.tt (by omega) ?_)
    refine spec_det_l1 h16 hsl X _ ?_ n 0 (by omega) (by omega)
    refine Ev.step (fun _ => spec_l11Det.l1.eq_2 ..) ?_
    refine Ev.ff (by omega) ?_
    have skip : (∀ t : Nat, t < 2 ^ n → t ≠ 0 → wrap64 (part (ent m) n (s + 1) n t) = wrap64 (part (ent m) n s n t)) → Ev (fun k => spec_l11Det.j2 k m (n : Int) X s (pop n s : Nat) true) (wrap64 (Ds (ent m) n (2 ^ n - 1))) := by
      intro h
      refine Ev.step (fun _ => spec_l11Det.j2.eq_2 ..) (Ev.tt rfl ?_)
      rw [wsucc (by omega)]
      refine ih X (by omega) (by omega) hX fun t ht => ?_
      rw [hi t ht]
      by_cases h0 : t = 0
      · rw [if_pos h0, if_pos h0]
      · rw [if_neg h0, if_neg h0, h t ht h0]
    by_cases hfull : pop n s = n
    · refine Ev.tt (by omega) (skip fun t ht h0 => ?_)
      rw [part_next, part_top (fun k _ hk => pop_max hsl hfull k hk) (by omega)]
    · refine Ev.ff (by omega) (Ev.tt (by omega) (Ev.tt (by omega) ?_))
      by_cases hz : rd X s = 0
      · rw [show (rd X (s : Int) == 0) = true by rw [hz]; rfl]
        refine skip fun t ht h0 => ?_
        have hs0 : s ≠ 0 := by
          rintro rfl
          rw [hi 0 hsl, if_pos rfl] at hz
          cases hz
        have hD : wrap64 (Ds (ent m) n s) = 0 := by
          rw [hi s hsl, if_neg hs0, part_all hsl hs0 (Nat.le_refl s)] at hz
          exact hz
        rw [part_next]
        have down : ∀ j, j ≤ n → wrap64 (part (ent m) n s (n - j) t) = wrap64 (part (ent m) n s n t) := by
          intro j
          induction j with
          | zero => intro _; rfl
          | succ j ihj =>
            intro hj
            rw [part_step (k := n - (j + 1)) (by omega) hsl, show n - (j + 1) + 1 = n - j by omega, ← wrap64_addl, ihj (by omega), ← wrap64_addr]
            by_cases hc : s.testBit (n - (j + 1)) = false ∧ t = s ||| 2 ^ (n - (j + 1))
            · rw [if_pos hc]
              have hd : del t (n - (j + 1)) = s := by
                rw [hc.2]
                apply Nat.eq_of_testBit_eq
                intro i
                rw [testBit_del, Nat.testBit_or, Nat.testBit_two_pow]
                by_cases e : i = n - (j + 1)
                · subst e; simp [hc.1]
                · simp [e, show ¬ n - (j + 1) = i from fun e' => e e'.symm]
              unfold term
              rw [hd, wrap64_zero_term _ _ hD, Int.add_zero, wrap64_wrap]
            · rw [if_neg hc, show wrap64 0 = 0 from wrap64_id (by decide) (by decide), Int.add_zero, wrap64_wrap]
        have := down n (Nat.le_refl n)
        rwa [Nat.sub_self] at this
      · rw [show (rd X (s : Int) == 0) = false by simpa using hz]
        refine Ev.step (fun _ => spec_l11Det.j2.eq_2 ..) (Ev.ff (by simp) ?_)
        have hn0 : n ≠ 0 := by omega
        have h2 := spec_det_l2 hn h16 hrow hsl (by omega) (wrap64 (Ds (ent m) n (2 ^ n - 1))) (fun X' hX' hi' => ih X' (by omega) (by omega) hX' fun t ht => by rw [hi' t ht, part_next]) n X (Nat.le_refl n) hX hi
        rw [if_neg hn0, above_top hsl (by omega), show sgn 0 = 1 from rfl] at h2
        rw [show wrap64 ((n : Int) - 1) = (n : Int) - 1 by rw [wrap64_id (by omega) (by omega)]]
        exact h2
theorem spec_det_ev (hn : n = m.length) (h16 : n ≤ 16) (hrow : ∀ r : Nat, r < n → (rd_L1 m (r : Nat)).length = n) : Ev (fun k => spec_l11Det.f k m) (wrap64 (Ds (ent m) n (2 ^ n - 1))) := by
  have hp := pow_small h16
  have hp1 : 0 < 2 ^ n := Nat.two_pow_pos n
  unfold spec_l11Det.f
  rw [← hn, shl_one h16]
  refine Ev.tt (by omega) (Ev.tt (by omega) (Ev.bnd0 rfl (Ev.tt (by rw [List.length_replicate]; omega) ?_)))
  refine spec_det_l0 hn h16 hrow (2 ^ n) 0 _ (by omega) (by omega) (by rw [List.length_set, List.length_replicate]; omega) fun t ht => ?_
  rw [show ((0 : Int)).toNat = 0 from rfl, rd_set (by rw [List.length_replicate]; omega)]
  by_cases e : t = 0
  · subst e
    rw [if_pos rfl, if_pos rfl]
  · rw [if_neg e, if_neg e, rd_nat, List.getD_eq_getElem?_getD]
    have hz : part (ent m) n 0 n t = 0 := by
      unfold part
      refine sumTo_zero fun k hk => ?_
      rw [if_neg]
      simp
      intro _ _
      omega
    rw [hz, wrap64_id (by decide) (by decide)]
    cases h : (List.replicate (((2 ^ n : Nat) : Int)).toNat (0 : Int))[t]? with
    | none => rfl
    | some v => exact (List.mem_replicate.1 (List.mem_of_getElem? h)).2
end
end Go.Proofs.Ytbenbfhpbnepmaa.P

namespace Go.Proofs.Ytbenbfhpbnepmaa.P
open Go.RowKit Go.Proofs.YtbenbfhpbnepmaaW.PrintWords
set_option linter.unusedVariables false
set_option linter.unusedSimpArgs false

theorem l01In_eq (a b c : Int) : spec_l01In.f a b c = some (decide (b ≤ a ∧ a ≤ c)) := by
  unfold spec_l01In.f
  by_cases h : a ≥ b
  · rw [if_pos h]; congr 1; simp; omega
  · rw [if_neg h]; congr 1; simp; omega

end Go.Proofs.Ytbenbfhpbnepmaa.P

namespace Go.Proofs.Ytbenbfhpbnepmaa.P
open Go.RowKit Go.Proofs.YtbenbfhpbnepmaaW.PrintWords Go.Proofs.Ytbenbfhpbnepmaa.Sup
set_option linter.unusedVariables false
set_option linter.unusedSimpArgs false

def absI (x : Int) : Int := (x.natAbs : Int)
def sumAbs : List Int → Nat
  | [] => 0
  | x :: t => x.natAbs + sumAbs t
theorem sumAbs_nil : sumAbs [] = 0 := rfl
theorem sumAbs_cons (x : Int) (t : List Int) : sumAbs (x :: t) = x.natAbs + sumAbs t := rfl
def small (x : Int) : Bool := decide (-16 ≤ x ∧ x ≤ 16)
def rowOk (n : Nat) (row : List Int) : Bool := decide (row.length = n) && row.all small && decide (sumAbs row ≤ 16)
def squareOk (m : List (List Int)) : Bool := decide (m.length ≤ 16) && m.all (rowOk m.length)
theorem mx_abs {x : Int} (h : small x = true) : mx x (wrap64 (-x)) = (x.natAbs : Int) := by
  have := of_decide_eq_true h
  rw [wrap64_id (by omega) (by omega)]
  unfold mx
  split <;> omega
theorem spec_row (m : List (List Int)) (hm : m.length ≤ 1048576) (i : Nat) (hi : i < m.length) (hrow : (m[i]).length = m.length) (r : Bool) (hk : Ev (fun k => spec_SquareOk.l0 k m ((i + 1 : Nat) : Int)) r) :
    ∀ (d j acc : Nat), m.length - j = d → j ≤ m.length → acc ≤ 16 * j →
      Ev (fun k => spec_SquareOk.l1 k m i acc j) (((m[i]).drop j).all small && (decide (acc + sumAbs ((m[i]).drop j) ≤ 16) && r))
  | 0, j, acc, hd, hj, hacc => by
    refine Ev.step (fun _ => spec_SquareOk.l1.eq_2 ..) ?_
    refine Ev.ff (by omega) ?_
    rw [List.drop_eq_nil_of_le (by omega), wsucc (by omega)]
    rw [List.all_nil, sumAbs_nil, Bool.true_and]
    by_cases h : acc ≤ 16
    · rw [decide_eq_true (show acc + 0 ≤ 16 from h), Bool.true_and]; exact Ev.ff (by omega) hk
    · rw [decide_eq_false (show ¬ acc + 0 ≤ 16 from h), Bool.false_and]; exact Ev.tt (by omega) (Ev.ret rfl)
  | d + 1, j, acc, hd, hj, hacc => by
    have hjl : j < (m[i]).length := by omega
    refine Ev.step (fun _ => spec_SquareOk.l1.eq_2 ..) ?_
    rw [rdL_get hi, rd_get hjl, List.drop_eq_getElem_cons hjl]
    refine Ev.tt (by omega) (Ev.tt (by omega) (Ev.tt (by omega) (Ev.tt (by omega) (Ev.tt (by omega) ?_))))
    refine Ev.bnd0 (l01In_eq _ _ _) ?_
    rw [List.all_cons, sumAbs_cons]
    by_cases hs : small (m[i])[j] = true
    · refine Ev.tt hs ?_
      have hb := of_decide_eq_true hs
      rw [mx_abs hs, wsucc (by omega), show ((acc : Int) + ((m[i])[j].natAbs : Int)) = ((acc + (m[i])[j].natAbs : Nat) : Int) by omega, wrap64_id (by omega) (by omega)]
      refine Ev.eq (spec_row m hm i hi hrow r hk d (j + 1) (acc + (m[i])[j].natAbs) (by omega) (by omega) (by omega)) ?_
      rw [hs, Bool.true_and, Nat.add_assoc]
    · refine Ev.ff hs (Ev.ret ?_)
      simp [hs]
theorem spec_rows (m : List (List Int)) (hm : m.length ≤ 1048576) : ∀ (d i : Nat), m.length - i = d → i ≤ m.length →
      Ev (fun k => spec_SquareOk.l0 k m i) (decide (m.length ≤ 16) && (m.drop i).all (rowOk m.length))
  | 0, i, hd, hi => by
    refine Ev.step (fun _ => spec_SquareOk.l0.eq_2 ..) ?_
    refine Ev.ff (by omega) (Ev.ret ?_)
    rw [List.drop_eq_nil_of_le (by omega)]
    simp
    omega
  | d + 1, i, hd, hi => by
    have hil : i < m.length := by omega
    refine Ev.step (fun _ => spec_SquareOk.l0.eq_2 ..) ?_
    refine Ev.tt (by omega) (Ev.tt (by omega) ?_)
    rw [List.drop_eq_getElem_cons hil, rdL_get hil, List.all_cons]
    have ih := spec_rows m hm d (i + 1) (by omega) (by omega)
    by_cases hr : (m[i]).length = m.length
    · refine Ev.tt (by omega) ?_
      refine Ev.eq (spec_row m hm i hil hr _ ih m.length 0 0 (by omega) (by omega) (by omega)) ?_
      simp only [List.drop_zero, Nat.zero_add, rowOk, hr, decide_true, Bool.true_and]
      by_cases h1 : (m[i]).all small = true <;> by_cases h2 : sumAbs m[i] ≤ 16 <;> simp [h1, h2]
    · refine Ev.ff (by omega) (Ev.ret ?_)
      simp [rowOk, hr]
theorem spec_SquareOk_ev (m : List (List Int)) (hm : m.length ≤ 1048576) : Ev (fun k => spec_SquareOk.f k m) (squareOk m) := by
  unfold spec_SquareOk.f
  exact spec_rows m hm m.length 0 (by omega) (by omega)
theorem impl_row (m : List (List Int)) (row : List Int) (h16 : row.length ≤ 16) (i : Nat) (hi : i < m.length) (hm : m.length ≤ 1048576) (r : Bool) (hk : Ev (fun k => impl_SquareOk.l0 k m m (m.length : Int) ((i + 1 : Nat) : Int)) r) :
    ∀ (d j acc : Nat), row.length - j = d → j ≤ row.length → acc ≤ 16 * j →
      Ev (fun k => impl_SquareOk.l1 k m acc m (m.length : Int) i row (row.length : Int) j) ((row.drop j).all small && (decide (acc + sumAbs (row.drop j) ≤ 16) && r))
  | 0, j, acc, hd, hj, hacc => by
    refine Ev.step (fun _ => impl_SquareOk.l1.eq_2 ..) ?_
    refine Ev.ff (by omega) ?_
    rw [List.drop_eq_nil_of_le (by omega), wsucc (by omega)]
    rw [List.all_nil, sumAbs_nil, Bool.true_and]
    by_cases h : acc ≤ 16
    · rw [decide_eq_true (show acc + 0 ≤ 16 from h), Bool.true_and]; exact Ev.ff (by omega) hk
    · rw [decide_eq_false (show ¬ acc + 0 ≤ 16 from h), Bool.false_and]; exact Ev.tt (by omega) (Ev.ret rfl)
  | d + 1, j, acc, hd, hj, hacc => by
    have hjl : j < row.length := by omega
    refine Ev.step (fun _ => impl_SquareOk.l1.eq_2 ..) ?_
    rw [rd_get hjl, List.drop_eq_getElem_cons hjl]
    refine Ev.tt (by omega) (Ev.tt (by omega) (Ev.tt (by omega) ?_))
    rw [List.all_cons, sumAbs_cons]
    by_cases hs : small row[j] = true
    · have hb := of_decide_eq_true hs
      refine Ev.ff (by omega) (Ev.ff (by omega) ?_)
      rw [mx_abs hs, wsucc (by omega), show ((acc : Int) + (row[j].natAbs : Int)) = ((acc + row[j].natAbs : Nat) : Int) by omega, wrap64_id (by omega) (by omega)]
      refine Ev.eq (impl_row m row h16 i hi hm r hk d (j + 1) (acc + row[j].natAbs) (by omega) (by omega) (by omega)) ?_
      rw [hs, Bool.true_and, Nat.add_assoc]
    · have hb : ¬ (-16 ≤ row[j] ∧ row[j] ≤ 16) := fun h => hs (decide_eq_true h)
      rw [Bool.not_eq_true] at hs
      rw [hs, Bool.false_and, Bool.false_and]
      by_cases h1 : row[j] < -16
      · exact Ev.tt h1 (Ev.ret rfl)
      · exact Ev.ff h1 (Ev.tt (by omega) (Ev.ret rfl))
theorem impl_rows (m : List (List Int)) (hm : m.length ≤ 1048576) : ∀ (d i : Nat), m.length - i = d → i ≤ m.length →
      Ev (fun k => impl_SquareOk.l0 k m m (m.length : Int) i) ((m.drop i).all fun row => decide (row.length ≤ 16) && rowOk m.length row)
  | 0, i, hd, hi => by
    refine Ev.step (fun _ => impl_SquareOk.l0.eq_2 ..) ?_
    refine Ev.ff (by omega) (Ev.ret ?_)
    rw [List.drop_eq_nil_of_le (by omega)]
    simp
  | d + 1, i, hd, hi => by
    have hil : i < m.length := by omega
    refine Ev.step (fun _ => impl_SquareOk.l0.eq_2 ..) ?_
    refine Ev.tt (by omega) (Ev.tt (by omega) (Ev.tt (by omega) ?_))
    rw [List.drop_eq_getElem_cons hil, rdL_get hil, List.all_cons]
    have ih := impl_rows m hm d (i + 1) (by omega) (by omega)
    by_cases hr : (m[i]).length = m.length
    · refine Ev.tt (by omega) ?_
      refine Ev.step (fun _ => impl_SquareOk.j1.eq_2 ..) ?_
      by_cases h16 : (m[i]).length ≤ 16
      · refine Ev.ff (by simp; omega) ?_
        refine Ev.eq (impl_row m m[i] h16 i hil hm _ ih (m[i]).length 0 0 (by omega) (by omega) (by omega)) ?_
        simp only [List.drop_zero, Nat.zero_add, rowOk, hr, decide_true, Bool.true_and]
        rw [hr] at h16
        by_cases h1 : (m[i]).all small = true <;> by_cases h2 : sumAbs m[i] ≤ 16 <;> simp [h1, h2, h16]
      · refine Ev.tt (by simp; omega) (Ev.ret ?_)
        simp [h16]
    · refine Ev.ff (by omega) ?_
      refine Ev.step (fun _ => impl_SquareOk.j1.eq_2 ..) ?_
      refine Ev.tt rfl (Ev.ret ?_)
      simp [rowOk, hr]
theorem impl_SquareOk_ev (m : List (List Int)) (hm : m.length ≤ 1048576) : Ev (fun k => impl_SquareOk.f k m) (squareOk m) := by
  unfold impl_SquareOk.f
  refine Ev.eq (impl_rows m hm m.length 0 (by omega) (by omega)) ?_
  rw [List.drop_zero]
  unfold squareOk
  rw [Bool.eq_iff_iff]
  simp only [List.all_eq_true, Bool.and_eq_true, decide_eq_true_eq]
  constructor
  · intro h
    refine ⟨?_, fun x hx => (h x hx).2⟩
    cases m with
    | nil => simp
    | cons a t =>
      obtain ⟨h1, h2⟩ := h a List.mem_cons_self
      have h3 : a.length = (a :: t).length := by
        simp only [rowOk, Bool.and_eq_true, decide_eq_true_eq] at h2
        exact h2.1.1
      omega
  · rintro ⟨h1, h2⟩ x hx
    refine ⟨?_, h2 x hx⟩
    have h3 := h2 x hx
    simp only [rowOk, Bool.and_eq_true, decide_eq_true_eq] at h3
    omega
end Go.Proofs.Ytbenbfhpbnepmaa.P

namespace Go.Proofs.Ytbenbfhpbnepmaa.P
open Go.RowKit Go.Proofs.YtbenbfhpbnepmaaW.PrintWords
set_option linter.unusedVariables false
set_option linter.unusedSimpArgs false

def detI (m : List (List Int)) : Int := if squareOk m then wrap64 (Ds (ent m) m.length (2 ^ m.length - 1)) else 0
theorem square_rows {m : List (List Int)} (h : squareOk m = true) : m.length ≤ 16 ∧ ∀ r : Nat, r < m.length → (rd_L1 m (r : Nat)).length = m.length := by
  unfold squareOk at h
  simp only [Bool.and_eq_true, decide_eq_true_eq, List.all_eq_true] at h
  refine ⟨h.1, fun r hr => ?_⟩
  rw [rdL_get hr]
  have := h.2 _ (List.getElem_mem hr)
  unfold rowOk at this
  simp only [Bool.and_eq_true, decide_eq_true_eq] at this
  exact this.1.1
theorem impl_Determinant_ev (m : List (List Int)) (hm : m.length ≤ 1048576) : Ev (fun k => impl_Determinant.f k m) (detI m) := by
  unfold impl_Determinant.f detI
  refine Ev.bind (impl_SquareOk_ev m hm) ?_
  by_cases h : squareOk m = true
  · obtain ⟨h1, h2⟩ := square_rows h
    rw [if_pos h]
    exact Ev.tt h (Ev.bind (impl_det_ev rfl h1 h2) (Ev.ret rfl))
  · rw [if_neg h]
    exact Ev.ff h (Ev.ret rfl)
theorem spec_Determinant_ev (m : List (List Int)) (hm : m.length ≤ 1048576) : Ev (fun k => spec_Determinant.f k m) (detI m) := by
  unfold spec_Determinant.f detI
  refine Ev.bind (spec_SquareOk_ev m hm) ?_
  by_cases h : squareOk m = true
  · obtain ⟨h1, h2⟩ := square_rows h
    rw [if_pos h]
    exact Ev.tt h (Ev.bind (spec_det_ev rfl h1 h2) (Ev.ret rfl))
  · rw [if_neg h]
    exact Ev.ff h (Ev.ret rfl)
end Go.Proofs.Ytbenbfhpbnepmaa.P

namespace Go.Proofs.Ytbenbfhpbnepmaa.P
open Go.RowKit Go.Proofs.YtbenbfhpbnepmaaW.PrintWords Go.Proofs.Ytbenbfhpbnepmaa.Sup
set_option linter.unusedVariables false
set_option linter.unusedSimpArgs false

theorem FnExactDeterminant_pure (l : List (List Int)) (hy : l.length ≤ 140737488351232) (hz : ∀ row ∈ l, row.length ≤ 9223372036854775807 ∧ ∀ x ∈ row, InR x) : ∃ k, laws_FnExactDeterminant.f k l = some true := by
  refine Ev.rounds ?_
  unfold laws_FnExactDeterminant.f
  refine Ev.bind (szIntSS_ev l hy (fun row h => (hz row h).1)) ?_
  by_cases h : l.length + lens l ≤ 1048576
  · rw [if_pos h]
    have hr : ∀ row ∈ l, row.length ≤ 1048576 := fun row hrow => by have := row_le_lens hrow; omega
    refine Ev.ff (by omega) ?_
    refine Ev.bind (toIntSS_ev l (by omega) hr) ?_
    refine Ev.bind (spec_Determinant_ev l (by omega)) ?_
    refine Ev.bind (toIntSS_ev l (by omega) hr) ?_
    refine Ev.bind (impl_Determinant_ev l (by omega)) ?_
    refine Ev.tt rfl ?_
    refine Ev.bind (toIntSS_ev l (by omega) hr) ?_
    refine Ev.bind (eqIntSS_ev l l (by omega) hr) ?_
    exact Ev.tt (by simp) (Ev.ret rfl)
  · rw [if_neg h]
    exact Ev.tt (by omega) (Ev.ret rfl)
end Go.Proofs.Ytbenbfhpbnepmaa.P

namespace Go.Proofs.Ytbenbfhpbnepmaa.fnExactDeterminant
open Go.ChangeShapes Go.WideShapes Go.ChangeAt Go.RowKit Go.Proofs.YtbenbfhpbnepmaaW.PrintWords Go.Proofs.Ytbenbfhpbnepmaa.Sup
open Go.ChangeMaps (open_string shut_string)
set_option linter.unusedVariables false
theorem own : ownKnob Try.prog.godebug = none := by kernel_rfl
theorem laidOut : laidOutB Try.prog = true := by kernel_rfl
set_option maxRecDepth 100000 in
theorem lifted (os : Os) (started : os.Started) (H : Type) (enc : TypeId × Value → H) :
    ReturnsInHanded {} Try.checked os 4 .any (Rows.fnExactDeterminantSpec.pre6 enc Try.prog Try.f4 Rows.fnExactDeterminantRow.domain false) (Rows.fnExactDeterminantSpec.post enc Try.prog Try.f4 false true false false) := by
  refine returnsInHanded_of_change_sized (C := Try.checked) own started (by kernel_rfl) Try.func4
    (ChangeSpec.witness6 (enc := enc) (C := Try.checked) false ⟨#[], #[.slice none 0 0], []⟩ 8 (by kernel_rfl) (by kernel_rfl) (by kernel_rfl) (by kernel_rfl)) ?_
  intro W base args ds gs before hval0 hW hcnd hsz0 _
  have hsz : (DataW.weightsEach Try.prog (Try.f4.params.toList ++ Rows.fnExactDeterminantSpec.plain.varTypes Try.prog) (ds ++ gs)).all (· ≤ reachBytes) = true := hsz0
  have hval : ∀ (j : Nat) t v, Try.f4.params[j]? = some t → args[j]? = some v → Value.okWide Try.prog W .any base t v := hval0
  have hW' := hW
  obtain ⟨p, q, hA0, hV, rfl, hfz, hnd⟩ := hW
  have hA : DataW.TrodAll enc Try.prog W 0 (fun _ => true) true Try.f4.params.toList args.toList ds p := hA0
  rw [Try.params4] at hA hval hsz
  obtain ⟨v0, vs0, d0, ds0, p0, q0, hargs, rfl, rfl, h0, r0⟩ := trodAll_cons hA
  obtain ⟨rfl, rfl, rfl⟩ := trodAll_nil r0
  obtain rfl : args = #[v0] := by cases args; simp_all
  obtain ⟨rfl, rfl⟩ := trodVars_none hV
  obtain ⟨a0, len0, cap0, rfl⟩ := okWide_slice Try.underlying22 (hval 0 22 v0 rfl rfl)
  have k0 := h0
  have lt0 : ∀ x ∈ p0, x.block < W.heap.size := by obtain ⟨m, hm⟩ := k0; exact DataW.trod_lt m _ _ _ hm
  obtain ⟨l0, rfl, hr0, hc0, hy0, hz0⟩ := open_rows Try.underlying22 Try.underlying60 Try.underlying3 (by kernel_rfl) (by kernel_rfl) hsz (B := 24) (by kernel_rfl) (by decide) (j := 0) (t := 22) rfl rfl h0
  clear hA0 hval0 hsz0 hsz
  obtain ⟨k, hf⟩ := P.FnExactDeterminant_pure l0 hy0 hz0
  refine (P.laws_FnExactDeterminant.calls k _ _ l0 true W hr0 hc0 hf).mono fun e W' ⟨he, bel0⟩ => ?_
  have bel : Below W.heap.size W W' := bel0
  subst he
  exact ⟨_, rfl, _, _, _, [], _, [], hW', trodAll_mk1 (shut_bool Try.underlying4 _), (trodAll_cons_mk (Below.trod laidOut (by kernel_rfl) (of_decide_eq_true (by kernel_rfl)) k0 bel lt0) trodAll_mk0), rfl, bel.frame _, fun h => by cases h⟩
theorem over : Rows.fnExactDeterminantRow.holds Try.pinned (OpenSpec.ofChange Rows.fnExactDeterminantSpec) :=
  OpenClaim.holds_of_wide 4 Try.f4 rfl rfl rfl rfl rfl rfl rfl ⟨rfl, rfl, rfl, rfl, rfl⟩ rfl rfl rfl rfl rfl (by kernel_rfl) Try.func4 (by kernel_rfl)
    (of_decide_eq_true (by kernel_rfl)) (by unfold Func.isWrapper; first | (rw [if_pos (by decide +kernel)]; kernel_rfl) | (rw [if_neg (by decide +kernel)]; exact ⟨rfl, rfl⟩))
    (fun os started H enc _ => lifted os started H enc)
theorem proved : Rows.FnExactDeterminantSaid := over
end Go.Proofs.Ytbenbfhpbnepmaa.fnExactDeterminant
namespace Go.Proofs.Ytbenbfhpbnepmaa
/-- The row, under a short name, for the claim. -/
theorem fnExactDeterminant_holds : Rows.FnExactDeterminantSaid := fnExactDeterminant.proved
#print axioms fnExactDeterminant_holds
end Go.Proofs.Ytbenbfhpbnepmaa
