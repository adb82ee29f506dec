/- The statement FnExactCountFixed of the seat, out of its plain form (FnExactCountFixed_pure) and the walk of its Go function. Part 6 of 6: each Go function's walk, then the plain lemmas, then the row. No condition: it holds for every input. -/
import Derived.Test.YtoohcdfokejkdaaBFnExactCountFixed5
import Derived.Test.YtoohcdfokejkdaaRows
import Derived.Below
import Derived.ChangeOld
import Derived.OpenShut
import Derived.ProofKit
import Derived.ShutString
import Derived.SizedLaws
import Derived.WalkKit
namespace Go.Proofs.Ytoohcdfokejkdaa.P
open Go.RowKit Go.Proofs.YtoohcdfokejkdaaW.PrintWords
set_option linter.unusedVariables false
set_option linter.unusedSimpArgs false

/-- The product of the first k numbers of the diagonal. -/
def dprod (A : Nat → Nat → Int) : Nat → Int
  | 0 => 1
  | k + 1 => dprod A k * A k k
theorem Heavy.diag {n : Nat} {A : Nat → Nat → Int} (H : Heavy n A) {i : Nat} (hi : i < n) : 0 ≤ A i i := by
  have := H.row i hi
  have := sumTo_ge (f := A i) hi (fun j hj hne => H.off i j hi hj (Ne.symm hne))
  omega
theorem dprod_nonneg {n : Nat} {A : Nat → Nat → Int} (H : Heavy n A) : ∀ k, k ≤ n → 0 ≤ dprod A k
  | 0, _ => by simp [dprod]
  | k + 1, h => Int.mul_nonneg (dprod_nonneg H k (by omega)) (H.diag (by omega))
/-- What is kept from step to step. -/
structure Stage (n : Nat) (A : Nat → Nat → Int) (k : Nat) : Prop extends HeavyK n A k where
  ple : dt k A ≤ dprod A k
  dle : ∀ i, k ≤ i → i < n → mnB A k i i ≤ dt k A * A i i
theorem Stage.start {n : Nat} {A : Nat → Nat → Int} (H : Heavy n A) : Stage n A 0 :=
  { HeavyK.start H with ple := by simp [dt, dprod], dle := fun i _ _ => by rw [mn_zero]; simp [dt] }
theorem Stage.next {n k : Nat} {A : Nat → Nat → Int} (H : Heavy n A) (K : Stage n A k) (hk : k < n) (hp : mnB A k k k ≠ 0) : Stage n A (k + 1) := by
  have N := K.toHeavyK.next hk hp
  have hpos := K.pos
  refine { N with ple := ?_, dle := fun i hi hin => ?_ }
  · have h1 := K.dle k (Nat.le_refl k) hk
    rw [mn_diag] at h1
    have h2 := Int.mul_le_mul_of_nonneg_right K.ple (H.diag hk)
    exact Int.le_trans h1 h2
  · have h1 := K.toHeavyK.step_le hk (show k < i by omega) hin
    have h2 := K.dle i (by omega) hin
    have h3 := Int.mul_le_mul_of_nonneg_left h2 (Int.le_of_lt N.pos)
    have h4 : dt k A * mnB A (k + 1) i i ≤ dt k A * (dt (k + 1) A * A i i) := by
      refine Int.le_trans h1 (Int.le_trans h3 (Int.le_of_eq ?_))
      rw [← Int.mul_assoc, ← Int.mul_assoc, Int.mul_comm (dt (k + 1) A)]
    exact Int.le_of_mul_le_mul_left h4 hpos
theorem cube_pow : ∀ d : Nat, d ^ 3 ≤ 3 ^ d
  | 0 => by decide
  | 1 => by decide
  | 2 => by decide
  | 3 => by decide
  | d + 4 => by
    have ih := cube_pow (d + 3)
    rw [Nat.pow_succ 3 (d + 3)]
    have : (d + 4) ^ 3 ≤ (d + 3) ^ 3 * 3 := by
      have e1 : (d + 4) ^ 3 = d * d * d + 12 * (d * d) + 48 * d + 64 := by grind
      have e2 : (d + 3) ^ 3 = d * d * d + 9 * (d * d) + 27 * d + 27 := by grind
      rw [e1, e2]
      omega
    omega
theorem cube_le {a b : Nat} (h : a ^ 3 ≤ b ^ 3) : a ≤ b := by
  rcases Nat.lt_or_ge b a with h1 | h1
  · have := Nat.pow_lt_pow_left h1 (show 3 ≠ 0 by decide)
    omega
  · exact h1
theorem dprod_cube {n : Nat} {A : Nat → Nat → Int} (H : Heavy n A) : ∀ k, k ≤ n → ∃ s : Nat, sumTo k (fun l => A l l) = s ∧ (dprod A k).toNat ^ 3 ≤ 3 ^ s
  | 0, _ => ⟨0, rfl, by simp [dprod]⟩
  | k + 1, hk => by
    obtain ⟨s, h1, h2⟩ := dprod_cube H k (by omega)
    have hd := H.diag (show k < n by omega)
    obtain ⟨a, ha⟩ := Int.eq_ofNat_of_zero_le hd
    obtain ⟨p, hp⟩ := Int.eq_ofNat_of_zero_le (dprod_nonneg H k (by omega))
    refine ⟨s + a, by simp only [sumTo]; rw [h1, ha]; rfl, ?_⟩
    simp only [dprod]
    rw [hp] at h2
    rw [ha, hp, ← Int.natCast_mul, Int.toNat_natCast, Nat.mul_pow, Nat.pow_add]
    exact Nat.mul_le_mul (by simpa using h2) (cube_pow a)
theorem sumTo_mono {n m : Nat} {f : Nat → Int} (h : ∀ i, i < m → 0 ≤ f i) (hn : n ≤ m) : sumTo n f ≤ sumTo m f := by
  induction m with
  | zero => rw [Nat.le_zero.1 hn]; exact Int.le_refl _
  | succ m ih =>
    by_cases e : n = m + 1
    · rw [e]; exact Int.le_refl _
    · have := ih (fun i hi => h i (by omega)) (by omega)
      simp only [sumTo]
      have := h m (by omega)
      omega
theorem sumTo_mono1 {n m i : Nat} {f : Nat → Int} (h : ∀ i, i < m → 0 ≤ f i) (hn : n ≤ i) (hi : i < m) : sumTo n f + f i ≤ sumTo m f := by
  have h1 := sumTo_mono (f := f) (fun j hj => h j (by omega)) hn (m := i)
  have h2 := sumTo_mono (f := f) h (show i + 1 ≤ m by omega)
  simp only [sumTo] at h2
  omega
/-- Every bordered minor is small. -/
theorem Stage.small {n k : Nat} {A : Nat → Nat → Int} (H : Heavy n A) (K : Stage n A k) (hs : sumTo n (fun l => A l l) ≤ 48) {i j : Nat} (hi : k ≤ i) (hin : i < n) (hj : k ≤ j) (hjn : j < n) : -43046721 ≤ mnB A k i j ∧ mnB A k i j ≤ 43046721 := by
  have hd := H.diag hin
  have hpn := dprod_nonneg H k (by omega)
  have key : mnB A k i i ≤ 43046721 := by
    have h1 := K.dle i hi hin
    have h2 := Int.mul_le_mul_of_nonneg_right K.ple hd
    have h3 : dprod A k * A i i ≤ 43046721 := by
      obtain ⟨s, e1, e2⟩ := dprod_cube H k (by omega)
      obtain ⟨a, ha⟩ := Int.eq_ofNat_of_zero_le hd
      obtain ⟨p, hp⟩ := Int.eq_ofNat_of_zero_le hpn
      have h4 := sumTo_mono1 (f := fun l => A l l) (fun l hl => H.diag hl) hi hin
      simp only [e1, ha] at h4
      rw [hp] at e2
      have h5 : (p * a) ^ 3 ≤ 43046721 ^ 3 := by
        rw [Nat.mul_pow]
        refine Nat.le_trans (Nat.mul_le_mul (by simpa using e2) (cube_pow a)) ?_
        rw [← Nat.pow_add, show (43046721 : Nat) ^ 3 = 3 ^ 48 by decide]
        exact Nat.pow_le_pow_right (by decide) (by omega)
      have h6 := cube_le h5
      rw [ha, hp, ← Int.natCast_mul]
      omega
    omega
  have h0 := K.toHeavyK.diag hi hin
  by_cases e : i = j
  · subst e; omega
  · have := K.off i j hi hj hin hjn e
    have := K.toHeavyK.abs hi hin hj hjn e
    omega
def pB (e : Nat → Nat × Nat) (E : Nat) (P : Nat → Nat) (U : Nat → Bool) (i j : Nat) : Int := pm e E P U (i + 1) (j + 1)
theorem sumTo_dl (n p : Nat) : sumTo n (fun j => dl (j + 1) p) = if 1 ≤ p ∧ p ≤ n then 1 else 0 := by
  induction n with
  | zero => simp only [sumTo]; rw [if_neg (by omega)]
  | succ n ih =>
    simp only [sumTo]
    rw [ih]
    unfold dl
    by_cases h : n + 1 = p
    · rw [if_neg (by omega), if_pos h, if_pos (by omega)]; rfl
    · rw [if_neg h]
      by_cases h2 : 1 ≤ p ∧ p ≤ n
      · rw [if_pos h2, if_pos (by omega)]; rfl
      · rw [if_neg h2, if_neg (by omega)]; rfl
theorem sumTo_le {n : Nat} {f g : Nat → Int} (h : ∀ i, i < n → f i ≤ g i) : sumTo n f ≤ sumTo n g := by
  induction n with
  | zero => exact Int.le_refl _
  | succ n ih => simp only [sumTo]; have := ih fun i hi => h i (by omega); have := h n (by omega); omega
theorem sumTo_nonneg {n : Nat} {f : Nat → Int} (h : ∀ i, i < n → 0 ≤ f i) : 0 ≤ sumTo n f := by
  have := sumTo_le (f := fun _ => 0) (g := f) h
  rwa [sumTo_zero fun _ _ => rfl] at this
theorem sumTo_nonpos {n : Nat} {f : Nat → Int} (h : ∀ i, i < n → f i ≤ 0) : sumTo n f ≤ 0 := by
  have := sumTo_le (f := f) (g := fun _ => 0) h
  rwa [sumTo_zero (f := fun _ => 0) fun _ _ => rfl] at this
theorem sumTo_const (n : Nat) (c : Int) : sumTo n (fun _ => c) = n * c := by
  induction n with
  | zero => simp [sumTo]
  | succ n ih => simp only [sumTo]; rw [ih]; grind
theorem pm_heavy {e : Nat → Nat × Nat} {V E n : Nat} {P : Nat → Nat} {U : Nat → Bool} (hP : ∀ x, x < V → P x ≤ n) (hG : Gr e V E) : Heavy n (pB e E P U) where
  off := fun i j _ _ hij => by
    unfold pB pm
    refine sumTo_nonpos fun g _ => ?_
    split
    · unfold dl
      repeat' split
      all_goals first | omega | decide
    · omega
  row := fun i hi => by
    unfold pB pm
    rw [sumTo_comm]
    refine sumTo_nonneg fun g hg => ?_
    by_cases hU : U g = true
    · simp only [hU, if_true]
      rw [sumTo_mul, show (fun j => dl (j + 1) (P (e g).1) - dl (j + 1) (P (e g).2)) = (fun j => dl (j + 1) (P (e g).1) + (-dl (j + 1) (P (e g).2))) from funext fun j => by omega, sumTo_add, sumTo_neg, sumTo_dl, sumTo_dl]
      have h1 := hP _ (hG g hg).1
      have h2 := hP _ (hG g hg).2
      unfold dl
      repeat' split
      all_goals first | omega | decide
    · simp only [hU]
      exact sumTo_nonneg fun _ _ => Int.le_refl _
theorem pm_trace {e : Nat → Nat × Nat} {E n : Nat} {P : Nat → Nat} {U : Nat → Bool} : sumTo n (fun l => pB e E P U l l) ≤ 2 * E := by
  unfold pB pm
  rw [sumTo_comm]
  have : sumTo E (fun g => sumTo n fun l => if U g then (dl (l + 1) (P (e g).1) - dl (l + 1) (P (e g).2)) * (dl (l + 1) (P (e g).1) - dl (l + 1) (P (e g).2)) else 0) ≤ sumTo E (fun _ => 2) := by
    refine sumTo_le fun g _ => ?_
    have h : sumTo n (fun l => if U g then (dl (l + 1) (P (e g).1) - dl (l + 1) (P (e g).2)) * (dl (l + 1) (P (e g).1) - dl (l + 1) (P (e g).2)) else 0) ≤ sumTo n (fun l => dl (l + 1) (P (e g).1) + dl (l + 1) (P (e g).2)) := by
      refine sumTo_le fun l _ => ?_
      unfold dl
      repeat' split
      all_goals first | omega | decide
    rw [sumTo_add, sumTo_dl, sumTo_dl] at h
    refine Int.le_trans h ?_
    repeat' split
    all_goals omega
  rw [sumTo_const] at this
  omega
end Go.Proofs.Ytoohcdfokejkdaa.P
namespace Go.Proofs.Ytoohcdfokejkdaa.P
open Go.RowKit Go.Proofs.YtoohcdfokejkdaaW.PrintWords
set_option linter.unusedVariables false
set_option linter.unusedSimpArgs false

theorem mul_box {a b : Int} (h1 : -43046721 ≤ a ∧ a ≤ 43046721) (h2 : -43046721 ≤ b ∧ b ≤ 43046721) : -1853020188851841 ≤ a * b ∧ a * b ≤ 1853020188851841 := by
  have e : (a * b).natAbs = a.natAbs * b.natAbs := Int.natAbs_mul a b
  have l : a.natAbs * b.natAbs ≤ 43046721 * 43046721 := Nat.mul_le_mul (by omega) (by omega)
  omega
/-- The state of a step: rows above i, and row i up to j, are done. -/
def gst (A : Nat → Nat → Int) (k i j r s : Nat) : Int := if k < r ∧ k < s ∧ (r < i ∨ (r = i ∧ s < j)) then mnB A (k + 1) r s else mnB A k r s
def Good (n : Nat) (A : Nat → Nat → Int) (k i j : Nat) (F : Nat → Nat → Int) : Prop := ∀ r s, k ≤ r → r < n → k ≤ s → s < n → F r s = gst A k i j r s
section
variable {n : Nat} {A : Nat → Nat → Int} (H : Heavy n A) (htr : sumTo n (fun l => A l l) ≤ 48) (hn : n ≤ 16)
include H htr hn
theorem bar_l3 {k i : Nat} (K : Stage n A k) (hz : mnB A k k k ≠ 0) (hki : k < i) (hin : i < n) {R : Int}
    (next : ∀ F, Good n A k i n F → Ev (fun r => spec_l11Trees.l2 r n (mat n n F) (dt k A) k ((i + 1 : Nat) : Int)) R) :
    ∀ (d j : Nat) (F : Nat → Nat → Int), j + d = n → k < j → Good n A k i j F → Ev (fun r => spec_l11Trees.l3 r n (mat n n F) (dt k A) k i j) R
  | 0, j, F, hd, hkj, hF => by
    refine Ev.step (fun _ => spec_l11Trees.l3.eq_2 ..) (Ev.ff (by omega) ?_)
    rw [wsucc (by omega)]
    rw [show j = n by omega] at hF
    exact next F hF
  | d + 1, j, F, hd, hkj, hF => by
    have hj : j < n := by omega
    have hkn : k < n := by omega
    have hpos := K.pos
    refine Ev.step (fun _ => spec_l11Trees.l3.eq_2 ..) (Ev.tt (by omega) (Ev.tt (by omega) (Ev.tt (by rw [mat_len]; omega) (Ev.tt (by omega) (Ev.tt (by rw [rd_mat hin, dlist_length]; omega)
      (Ev.tt (by omega) (Ev.tt (by rw [mat_len]; omega) (Ev.tt (by rw [rd_mat hkn, dlist_length]; omega) (Ev.tt (by rw [rd_mat hin, dlist_length]; omega) (Ev.tt (by rw [rd_mat hkn, dlist_length]; omega) (Ev.ff (by omega) ?_)))))))))))
    have f1 : F i j = mnB A k i j := by rw [hF i j (by omega) hin (by omega) hj]; exact if_neg (by omega)
    have f2 : F k k = mnB A k k k := by rw [hF k k (by omega) hkn (by omega) hkn]; exact if_neg (by omega)
    have f3 : F i k = mnB A k i k := by rw [hF i k (by omega) hin (by omega) hkn]; exact if_neg (by omega)
    have f4 : F k j = mnB A k k j := by rw [hF k j (by omega) hkn (by omega) hj]; exact if_neg (by omega)
    have b1 := K.small H htr (show k ≤ i by omega) hin (show k ≤ j by omega) hj
    have b2 := K.small H htr (Nat.le_refl k) hkn (Nat.le_refl k) hkn
    have b3 := K.small H htr (show k ≤ i by omega) hin (Nat.le_refl k) hkn
    have b4 := K.small H htr (Nat.le_refl k) hkn (show k ≤ j by omega) hj
    have m1 := mul_box b1 b2
    have m2 := mul_box b3 b4
    have hsyl := syl A k i j (by omega)
    have hval : wrap64 (Int.tdiv (wrap64 ((wrap64 (F i j * F k k)) - (wrap64 (F i k * F k j)))) (dt k A)) = mnB A (k + 1) i j := by
      rw [f1, f2, f3, f4, wrap64_id (x := mnB A k i j * mnB A k k k) (by omega) (by omega), wrap64_id (x := mnB A k i k * mnB A k k j) (by omega) (by omega), wrap64_id (x := mnB A k i j * mnB A k k k - mnB A k i k * mnB A k k j) (by omega) (by omega)]
      have e : mnB A k i j * mnB A k k k - mnB A k i k * mnB A k k j = dt k A * mnB A (k + 1) i j := by rw [hsyl, Int.mul_comm (mnB A k i j)]
      rw [e, Int.mul_tdiv_cancel_left _ (by omega)]
      have K' := Stage.next H K hkn hz
      have b5 := K'.small H htr (show k + 1 ≤ i by omega) hin (show k + 1 ≤ j by omega) hj
      exact wrap64_id (by omega) (by omega)
    have hM : (mat n n F).set i ((rd_L2 (mat n n F) (i : Int)).set j (wrap64 (Int.tdiv (wrap64 ((wrap64 (rd (rd_L2 (mat n n F) (i : Int)) (j : Int) * rd (rd_L2 (mat n n F) (k : Int)) (k : Int))) - (wrap64 (rd (rd_L2 (mat n n F) (i : Int)) (k : Int) * rd (rd_L2 (mat n n F) (k : Int)) (j : Int))))) (dt k A)))) = mat n n (put F i j (mnB A (k + 1) i j)) := by
      rw [mat_put hin hj, rd_mat hin, rd_mat hkn, rd_dlist hj, rd_dlist hkn, rd_dlist hkn, rd_dlist hj, hval]
    rw [Int.toNat_natCast, Int.toNat_natCast, hM, wsucc (by omega)]
    refine bar_l3 K hz hki hin next d (j + 1) _ (by omega) (by omega) ?_
    intro r s h1 h2 h3 h4
    by_cases e : r = i ∧ s = j
    · obtain ⟨rfl, rfl⟩ := e
      have eg : gst A k r (s + 1) r s = mnB A (k + 1) r s := if_pos ⟨by omega, by omega, .inr ⟨rfl, by omega⟩⟩
      rw [eg]
      unfold put upd
      simp
    · have e0 : put F i j (mnB A (k + 1) i j) r s = F r s := by
        unfold put upd
        by_cases q : r = i
        · have : ¬ s = j := fun q2 => e ⟨q, q2⟩
          simp only [q, if_true, this, if_false]
        · simp only [q, if_false]
      rw [e0, hF r s h1 h2 h3 h4]
      unfold gst
      by_cases c1 : k < r ∧ k < s ∧ (r < i ∨ (r = i ∧ s < j))
      · rw [if_pos c1, if_pos ⟨c1.1, c1.2.1, by omega⟩]
      · rw [if_neg c1, if_neg (by omega)]
theorem bar_l2 {k : Nat} (K : Stage n A k) (hz : mnB A k k k ≠ 0) (hkn : k < n) {R : Int}
    (next : ∀ F, Good n A k n (k + 1) F → Ev (fun r => spec_l11Trees.l1 r n (mat n n F) (mnB A k k k) ((k + 1 : Nat) : Int)) R) :
    ∀ (d i : Nat) (F : Nat → Nat → Int), i + d = n → k < i → Good n A k i (k + 1) F → Ev (fun r => spec_l11Trees.l2 r n (mat n n F) (dt k A) k i) R
  | 0, i, F, hd, hki, hF => by
    obtain rfl : i = n := by omega
    refine Ev.step (fun _ => spec_l11Trees.l2.eq_2 ..) (Ev.ff (by omega) (Ev.tt (by omega) (Ev.tt (by rw [mat_len]; omega) (Ev.tt (by rw [rd_mat hkn, dlist_length]; omega) ?_))))
    have f2 : F k k = mnB A k k k := by rw [hF k k (by omega) hkn (by omega) hkn]; exact if_neg (by omega)
    rw [rd_mat hkn, rd_dlist hkn, f2, wsucc (by omega)]
    exact next F hF
  | d + 1, i, F, hd, hki, hF => by
    refine Ev.step (fun _ => spec_l11Trees.l2.eq_2 ..) (Ev.tt (by omega) ?_)
    rw [wsucc (by omega)]
    refine bar_l3 H htr hn K hz hki (by omega) (fun F' hF' => bar_l2 K hz hkn next d (i + 1) F' (by omega) (by omega) ?_) (n - (k + 1)) (k + 1) F (by omega) (by omega) hF
    intro r s h1 h2 h3 h4
    rw [hF' r s h1 h2 h3 h4]
    unfold gst
    by_cases c1 : k < r ∧ k < s ∧ (r < i ∨ (r = i ∧ s < n))
    · rw [if_pos c1, if_pos (by omega)]
    · rw [if_neg c1, if_neg (by omega)]
theorem bar_l1 : ∀ (d k : Nat) (F : Nat → Nat → Int), k + d + 1 = n → Stage n A k → Good n A k (k + 1) (k + 1) F → Ev (fun r => spec_l11Trees.l1 r n (mat n n F) (dt k A) k) (dt n A)
  | 0, k, F, hd, K, hF => by
    have hkn : k < n := by omega
    refine Ev.step (fun _ => spec_l11Trees.l1.eq_2 ..) ?_
    rw [wrap64_id (by omega) (by omega), show (n : Int) - 1 = (k : Int) by omega]
    refine Ev.ff (by omega) (Ev.ff (by omega) (Ev.tt (by omega) (Ev.tt (by rw [mat_len]; omega) (Ev.tt (by rw [rd_mat hkn, dlist_length]; omega) (Ev.ret ?_)))))
    rw [rd_mat hkn, rd_dlist hkn, hF k k (by omega) hkn (by omega) hkn]
    unfold gst
    rw [if_neg (by omega), mn_diag, show k + 1 = n by omega]
  | d + 1, k, F, hd, K, hF => by
    have hkn : k < n := by omega
    have f2 : F k k = mnB A k k k := by rw [hF k k (by omega) hkn (by omega) hkn]; exact if_neg (by omega)
    refine Ev.step (fun _ => spec_l11Trees.l1.eq_2 ..) ?_
    rw [wrap64_id (by omega) (by omega)]
    refine Ev.tt (by omega) (Ev.tt (by omega) (Ev.tt (by rw [mat_len]; omega) (Ev.tt (by rw [rd_mat hkn, dlist_length]; omega) ?_)))
    rw [rd_mat hkn, rd_dlist hkn, f2, wsucc (by omega)]
    refine Ev.ite (fun e => Ev.ret (K.toHeavyK.zero hkn e).symm) (fun e => ?_)
    have K' := Stage.next H K hkn e
    refine bar_l2 H htr hn K e hkn (fun F' hF' => ?_) (n - (k + 1)) (k + 1) F (by omega) (by omega) hF
    rw [mn_diag]
    refine bar_l1 d (k + 1) F' (by omega) K' ?_
    intro r s h1 h2 h3 h4
    rw [hF' r s (by omega) h2 (by omega) h4]
    unfold gst
    rw [if_pos ⟨by omega, by omega, .inl h2⟩, if_neg (by omega)]
omit H htr in
theorem bar_l0 {m : List (List Int)} {R : Int} (hm : m.length = n) (hrow : ∀ row ∈ m, row.length ≤ 1000) (next : Ev (fun r => spec_l11Trees.l1 r n m 1 0) R) : ∀ (d i : Nat), i + d = n → Ev (fun r => spec_l11Trees.l0 r m n (m.take i) i) R
  | 0, i, hd => by
    refine Ev.step (fun _ => spec_l11Trees.l0.eq_2 ..) (Ev.ff (by omega) ?_)
    rw [List.take_of_length_le (by omega)]
    exact next
  | d + 1, i, hd => by
    have hi : i < m.length := by omega
    have := hrow _ (List.getElem_mem hi)
    refine Ev.step (fun _ => spec_l11Trees.l0.eq_2 ..) (Ev.tt (by omega) (Ev.bnd0 rfl (Ev.tt (by omega) (Ev.tt (by omega) ?_))))
    rw [rdL_get hi, wsucc (by omega)]
    refine Ev.tt (by simp; omega) (Ev.tt (by rw [List.length_take]; omega) ?_)
    have := bar_l0 hm hrow next d (i + 1) (by omega)
    rw [List.take_succ_eq_append_getElem hi] at this
    rw [List.nil_append]
    exact this
/-- The determinant of a heavy matrix. -/
theorem l11_ev : Ev (fun r => spec_l11Trees.f r (mat n n A)) (dt n A) := by
  unfold spec_l11Trees.f
  rw [mat_len]
  have hrow : ∀ row ∈ mat n n A, row.length ≤ 1000 := fun row hr => by
    unfold mat at hr
    obtain ⟨i, _, rfl⟩ := List.mem_map.1 hr
    rw [dlist_length]
    omega
  have := @bar_l0 n hn (mat n n A) (dt n A) (mat_len ..) hrow ?_ n 0 (by omega)
  · rwa [List.take_zero] at this
  · rcases Nat.eq_zero_or_pos n with h0 | h0
    · refine Ev.step (fun _ => spec_l11Trees.l1.eq_2 ..) ?_
      rw [wrap64_id (by omega) (by omega)]
      refine Ev.ff (by omega) (Ev.tt (by omega) (Ev.ret ?_))
      rw [h0]
      rfl
    · have := bar_l1 H htr hn (n - 1) 0 A (by omega) (Stage.start H) (fun r s _ _ _ _ => by
        unfold gst
        rw [if_neg (by omega), mn_zero])
      exact this
end
end Go.Proofs.Ytoohcdfokejkdaa.P
namespace Go.Proofs.Ytoohcdfokejkdaa.P
open Go.RowKit Go.Proofs.YtoohcdfokejkdaaW.PrintWords
set_option linter.unusedVariables false
set_option linter.unusedSimpArgs false

theorem spec_EndsOf_eq (w h g : Int) : spec_EndsOf.f w h g = some (endsI w h g) := by
  unfold spec_EndsOf.f endsI
  have hr0 := gapsOf_range w h
  rw [spec_CountGaps_eq, Option.bind_some, wrap64_id (x := gapsOf w h - 1) (by omega) (by omega), l01In_eq, Option.bind_some]
  by_cases hc : 0 ≤ g ∧ g < gapsOf w h
  · rw [if_pos hc, if_pos (by simp; omega)]
    obtain ⟨hg, hgw⟩ := gapsOf_valid hc.1 hc.2
    have hgr := gridOk_iff.1 hg
    have hrr := gapsOf_range w h
    have hq0 : 0 ≤ (w - 1) * h := Int.mul_nonneg (by omega) (by omega)
    have hq1 : (w - 1) * h ≤ 3 * 4 := Int.mul_le_mul (by omega) (by omega) (by omega) (by omega)
    have hw1 : w - 1 = 0 → (w - 1) * h = 0 := fun e => by rw [e, Int.zero_mul]
    rw [spec_l02East_eq hg]
    unfold eastOf
    simp only [Option.bind_some]
    rw [wrap64_id (x := w - 1) (by omega) (by omega)]
    by_cases hlt : g < (w - 1) * h
    · rw [if_pos hlt, if_pos hlt]
      have hne : w - 1 ≠ 0 := fun e => by have := hw1 e; omega
      have ha0 : 0 ≤ g / (w - 1) := Int.ediv_nonneg hc.1 (by omega)
      have ha1 : g / (w - 1) ≤ g := Int.ediv_le_self _ hc.1
      have hb0 : 0 ≤ g % (w - 1) := Int.emod_nonneg _ (by omega)
      have hb1 : g % (w - 1) < w - 1 := Int.emod_lt_of_pos _ (by omega)
      have hp0 : 0 ≤ g / (w - 1) * w := Int.mul_nonneg ha0 (by omega)
      have hp1 : g / (w - 1) * w ≤ 23 * 4 := Int.mul_le_mul (by omega) (by omega) (by omega) (by omega)
      rw [if_neg hne, Int.tmod_eq_emod_of_nonneg hc.1, Int.tdiv_eq_ediv_of_nonneg hc.1, wrap64_id (x := g / (w - 1)) (by omega) (by omega), wrap64_id (x := g / (w - 1) * w) (by omega) (by omega), wrap64_id (x := g / (w - 1) * w + g % (w - 1)) (by omega) (by omega), wrap64_id (by omega) (by omega)]
    · rw [if_neg hlt, if_neg hlt]
      rw [wrap64_id (x := g - (w - 1) * h) (by omega) (by omega), wrap64_id (by omega) (by omega)]
  · rw [if_neg hc, if_neg (by simp; omega)]
end Go.Proofs.Ytoohcdfokejkdaa.P
namespace Go.Proofs.Ytoohcdfokejkdaa.P
open Go.RowKit Go.Proofs.YtoohcdfokejkdaaW.PrintWords
set_option linter.unusedVariables false
set_option linter.unusedSimpArgs false

theorem mat_four2 {g n A B : Nat} {f : Nat → Nat → Int} {R : Int} (G : Nat → List (List Int) → Option Int) (hB : Bd f g) (hg : g ≤ 24) (p1 : A < n) (p2 : B < n)
    (ih : Ev (fun k => G k (mat n n (put (put (put (put f A A (f A A + 1)) B B (put f A A (f A A + 1) B B + 1)) A B (put (put f A A (f A A + 1)) B B (put f A A (f A A + 1) B B + 1) A B - 1)) B A
      (put (put (put f A A (f A A + 1)) B B (put f A A (f A A + 1) B B + 1)) A B (put (put f A A (f A A + 1)) B B (put f A A (f A A + 1) B B + 1) A B - 1) B A - 1)))) R) :
    Ev (fun k => if 0 ≤ (A : Int) then if (A : Int) < ((mat n n f).length : Int) then if (A : Int) < ((rd_L2 (mat n n f) (A : Int)).length : Int) then
      (some ((mat n n f).set A ((rd_L2 (mat n n f) (A : Int)).set A (wrap64 (rd (rd_L2 (mat n n f) (A : Int)) (A : Int) + 1))))).bind fun y133 =>
      if 0 ≤ (B : Int) then if (B : Int) < ((mat n n f).length : Int) then if (B : Int) < ((rd_L2 y133 (B : Int)).length : Int) then
      (some (y133.set B ((rd_L2 y133 (B : Int)).set B (wrap64 (rd (rd_L2 y133 (B : Int)) (B : Int) + 1))))).bind fun y138 =>
      if (B : Int) < ((rd_L2 y138 (A : Int)).length : Int) then
      (some (y138.set A ((rd_L2 y138 (A : Int)).set B (wrap64 (rd (rd_L2 y138 (A : Int)) (B : Int) - 1))))).bind fun y143 =>
      if (A : Int) < ((rd_L2 y143 (B : Int)).length : Int) then
        G k (y143.set B ((rd_L2 y143 (B : Int)).set A (wrap64 (rd (rd_L2 y143 (B : Int)) (A : Int) - 1))))
      else none else none else none else none else none else none else none else none) R := by
  have b0 : 0 ≤ (g : Int) := by omega
  have v1 := hB A A
  have hB1 := bd_put (a := A) (b := A) (v := f A A + 1) hB b0 (by omega) (by omega)
  have v2 := hB1 B B
  have hB2 := bd_put (a := B) (b := B) (v := put f A A (f A A + 1) B B + 1) hB1 (by omega) (by omega) (by omega)
  have v3 := hB2 A B
  have hB3 := bd_put (a := A) (b := B) (v := put (put f A A (f A A + 1)) B B (put f A A (f A A + 1) B B + 1) A B - 1) hB2 (by omega) (by omega) (by omega)
  refine Ev.tt (by omega) (Ev.tt (by rw [mat_len]; omega) (Ev.tt (by rw [rd_mat p1, dlist_length]; omega) ?_))
  refine Ev.bnd0 (congrArg some (mat_inc hB (by omega) p1 p1)) ?_
  refine Ev.tt (by omega) (Ev.tt (by rw [mat_len]; omega) (Ev.tt (by rw [rd_mat p2, dlist_length]; omega) ?_))
  refine Ev.bnd0 (congrArg some (mat_inc hB1 (by omega) p2 p2)) ?_
  refine Ev.tt (by rw [rd_mat p1, dlist_length]; omega) ?_
  refine Ev.bnd0 (congrArg some (mat_dec hB2 (by omega) p1 p2)) ?_
  refine Ev.tt (by rw [rd_mat p2, dlist_length]; omega) ?_
  rw [mat_dec hB3 (by omega) p2 p1]
  exact ih
theorem dlist_drop1 (n : Nat) (D : Nat → Int) : (dlist (n + 1) D).drop 1 = dlist n fun i => D (i + 1) := by
  rw [← dlist_erase0]
  simp
theorem tail_l0 {n : Nat} {M : Nat → Nat → Int} {R : Int} (hn : n ≤ 1000) (next : Ev (fun k => spec_l11Trees.f k (mat n n fun i j => M (i + 1) (j + 1))) R) :
    ∀ d i : Nat, i + d = n → Ev (fun k => spec_l12Tail.l0 k ((n + 1 : Nat) : Int) (mat (n + 1) (n + 1) M) (mat i n fun i j => M (i + 1) (j + 1)) ((i + 1 : Nat) : Int)) R
  | 0, i, hd => by
    obtain rfl : i = n := by omega
    exact Ev.step (fun _ => spec_l12Tail.l0.eq_2 ..) (Ev.ff (by omega) (Ev.bind next (Ev.ret rfl)))
  | d + 1, i, hd => by
    have hi : i + 1 < n + 1 := by omega
    refine Ev.step (fun _ => spec_l12Tail.l0.eq_2 ..) (Ev.tt (by omega) (Ev.tt (by omega) (Ev.tt (by rw [mat_len]; omega) (Ev.tt (by rw [rd_mat hi, dlist_length]; omega) (Ev.tt (by rw [mat_len]; omega) ?_)))))
    rw [rd_mat hi, dlist_drop1, wsucc (by omega)]
    have := tail_l0 hn next d (i + 1) (by omega)
    rw [← mat_app (n := i)] at this
    exact this
section
variable {w h : Int} {c b : Nat} (hg : gridOk w h = true) (hc : c < 2 ^ gapsN w h) (hb : b < 2 ^ gapsN w h)
include hg hc hb
theorem l12_tail (hf : pop (gapsN w h) c + partsN w h c = cellsN w h) (hd : ∀ i, c.testBit i = true → b.testBit i = false) :
    Ev (fun k => spec_l12Tail.f k (mat (partsN w h c) (partsN w h c) (pm (ends w h) (gapsN w h) (plN w h c) (und c b))) (partsN w h c : Nat)) ((totN w h c b : Nat) : Int) := by
  have hV := cells_pos hg
  have hp : 0 < partsN w h c := parts_pos hc (by omega)
  have h16 := partsN_le w h c
  have h24 := gapsN_le w h
  have htot := trees_place (gr_grid w h) hV hc hb hd hf
  obtain ⟨n, hn⟩ : ∃ n, partsN w h c = n + 1 := ⟨partsN w h c - 1, by omega⟩
  have hH : Heavy n (pB (ends w h) (gapsN w h) (plN w h c) (und c b)) := pm_heavy (V := cellsN w h) (fun x hx => by
    have : plN w h c x < partsN w h c := plN_lt hx
    omega) (gr_grid w h)
  have htr := pm_trace (e := ends w h) (E := gapsN w h) (n := n) (P := plN w h c) (U := und c b)
  have h11 := l11_ev hH (by omega) (by omega)
  have hpn : parts (ends w h) (cellsN w h) (gapsN w h) c - 1 = n := by unfold partsN at hn; omega
  rw [hpn] at htot
  have he : dt n (pB (ends w h) (gapsN w h) (plN w h c) (und c b)) = ((totN w h c b : Nat) : Int) := htot.symm
  rw [he] at h11
  rw [hn]
  unfold spec_l12Tail.f
  exact tail_l0 (by omega) h11 n 0 (by omega)
omit hg in
theorem l12_l3 {R : Int} (next : Ev (fun k => spec_l12Tail.f k (mat (partsN w h c) (partsN w h c) (pm (ends w h) (gapsN w h) (plN w h c) (und c b))) (partsN w h c : Nat)) R) :
    ∀ d g : Nat, g + d = gapsN w h → Ev (fun k => spec_l12Trees.l3 k ((c ||| b : Nat) : Int) (dlist (cellsN w h) fun x => (plN w h c x : Nat)) (partsN w h c : Nat) (mat (partsN w h c) (partsN w h c) (pm (ends w h) g (plN w h c) (und c b))) g w h) R
  | 0, g, hd => by
    have hcc := gapsN_cast w h
    obtain rfl : g = gapsN w h := by omega
    exact Ev.step (fun _ => spec_l12Trees.l3.eq_2 ..) (Ev.bnd0 (spec_CountGaps_eq w h) (Ev.ff (by omega) (Ev.bind next (Ev.ret rfl))))
  | d + 1, g, hd => by
    have hcc := gapsN_cast w h
    have h24 := gapsN_le w h
    have hgg : g < gapsN w h := by omega
    obtain ⟨e1, e2, e3⟩ := ends_facts hgg
    have hor : (c ||| b) < 2 ^ gapsN w h := Nat.or_lt_two_pow hc hb
    have hos := open_small hor
    have ih := l12_l3 next d (g + 1) (by omega)
    have p1 : plN w h c (ends w h g).1 < partsN w h c := plN_lt (by omega)
    have p2 : plN w h c (ends w h g).2 < partsN w h c := plN_lt e3
    have hun : und c b g = !(c ||| b).testBit g := by unfold und; rw [Nat.testBit_or]; cases c.testBit g <;> cases b.testBit g <;> rfl
    refine Ev.step (fun _ => spec_l12Trees.l3.eq_2 ..) (Ev.bnd0 (spec_CountGaps_eq w h) (Ev.tt (by omega) (Ev.bnd0 (spec_EndsOf_eq w h g) (Ev.bnd0 (spec_l03Bit_eq hos (by omega)) ?_))))
    rw [openI_nat', wsucc (by omega), e1]
    refine Ev.ite (fun e => ?_) (fun e => ?_)
    · rw [pm_succ, if_neg (by rw [hun, e]; simp)] at ih
      exact ih
    · refine Ev.tt (by omega) (Ev.tt (by rw [dlist_length]; omega) (Ev.tt (by omega) (Ev.tt (by rw [dlist_length]; omega) ?_)))
      rw [rd_dlist (show (ends w h g).1 < cellsN w h by omega), rd_dlist e3]
      refine Ev.ite (fun e4 => ?_) (fun e4 => ?_)
      · rw [pm_same (show plN w h c (ends w h g).1 = plN w h c (ends w h g).2 by omega)] at ih
        exact ih
      · rw [pm_succ, if_pos (by rw [hun, Bool.eq_false_iff.2 e]; rfl)] at ih
        have hB := pm_bd (ends w h) (plN w h c) (und c b) g
        rw [← four_put] at ih
        rw [Int.toNat_natCast, Int.toNat_natCast]
        generalize hAA : plN w h c (ends w h g).1 = A at *
        generalize hBB : plN w h c (ends w h g).2 = B at *
        generalize pm (ends w h) g (plN w h c) (und c b) = f at *
        exact mat_four2 (fun k M => spec_l12Trees.l3 k ((c ||| b : Nat) : Int) (dlist (cellsN w h) fun x => (plN w h c x : Nat)) (partsN w h c : Nat) M ((g + 1 : Nat) : Int) w h) hB (by omega) p1 p2 ih
omit hg hc hb in
theorem l12_l2 {R : Int} (L : List Int) (next : Ev (fun k => spec_l12Trees.l3 k ((c ||| b : Nat) : Int) L (partsN w h c : Nat) (mat (partsN w h c) (partsN w h c) fun _ _ => 0) 0 w h) R) :
    ∀ d i : Nat, i + d = partsN w h c → Ev (fun k => spec_l12Trees.l2 k ((c ||| b : Nat) : Int) L (partsN w h c : Nat) (mat i (partsN w h c) fun _ _ => 0) i w h) R
  | 0, i, hd => by
    obtain rfl : i = partsN w h c := by omega
    exact Ev.step (fun _ => spec_l12Trees.l2.eq_2 ..) (Ev.ff (by omega) next)
  | d + 1, i, hd => by
    have h16 := partsN_le w h c
    refine Ev.step (fun _ => spec_l12Trees.l2.eq_2 ..) (Ev.tt (by omega) (Ev.tt (by omega) (Ev.tt (by omega) (Ev.tt (by rw [mat_len]; omega) ?_))))
    rw [Int.toNat_natCast, zeros_dlist, wsucc (by omega)]
    have := l12_l2 L next d (i + 1) (by omega)
    rw [← mat_app (n := i)] at this
    exact this
end
section
variable {w h : Int} {c : Nat} (hc : c < 2 ^ gapsN w h) {P : Nat → Int} (hP : ∀ x y, x < cellsN w h → y < cellsN w h → (P x = P y ↔ labN w h c x = labN w h c y))
include hc hP
/-- The places while cell i is looked up. -/
def plst (w h : Int) (c i j x : Nat) : Int := if x < i then (plN w h c x : Nat) else if x = i then (if labN w h c i < j then (plN w h c i : Nat) else -1) else 0
omit hc in
theorem l12_l1 {X R : Int} {i n : Nat} (hi : i < cellsN w h)
    (next : Ev (fun k => spec_l12Trees.l1 k X (dlist (cellsN w h) P) (dlist (cellsN w h) (plst w h c i i)) n i i w h) R) :
    ∀ d j : Nat, j + d = i → Ev (fun k => spec_l12Trees.l1 k X (dlist (cellsN w h) P) (dlist (cellsN w h) (plst w h c i j)) n i j w h) R
  | 0, j, hd => by
    rw [show j = i by omega]
    exact next
  | d + 1, j, hd => by
    have h16 := cellsN_le w h
    have hj : j < cellsN w h := by omega
    refine Ev.step (fun _ => spec_l12Trees.l1.eq_2 ..) (Ev.tt (by omega) (Ev.tt (by omega) (Ev.tt (by rw [dlist_length]; omega) (Ev.tt (by omega) (Ev.tt (by rw [dlist_length]; omega) ?_)))))
    rw [rd_dlist hj, rd_dlist hi, wsucc (by omega)]
    have ih := l12_l1 hi next d (j + 1) (by omega)
    refine Ev.ite (fun e => Ev.tt (by rw [dlist_length]; omega) (Ev.tt (by rw [dlist_length]; omega) ?_)) (fun e => ?_)
    · have hl := (hP j i hj hi).1 e
      have hle : labN w h c j ≤ j := lab_le _ _ _ _
      have hpl : plN w h c j = plN w h c i := plc_eq.2 hl
      rw [rd_dlist hj, Int.toNat_natCast, dlist_set hi]
      have e0 : dlist (cellsN w h) (upd (plst w h c i j) i (plst w h c i j j)) = dlist (cellsN w h) (plst w h c i (j + 1)) := by
        unfold dlist upd
        refine List.map_congr_left fun x _ => ?_
        by_cases q : x = i
        · subst q
          rw [if_pos rfl]
          unfold plst
          rw [if_pos (by omega), if_neg (by omega), if_pos rfl, if_pos (by omega), hpl]
        · rw [if_neg q]
          unfold plst
          by_cases q2 : x < i
          · rw [if_pos q2, if_pos q2]
          · rw [if_neg q2, if_neg q, if_neg q2, if_neg q]
      rw [e0]
      exact ih
    · have hne : labN w h c i ≠ j := by
        intro q
        apply e
        rw [hP j i hj hi, ← q]
        exact lab_lab _ _ _ _
      have e0 : dlist (cellsN w h) (plst w h c i j) = dlist (cellsN w h) (plst w h c i (j + 1)) := by
        unfold dlist plst
        refine List.map_congr_left fun x _ => ?_
        by_cases q2 : x < i
        · rw [if_pos q2, if_pos q2]
        · rw [if_neg q2, if_neg q2]
          by_cases q : x = i
          · rw [if_pos q, if_pos q]
            by_cases q3 : labN w h c i < j
            · rw [if_pos q3, if_pos (by omega)]
            · rw [if_neg q3, if_neg (by omega)]
          · rw [if_neg q, if_neg q]
      rw [e0]
      exact ih
omit hc in
theorem l12_l0 {X R : Int} (next : Ev (fun k => spec_l12Trees.l2 k X (dlist (cellsN w h) fun x => (plN w h c x : Nat)) (partsN w h c : Nat) [] 0 w h) R) :
    ∀ d i : Nat, i + d = cellsN w h → Ev (fun k => spec_l12Trees.l0 k X (dlist (cellsN w h) P) (dlist (cellsN w h) fun x => if x < i then (plN w h c x : Nat) else 0) (cnt (fun z => lab (ends w h) c (gapsN w h) z == z) i : Nat) i w h) R
  | 0, i, hd => by
    obtain rfl : i = cellsN w h := by omega
    have e1 : (dlist (cellsN w h) fun x => if x < cellsN w h then (plN w h c x : Int) else 0) = dlist (cellsN w h) fun x => (plN w h c x : Nat) := by
      unfold dlist
      exact List.map_congr_left fun x hx => by rw [if_pos (List.mem_range.1 hx)]
    rw [e1]
    exact Ev.step (fun _ => spec_l12Trees.l0.eq_2 ..) (Ev.ff (by rw [dlist_length]; omega) next)
  | d + 1, i, hd => by
    have h16 := cellsN_le w h
    have hi : i < cellsN w h := by omega
    have hle : labN w h c i ≤ i := lab_le _ _ _ _
    have hcl := cnt_le (fun z => lab (ends w h) c (gapsN w h) z == z) i
    have ih := l12_l0 next d (i + 1) (by omega)
    refine Ev.step (fun _ => spec_l12Trees.l0.eq_2 ..) (Ev.tt (by rw [dlist_length]; omega) (Ev.tt (by omega) (Ev.tt (by rw [dlist_length]; omega) ?_)))
    rw [Int.toNat_natCast, dlist_set hi]
    have e0 : dlist (cellsN w h) (upd (fun x => if x < i then (plN w h c x : Int) else 0) i (-1)) = dlist (cellsN w h) (plst w h c i 0) := by
      unfold dlist upd plst
      refine List.map_congr_left fun x _ => ?_
      by_cases q : x = i
      · subst q; rw [if_pos rfl, if_neg (by omega), if_pos rfl, if_neg (by omega)]
      · rw [if_neg q]
        show (if x < i then (plN w h c x : Int) else 0) = _
        by_cases q2 : x < i
        · rw [if_pos q2, if_pos q2]
        · rw [if_neg q2, if_neg q2, if_neg q]
    rw [e0]
    refine l12_l1 hP hi ?_ i 0 (by omega)
    refine Ev.step (fun _ => spec_l12Trees.l1.eq_2 ..) (Ev.ff (by omega) (Ev.tt (by omega) (Ev.tt (by rw [dlist_length]; omega) ?_)))
    rw [rd_dlist hi, wsucc (show i < 4611686018427387904 by omega)]
    have hv : plst w h c i i i = if labN w h c i < i then (plN w h c i : Int) else -1 := by
      unfold plst
      rw [if_neg (by omega), if_pos rfl]
    rw [hv]
    have key : ∀ v : Int, v = (plN w h c i : Int) → dlist (cellsN w h) (upd (plst w h c i i) i v) = dlist (cellsN w h) fun x => if x < i + 1 then (plN w h c x : Int) else 0 := by
      intro v hv
      unfold dlist upd
      refine List.map_congr_left fun x _ => ?_
      by_cases q : x = i
      · subst q; rw [if_pos rfl, if_pos (by omega), hv]
      · rw [if_neg q]
        unfold plst
        by_cases q2 : x < i
        · rw [if_pos q2, if_pos (by omega)]
        · rw [if_neg q2, if_neg q, if_neg (by omega)]
    by_cases q : labN w h c i < i
    · rw [if_pos q]
      refine Ev.ff (by omega) ?_
      have : cnt (fun z => lab (ends w h) c (gapsN w h) z == z) (i + 1) = cnt (fun z => lab (ends w h) c (gapsN w h) z == z) i := by
        have hne : (lab (ends w h) c (gapsN w h) i == i) = false := by
          rw [beq_eq_false_iff_ne]
          intro hq
          unfold labN at q
          omega
        show cnt _ i + (lab (ends w h) c (gapsN w h) i == i).toNat = _
        rw [hne]
        rfl
      rw [this] at ih
      have e5 : dlist (cellsN w h) (plst w h c i i) = dlist (cellsN w h) fun x => if x < i + 1 then (plN w h c x : Int) else 0 := by
        rw [← key _ rfl]
        unfold dlist upd
        refine List.map_congr_left fun x _ => ?_
        by_cases q3 : x = i
        · subst q3; rw [if_pos rfl, hv, if_pos q]
        · rw [if_neg q3]
      rw [e5]
      exact ih
    · rw [if_neg q]
      have hl : labN w h c i = i := by omega
      refine Ev.tt (by omega) ?_
      rw [Int.toNat_natCast, dlist_set hi, key _ (by rw [plc_first hl]), wsucc (by omega)]
      have : cnt (fun z => lab (ends w h) c (gapsN w h) z == z) (i + 1) = cnt (fun z => lab (ends w h) c (gapsN w h) z == z) i + 1 := by
        have heq : (lab (ends w h) c (gapsN w h) i == i) = true := by
          rw [beq_iff_eq]; exact hl
        show cnt _ i + (lab (ends w h) c (gapsN w h) i == i).toNat = _
        rw [heq]
        rfl
      rw [this] at ih
      exact ih
theorem l12_ev {b : Nat} (hg : gridOk w h = true) (hb : b < 2 ^ gapsN w h) (hf : pop (gapsN w h) c + partsN w h c = cellsN w h) (hd : ∀ i, c.testBit i = true → b.testBit i = false) :
    Ev (fun k => spec_l12Trees.f k w h ((c ||| b : Nat) : Int) (dlist (cellsN w h) P)) ((totN w h c b : Nat) : Int) := by
  have h16 := cellsN_le w h
  unfold spec_l12Trees.f
  rw [dlist_length]
  refine Ev.tt (by omega) (Ev.tt (by omega) ?_)
  rw [Int.toNat_natCast, zeros_dlist]
  have := l12_l0 hP (l12_l2 _ (l12_l3 hc hb (l12_tail hg hc hb hf hd) (gapsN w h) 0 (by omega)) (partsN w h c) 0 (by omega)) (cellsN w h) 0 (by omega)
  have e0 : (dlist (cellsN w h) fun x => if x < 0 then (plN w h c x : Int) else 0) = dlist (cellsN w h) fun _ => 0 := by
    unfold dlist
    exact List.map_congr_left fun x _ => by rw [if_neg (by omega)]
  rw [e0] at this
  exact this
end
end Go.Proofs.Ytoohcdfokejkdaa.P
namespace Go.Proofs.Ytoohcdfokejkdaa.P
open Go.RowKit Go.Proofs.YtoohcdfokejkdaaW.PrintWords
set_option linter.unusedVariables false
set_option linter.unusedSimpArgs false

section
variable {e : Nat → Nat × Nat} {V E : Nat}
/-- Labels P tell the parts of o; no loop; what was looked at is joined. -/
structure KInv (e : Nat → Nat × Nat) (V E : Nat) (done : Nat → Prop) (P : Nat → Int) (o : Nat) : Prop where
  lt : o < 2 ^ E
  lab : ∀ x y, x < V → y < V → (P x = P y ↔ Cn e o x y)
  fo : pop E o + parts e V E o = V
  dn : ∀ g, g < E → done g → Cn e o (e g).1 (e g).2
theorem pop_zero' (E : Nat) : pop E 0 = 0 := by
  induction E with
  | zero => rfl
  | succ m ih => simp only [pop, Nat.zero_testBit, ih]; rfl
theorem KInv.start {P : Nat → Int} (hP : ∀ x, P x = x) : KInv e V E (fun _ => False) P 0 := by
  refine ⟨Nat.two_pow_pos E, fun x y _ _ => ?_, ?_, fun _ _ h => h.elim⟩
  · rw [hP, hP, Cn_zero]
    omega
  · rw [parts_zero, pop_zero', Nat.zero_add]
theorem KInv.skip {done : Nat → Prop} {P : Nat → Int} {o g : Nat} (hG : Gr e V E) (K : KInv e V E done P o) (hg : g < E) (h : P (e g).1 = P (e g).2) : KInv e V E (fun j => done j ∨ j = g) P o :=
  ⟨K.lt, K.lab, K.fo, fun j hj hd => hd.elim (K.dn j hj) (fun h2 => by subst h2; exact (K.lab _ _ (hG j hg).1 (hG j hg).2).1 h)⟩
theorem KInv.join {done : Nat → Prop} {P : Nat → Int} {o g : Nat} (hG : Gr e V E) (K : KInv e V E done P o) (hg : g < E) (h : ¬ P (e g).1 = P (e g).2) :
    KInv e V E (fun j => done j ∨ j = g) (fun x => if P x = P (e g).2 then P (e g).1 else P x) (setB o g true) := by
  obtain ⟨g1, g2⟩ := hG g hg
  have hnc : ¬ Cn e o (e g).1 (e g).2 := fun hc => h ((K.lab _ _ g1 g2).2 hc)
  have hb : o.testBit g = false := by
    cases hb : o.testBit g
    · rfl
    · exact absurd (Cn.edge hb) hnc
  refine ⟨setB_lt true K.lt hg, fun x y hx hy => ?_, ?_, fun j hj hd => ?_⟩
  · rw [Cn_add, ← K.lab x y hx hy, ← K.lab x _ hx g1, ← K.lab _ y g2 hy, ← K.lab x _ hx g2, ← K.lab _ y g1 hy]
    show (if P x = P (e g).2 then P (e g).1 else P x) = (if P y = P (e g).2 then P (e g).1 else P y) ↔ _
    by_cases e1 : P x = P (e g).2 <;> by_cases e2 : P y = P (e g).2
    · rw [if_pos e1, if_pos e2, e1, e2]; simp
    · rw [if_pos e1, if_neg e2]
      constructor
      · intro e3; exact Or.inr (Or.inr ⟨e1, e3⟩)
      · rintro (e3 | ⟨e3, e4⟩ | ⟨_, e4⟩)
        · exact absurd (e3.symm.trans e1) e2
        · exact absurd e4.symm e2
        · exact e4
    · rw [if_neg e1, if_pos e2]
      constructor
      · intro e3; exact Or.inr (Or.inl ⟨e3, e2.symm⟩)
      · rintro (e3 | ⟨e3, _⟩ | ⟨e3, _⟩)
        · exact absurd (e3.trans e2) e1
        · exact e3
        · exact absurd e3 e1
    · rw [if_neg e1, if_neg e2]
      constructor
      · exact Or.inl
      · rintro (e3 | ⟨_, e4⟩ | ⟨e3, _⟩)
        · exact e3
        · exact absurd e4.symm e2
        · exact absurd e3 e1
  · have h1 := (parts_add (v := V) K.lt hg g1 g2).2 hnc
    have h2 := K.fo
    rw [pop_setB hg hb]
    omega
  · rcases hd with hd | rfl
    · exact Cn.mono (fun i hi => by rw [testBit_setB]; split <;> simp_all) (K.dn j hj hd)
    · have : (setB o j true).testBit j = true := setB_bit o j true
      exact Cn.edge this
end
end Go.Proofs.Ytoohcdfokejkdaa.P
namespace Go.Proofs.Ytoohcdfokejkdaa.P
open Go.RowKit Go.Proofs.YtoohcdfokejkdaaW.PrintWords
set_option linter.unusedVariables false
set_option linter.unusedSimpArgs false

section
variable {w h : Int} {c b : Nat} (hg : gridOk w h = true) (hc : c < 2 ^ gapsN w h) (hb : b < 2 ^ gapsN w h) (hd : ∀ i, c.testBit i = true → b.testBit i = false)
include hg hc hb hd
omit hg hc hb hd in
theorem join_l2 {E g : Int} {P : Nat → Int} {e1 : Nat} {old : Int} {R : Int} (he : e1 < cellsN w h) (hne : ¬ P e1 = old)
    (next : Ev (fun k => spec_CountFixed.l1 k c b E (dlist (cellsN w h) fun x => if P x = old then P e1 else P x) (wrap64 (g + 1)) w h) R) :
    ∀ d i : Nat, i + d = cellsN w h → Ev (fun k => spec_CountFixed.l2 k c b E (dlist (cellsN w h) fun x => if x < i then (if P x = old then P e1 else P x) else P x) g e1 old i w h) R
  | 0, i, hd => by
    obtain rfl : i = cellsN w h := by omega
    refine Ev.step (fun _ => spec_CountFixed.l2.eq_2 ..) (Ev.ff (by rw [dlist_length]; omega) ?_)
    have e0 : (dlist (cellsN w h) fun x => if x < cellsN w h then (if P x = old then P e1 else P x) else P x) = dlist (cellsN w h) fun x => if P x = old then P e1 else P x := by
      unfold dlist
      exact List.map_congr_left fun x hx => if_pos (List.mem_range.1 hx)
    rw [e0]
    exact next
  | d + 1, i, hd => by
    have h16 := cellsN_le w h
    have hi : i < cellsN w h := by omega
    have ih := join_l2 he hne next d (i + 1) (by omega)
    refine Ev.step (fun _ => spec_CountFixed.l2.eq_2 ..) (Ev.tt (by rw [dlist_length]; omega) (Ev.tt (by omega) ?_))
    rw [rd_dlist hi, wsucc (by omega), if_neg (show ¬ i < i by omega)]
    have step : ∀ v : Int, v = (if P i = old then P e1 else P i) → dlist (cellsN w h) (upd (fun x => if x < i then (if P x = old then P e1 else P x) else P x) i v) = dlist (cellsN w h) fun x => if x < i + 1 then (if P x = old then P e1 else P x) else P x := by
      intro v hv
      unfold dlist upd
      refine List.map_congr_left fun x _ => ?_
      by_cases q : x = i
      · subst q; rw [if_pos rfl, if_pos (by omega), hv]
      · rw [if_neg q]
        show (if x < i then (if P x = old then P e1 else P x) else P x) = _
        by_cases q2 : x < i
        · rw [if_pos q2, if_pos (show x < i + 1 by omega)]
        · rw [if_neg q2, if_neg (show ¬ x < i + 1 by omega)]
    refine Ev.ite (fun e => Ev.tt (by omega) (Ev.tt (by rw [dlist_length]; omega) ?_)) (fun e => ?_)
    · rw [rd_dlist he, Int.toNat_natCast, dlist_set hi, step _ (by
        rw [if_pos e]
        by_cases q : e1 < i
        · rw [if_pos q, if_neg hne]
        · rw [if_neg q])]
      exact ih
    · have e0 : (dlist (cellsN w h) fun x => if x < i then (if P x = old then P e1 else P x) else P x) = dlist (cellsN w h) fun x => if x < i + 1 then (if P x = old then P e1 else P x) else P x := by
        rw [← step (P i) (by rw [if_neg e])]
        unfold dlist upd
        refine List.map_congr_left fun x _ => ?_
        by_cases q : x = i
        · subst q; rw [if_pos rfl, if_neg (by omega)]
        · rw [if_neg q]
      rw [e0]
      exact ih
theorem fixed_l1 : ∀ (d g : Nat) (P : Nat → Int), g + d = gapsN w h → KInv (ends w h) (cellsN w h) (gapsN w h) (fun _ => False) P (low c g) →
    Ev (fun k => spec_CountFixed.l1 k c b (gapsOf w h) (dlist (cellsN w h) P) g w h) ((totN w h c b : Nat) : Int)
  | 0, g, P, hgd, K => by
    have hcc := gapsN_cast w h
    obtain rfl : g = gapsN w h := by omega
    rw [low_all hc] at K
    have hcs := open_small hc
    have hbs := open_small hb
    refine Ev.step (fun _ => spec_CountFixed.l1.eq_2 ..) (Ev.ff (by omega) ?_)
    rw [bits_or (by omega) (by omega)]
    refine Ev.bind (l12_ev hc (fun x y hx hy => ?_) hg hb K.fo hd) (Ev.ret rfl)
    rw [K.lab x y hx hy]
    exact (lab_iff hc x y).symm
  | d + 1, g, P, hgd, K => by
    have hcc := gapsN_cast w h
    have h24 := gapsN_le w h
    have h16 := cellsN_le w h
    have hgg : g < gapsN w h := by omega
    have hcs := open_small hc
    obtain ⟨e1, e2, e3⟩ := ends_facts hgg
    refine Ev.step (fun _ => spec_CountFixed.l1.eq_2 ..) (Ev.tt (by omega) (Ev.bnd0 (spec_l03Bit_eq hcs (by omega)) ?_))
    rw [openI_nat']
    refine Ev.ite (fun eb => ?_) (fun eb => ?_)
    · refine Ev.bnd0 (spec_EndsOf_eq w h g) ?_
      rw [e1]
      refine Ev.tt (by omega) (Ev.tt (by rw [dlist_length]; omega) (Ev.tt (by omega) (Ev.tt (by rw [dlist_length]; omega) ?_)))
      rw [rd_dlist (show (ends w h g).1 < cellsN w h by omega), rd_dlist e3]
      refine Ev.ite (fun el => Ev.ret ?_) (fun el => ?_)
      · have hcn := (K.lab _ _ (by omega) e3).1 el
        have hbg := hd g eb
        have hc' : setB c g false < 2 ^ gapsN w h := setB_lt false hc hgg
        have hu : und (setB c g false) b g = true := by unfold und; rw [setB_bit, hbg]; rfl
        have hmono : Cn (ends w h) (setB c g false) (ends w h g).1 (ends w h g).2 := hcn.mono fun i hi => by
          rw [testBit_low, Bool.and_eq_true, decide_eq_true_eq] at hi
          rw [setB_ne _ (by omega)]
          exact hi.2
        have := trees_loop (gr_grid w h) hc' hgg hu hmono
        rw [setB_off_on eb] at this
        unfold totN
        rw [this]
        rfl
      · have K' := KInv.join (gr_grid w h) K hgg el
        rw [← low_succ_set eb] at K'
        have K2 : KInv (ends w h) (cellsN w h) (gapsN w h) (fun _ => False) (fun x => if P x = P (ends w h g).2 then P (ends w h g).1 else P x) (low c (g + 1)) := ⟨K'.lt, K'.lab, K'.fo, fun _ _ h => h.elim⟩
        have ih := fixed_l1 d (g + 1) _ (by omega) K2
        have := join_l2 (w := w) (h := h) (c := c) (b := b) (E := gapsOf w h) (g := (g : Int)) (P := P) (e1 := (ends w h g).1) (old := P (ends w h g).2) (R := ((totN w h c b : Nat) : Int)) (by omega) el (by rw [wsucc (by omega)]; exact ih) (cellsN w h) 0 (by omega)
        have e0 : (dlist (cellsN w h) fun x => if x < 0 then (if P x = P (ends w h g).2 then P (ends w h g).1 else P x) else P x) = dlist (cellsN w h) P := by
          unfold dlist
          exact List.map_congr_left fun x _ => if_neg (by omega)
        rw [e0] at this
        exact this
    · rw [wsucc (by omega)]
      have hl := low_succ_not (n := c) (k := g) (Bool.eq_false_iff.2 eb)
      rw [← hl] at K
      exact fixed_l1 d (g + 1) P (by omega) K
omit hb hd hc hg in
theorem fixed_l0 {E : Int} {R : Int} (next : Ev (fun k => spec_CountFixed.l1 k c b E (dlist (cellsN w h) fun x => (x : Int)) 0 w h) R) :
    ∀ d i : Nat, i + d = cellsN w h → Ev (fun k => spec_CountFixed.l0 k c b E (dlist (cellsN w h) fun x => if x < i then (x : Int) else 0) i w h) R
  | 0, i, hd => by
    obtain rfl : i = cellsN w h := by omega
    refine Ev.step (fun _ => spec_CountFixed.l0.eq_2 ..) (Ev.ff (by rw [dlist_length]; omega) ?_)
    have e0 : (dlist (cellsN w h) fun x => if x < cellsN w h then (x : Int) else 0) = dlist (cellsN w h) fun x => (x : Int) := by
      unfold dlist
      exact List.map_congr_left fun x hx => if_pos (List.mem_range.1 hx)
    rw [e0]
    exact next
  | d + 1, i, hd => by
    have h16 := cellsN_le w h
    have hi : i < cellsN w h := by omega
    refine Ev.step (fun _ => spec_CountFixed.l0.eq_2 ..) (Ev.tt (by rw [dlist_length]; omega) (Ev.tt (by omega) ?_))
    rw [Int.toNat_natCast, dlist_set hi, wsucc (by omega)]
    have e0 : dlist (cellsN w h) (upd (fun x => if x < i then (x : Int) else 0) i (i : Int)) = dlist (cellsN w h) fun x => if x < i + 1 then (x : Int) else 0 := by
      unfold dlist upd
      refine List.map_congr_left fun x _ => ?_
      by_cases q : x = i
      · subst q; rw [if_pos rfl, if_pos (by omega)]
      · rw [if_neg q]
        show (if x < i then (x : Int) else 0) = _
        by_cases q2 : x < i
        · rw [if_pos q2, if_pos (by omega)]
        · rw [if_neg q2, if_neg (by omega)]
    rw [e0]
    exact fixed_l0 next d (i + 1) (by omega)
theorem sf_j0 : Ev (fun k => spec_CountFixed.j0 k c b (gapsOf w h) false w h) ((totN w h c b : Nat) : Int) := by
  have hV := cellsN_cast w h
  have h16 := cellsN_le w h
  refine Ev.step (fun _ => spec_CountFixed.j0.eq_2 ..) (Ev.ff (by simp) (Ev.bnd0 (spec_CountCells_eq w h) ?_))
  rw [← hV]
  refine Ev.tt (by omega) (Ev.tt (by omega) ?_)
  rw [Int.toNat_natCast, zeros_dlist]
  have K0 : KInv (ends w h) (cellsN w h) (gapsN w h) (fun _ => False) (fun x => (x : Int)) (low c 0) := by
    rw [show low c 0 = 0 by unfold low; omega]
    exact KInv.start fun x => rfl
  have := fixed_l0 (fixed_l1 hg hc hb hd (gapsN w h) 0 _ (by omega) K0) (cellsN w h) 0 (by omega)
  have e0 : (dlist (cellsN w h) fun x => if x < 0 then (x : Int) else 0) = dlist (cellsN w h) fun _ => 0 := by
    unfold dlist
    exact List.map_congr_left fun x _ => if_neg (by omega)
  rw [e0] at this
  exact this
end
/-- The number of perfect mazes with these gaps open and those shut; 0 for what is no question. -/
def cfI (w h a b : Int) : Int := if gridOk w h = true ∧ (0 ≤ a ∧ a < 2 ^ gapsN w h) ∧ (0 ≤ b ∧ b < 2 ^ gapsN w h) ∧ a.toNat &&& b.toNat = 0 then (totN w h a.toNat b.toNat : Nat) else 0
theorem cfI_nat {w h : Int} {a b : Nat} (hg : gridOk w h = true) (ha : a < 2 ^ gapsN w h) (hb : b < 2 ^ gapsN w h) (hd : ∀ i, a.testBit i = true → b.testBit i = false) : cfI w h a b = (totN w h a b : Nat) := by
  have e : a &&& b = 0 := by
    apply Nat.eq_of_testBit_eq
    intro i
    rw [Nat.testBit_and, Nat.zero_testBit]
    cases q : a.testBit i
    · rfl
    · rw [hd i q]; rfl
  unfold cfI
  have ha' : (a : Int) < 2 ^ gapsN w h := by exact_mod_cast ha
  have hb' : (b : Int) < 2 ^ gapsN w h := by exact_mod_cast hb
  rw [if_pos ⟨hg, ⟨by omega, ha'⟩, ⟨by omega, hb'⟩, by rw [Int.toNat_natCast, Int.toNat_natCast]; exact e⟩, Int.toNat_natCast, Int.toNat_natCast]
theorem and_zero {a b : Nat} (h : a &&& b = 0) (i : Nat) (hi : a.testBit i = true) : b.testBit i = false := by
  have := Nat.testBit_and a b i
  rw [h, Nat.zero_testBit, hi] at this
  simpa using this.symm
theorem impl_CountFixed_ev (w h a b : Int) : Ev (fun k => impl_CountFixed.f k w h a b) (cfI w h a b) := by
  have hgr := gapsOf_range w h
  have h24 := gapsN_le w h
  have hcast := gapsN_cast w h
  have hS : wrap64 (shl .i64 1 (gapsOf w h) - 1) = 2 ^ gapsN w h - 1 := by
    have hp : (2 : Int) ^ gapsN w h = ((2 ^ gapsN w h : Nat) : Int) := by norm_cast
    have h2 : 2 ^ gapsN w h ≤ 2 ^ 24 := Nat.pow_le_pow_right (by decide) h24
    have h3 := Nat.two_pow_pos (gapsN w h)
    rw [shl_one hgr.1 hgr.2]
    have : (gapsOf w h).toNat = gapsN w h := rfl
    rw [this, hp, wrap64_id (by omega) (by omega)]
  have hp : (2 : Int) ^ gapsN w h = ((2 ^ gapsN w h : Nat) : Int) := by norm_cast
  have bad : ¬ (gridOk w h = true ∧ (0 ≤ a ∧ a < 2 ^ gapsN w h) ∧ (0 ≤ b ∧ b < 2 ^ gapsN w h) ∧ a.toNat &&& b.toNat = 0) → Ev (fun k => impl_CountFixed.j0 k a b true w h) (cfI w h a b) := by
    intro hc
    unfold cfI
    rw [if_neg hc]
    exact Ev.step (fun _ => impl_CountFixed.j0.eq_2 ..) (Ev.tt rfl (Ev.ret rfl))
  unfold impl_CountFixed.f
  refine Ev.bnd0 (impl_CountGaps_eq w h) (Ev.tt hgr.1 (Ev.bnd0 (impl_GridOk_eq w h) ?_))
  rw [hS]
  refine Ev.ite (fun hg => ?_) (fun hg => bad fun hc => hg hc.1)
  refine Ev.ite (fun q => bad fun hc => by omega) (fun q1 => Ev.ite (fun q => bad fun hc => by omega) (fun q2 => Ev.ite (fun q => bad fun hc => by omega) (fun q3 => Ev.ite (fun q => bad fun hc => by omega) (fun q4 => ?_))))
  obtain ⟨c, rfl⟩ := Int.eq_ofNat_of_zero_le (show 0 ≤ a by omega)
  obtain ⟨d, rfl⟩ := Int.eq_ofNat_of_zero_le (show 0 ≤ b by omega)
  have hc : c < 2 ^ gapsN w h := by omega
  have hd : d < 2 ^ gapsN w h := by omega
  have hcs := open_small hc
  have hds := open_small hd
  rw [bits_and (by omega) (by omega)]
  by_cases e : c &&& d = 0
  · rw [e, cfI_nat hg hc hd (and_zero e)]
    exact cf_j0 hg hc hd (and_zero e)
  · have : (((c &&& d : Nat) : Int) != 0) = true := by
      rw [bne_iff_ne]
      omega
    rw [this]
    exact bad fun hx => e (by have := hx.2.2.2; rwa [Int.toNat_natCast, Int.toNat_natCast] at this)
theorem spec_CountFixed_ev (w h a b : Int) : Ev (fun k => spec_CountFixed.f k w h a b) (cfI w h a b) := by
  have hgr := gapsOf_range w h
  have h24 := gapsN_le w h
  have hcast := gapsN_cast w h
  have hS : wrap64 (shl .i64 1 (gapsOf w h) - 1) = 2 ^ gapsN w h - 1 := by
    have hp : (2 : Int) ^ gapsN w h = ((2 ^ gapsN w h : Nat) : Int) := by norm_cast
    have h2 : 2 ^ gapsN w h ≤ 2 ^ 24 := Nat.pow_le_pow_right (by decide) h24
    have h3 := Nat.two_pow_pos (gapsN w h)
    rw [shl_one hgr.1 hgr.2]
    have : (gapsOf w h).toNat = gapsN w h := rfl
    rw [this, hp, wrap64_id (by omega) (by omega)]
  have hp : (2 : Int) ^ gapsN w h = ((2 ^ gapsN w h : Nat) : Int) := by norm_cast
  have bad : ¬ (gridOk w h = true ∧ (0 ≤ a ∧ a < 2 ^ gapsN w h) ∧ (0 ≤ b ∧ b < 2 ^ gapsN w h) ∧ a.toNat &&& b.toNat = 0) → Ev (fun k => spec_CountFixed.j0 k a b (gapsOf w h) true w h) (cfI w h a b) := by
    intro hc
    unfold cfI
    rw [if_neg hc]
    exact Ev.step (fun _ => spec_CountFixed.j0.eq_2 ..) (Ev.tt rfl (Ev.ret rfl))
  unfold spec_CountFixed.f
  refine Ev.bnd0 (spec_CountGaps_eq w h) (Ev.bnd0 (spec_GridOk_eq w h) ?_)
  refine Ev.ite (fun hg => Ev.tt hgr.1 ?_) (fun hg => bad fun hc => hg hc.1)
  rw [hS]
  refine Ev.bnd0 (l01In_eq _ _ _) (Ev.ite (fun q1 => Ev.bnd0 (l01In_eq _ _ _) (Ev.ite (fun q2 => ?_) (fun q2 => bad fun hc => q2 (decide_eq_true (by omega))))) (fun q1 => bad fun hc => q1 (decide_eq_true (by omega))))
  rw [decide_eq_true_eq] at q1 q2
  obtain ⟨c, rfl⟩ := Int.eq_ofNat_of_zero_le (show 0 ≤ a by omega)
  obtain ⟨d, rfl⟩ := Int.eq_ofNat_of_zero_le (show 0 ≤ b by omega)
  have hc : c < 2 ^ gapsN w h := by omega
  have hd : d < 2 ^ gapsN w h := by omega
  have hcs := open_small hc
  have hds := open_small hd
  rw [bits_and (by omega) (by omega)]
  by_cases e : c &&& d = 0
  · rw [e, cfI_nat hg hc hd (and_zero e)]
    exact sf_j0 hg hc hd (and_zero e)
  · have : (((c &&& d : Nat) : Int) != 0) = true := by
      rw [bne_iff_ne]
      omega
    rw [this]
    exact bad fun hx => e (by have := hx.2.2.2; rwa [Int.toNat_natCast, Int.toNat_natCast] at this)
end Go.Proofs.Ytoohcdfokejkdaa.P
namespace Go.Proofs.Ytoohcdfokejkdaa.P
open Go.RowKit Go.Proofs.YtoohcdfokejkdaaW.PrintWords Go.Proofs.Ytoohcdfokejkdaa.Sup
set_option linter.unusedVariables false
set_option linter.unusedSimpArgs false

theorem FnExactCountFixed_pure (a0_0 a0_1 : Int) (w0_0 : InR a0_0) (w0_1 : InR a0_1) (a1 : Int) (h1 : InR a1) (a2 : Int) (h2 : InR a2) : ∃ k, laws_FnExactCountFixed.f k a0_0 a0_1 a1 a2 = some true := by
  refine Ev.rounds ?_
  unfold laws_FnExactCountFixed.f
  exact Ev.bnd0 rfl (Ev.bind (spec_CountFixed_ev ..) (Ev.bnd0 rfl (Ev.bind (impl_CountFixed_ev ..) (Ev.tt rfl (Ev.ret rfl)))))
end Go.Proofs.Ytoohcdfokejkdaa.P
namespace Go.Proofs.Ytoohcdfokejkdaa.fnExactCountFixed
open Go.ChangeShapes Go.WideShapes Go.ChangeAt Go.RowKit Go.Proofs.YtoohcdfokejkdaaW.PrintWords Go.Proofs.Ytoohcdfokejkdaa.Sup
open Go.ChangeMaps (open_string shut_string)
set_option linter.unusedVariables false
theorem own : ownKnob Try.prog.godebug = none := by kernel_rfl
theorem laidOut : laidOutB Try.prog = true := by kernel_rfl
set_option maxRecDepth 100000 in
theorem lifted (os : Os) (started : os.Started) (H : Type) (enc : TypeId × Value → H) :
    ReturnsInHanded {} Try.checked os 7 .any (Rows.fnExactCountFixedSpec.pre6 enc Try.prog Try.f7 Rows.fnExactCountFixedRow.domain false) (Rows.fnExactCountFixedSpec.post enc Try.prog Try.f7 false true false false) := by
  refine returnsInHanded_of_change_sized (C := Try.checked) own started (by kernel_rfl) Try.func7
    (ChangeSpec.witness6 (enc := enc) (C := Try.checked) false ⟨#[], #[.agg #[.int .i64 0, .int .i64 0], .int .i64 0, .int .i64 0], []⟩ 8 (by kernel_rfl) (by kernel_rfl) (by kernel_rfl) (by kernel_rfl)) ?_
  intro W base args ds gs before hval0 hW hcnd hsz0 _
  have hsz : (DataW.weightsEach Try.prog (Try.f7.params.toList ++ Rows.fnExactCountFixedSpec.plain.varTypes Try.prog) (ds ++ gs)).all (· ≤ reachBytes) = true := hsz0
  have hval : ∀ (j : Nat) t v, Try.f7.params[j]? = some t → args[j]? = some v → Value.okWide Try.prog W .any base t v := hval0
  have hW' := hW
  obtain ⟨p, q, hA0, hV, rfl, hfz, hnd⟩ := hW
  have hA : DataW.TrodAll enc Try.prog W 0 (fun _ => true) true Try.f7.params.toList args.toList ds p := hA0
  rw [Try.params7] at hA hval hsz
  obtain ⟨v0, vs0, d0, ds0, p0, q0, hargs, rfl, rfl, h0, r0⟩ := trodAll_cons hA
  obtain ⟨v1, vs1, d1, ds1, p1, q1, rfl, rfl, rfl, h1, r1⟩ := trodAll_cons r0
  obtain ⟨v2, vs2, d2, ds2, p2, q2, rfl, rfl, rfl, h2, r2⟩ := trodAll_cons r1
  obtain ⟨rfl, rfl, rfl⟩ := trodAll_nil r2
  obtain rfl : args = #[v0, v1, v2] := by cases args; simp_all
  obtain ⟨rfl, rfl⟩ := trodVars_none hV
  have k0 := h0
  have lt0 : ∀ x ∈ p0, x.block < W.heap.size := by obtain ⟨m, hm⟩ := k0; exact DataW.trod_lt m _ _ _ hm
  obtain ⟨a0_0, a0_1, rfl, w0_0, w0_1⟩ := open2 Try.underlying36 (by kernel_rfl) (by kernel_rfl) rfl rfl (by kernel_rfl) (by kernel_rfl) (by kernel_rfl) (hval 0 36 v0 rfl rfl) h0
  have k1 := h1
  have lt1 : ∀ x ∈ p1, x.block < W.heap.size := by obtain ⟨m, hm⟩ := k1; exact DataW.trod_lt m _ _ _ hm
  obtain ⟨a1, rfl, rfl, rfl, w1⟩ := open_int Try.underlying3 (hval 1 3 v1 rfl rfl) h1
  have k2 := h2
  have lt2 : ∀ x ∈ p2, x.block < W.heap.size := by obtain ⟨m, hm⟩ := k2; exact DataW.trod_lt m _ _ _ hm
  obtain ⟨a2, rfl, rfl, rfl, w2⟩ := open_int Try.underlying3 (hval 2 3 v2 rfl rfl) h2
  clear hA0 hval0 hsz0 hsz
  obtain ⟨k, hf⟩ := P.FnExactCountFixed_pure a0_0 a0_1 w0_0 w0_1 a1 (inR_of_wf w1) a2 (inR_of_wf w2)
  refine (P.laws_FnExactCountFixed.calls k a0_0 a0_1 a1 a2 true W  hf).mono fun e W' ⟨he, bel0⟩ => ?_
  have bel : Below W.heap.size W W' := bel0
  subst he
  exact ⟨_, rfl, _, _, _, [], _, [], hW', trodAll_mk1 (shut_bool Try.underlying4 _), (trodAll_cons_mk (Below.trod laidOut (by kernel_rfl) (of_decide_eq_true (by kernel_rfl)) k0 bel lt0) (trodAll_cons_mk (Below.trod laidOut (by kernel_rfl) (of_decide_eq_true (by kernel_rfl)) k1 bel lt1) (trodAll_cons_mk (Below.trod laidOut (by kernel_rfl) (of_decide_eq_true (by kernel_rfl)) k2 bel lt2) trodAll_mk0))), rfl, bel.frame _, fun h => by cases h⟩
theorem over : Rows.fnExactCountFixedRow.holds Try.pinned (OpenSpec.ofChange Rows.fnExactCountFixedSpec) :=
  OpenClaim.holds_of_wide 7 Try.f7 rfl rfl rfl rfl rfl rfl rfl ⟨rfl, rfl, rfl, rfl, rfl⟩ rfl rfl rfl rfl rfl (by kernel_rfl) Try.func7 (by kernel_rfl)
    (of_decide_eq_true (by kernel_rfl)) (by unfold Func.isWrapper; first | (rw [if_pos (by decide +kernel)]; kernel_rfl) | (rw [if_neg (by decide +kernel)]; exact ⟨rfl, rfl⟩))
    (fun os started H enc _ => lifted os started H enc)
theorem proved : Rows.FnExactCountFixedSaid := over
end Go.Proofs.Ytoohcdfokejkdaa.fnExactCountFixed
namespace Go.Proofs.Ytoohcdfokejkdaa
/-- The row, under a short name, for the claim. -/
theorem fnExactCountFixed_holds : Rows.FnExactCountFixedSaid := fnExactCountFixed.proved
#print axioms fnExactCountFixed_holds
end Go.Proofs.Ytoohcdfokejkdaa
