/- The statement FnExactNextMaze of the seat, out of its plain form (FnExactNextMaze_pure) and the walk of its Go function. Part 6 of 6: each Go function's walk, then the plain lemmas, then the row. No condition: it holds for every input. -/
import Derived.Test.YtoohcdfokejkdaaBFnExactNextMaze5
import Derived.Test.YtoohcdfokejkdaaRows
import Derived.Below
import Derived.ChangeOld
import Derived.OpenShut
import Derived.ProofKit
import Derived.ShutString
import Derived.SizedLaws
import Derived.WalkKit
namespace Go.Proofs.Ytoohcdfokejkdaa.P
open Go.RowKit Go.Proofs.YtoohcdfokejkdaaW.PrintWords
set_option linter.unusedVariables false
set_option linter.unusedSimpArgs false

theorem sumTo_add (n : Nat) (f g : Nat → Int) : sumTo n (fun i => f i + g i) = sumTo n f + sumTo n g := by
 induction n with
 | zero => rfl
 | succ n ih => simp only [sumTo]; rw [ih]; omega
theorem sumTo_mul (n : Nat) (c : Int) (f : Nat → Int) : sumTo n (fun i => c * f i) = c * sumTo n f := by
 induction n with
 | zero => simp [sumTo]
 | succ n ih => simp only [sumTo]; rw [ih, Int.mul_add]
theorem sumTo_neg (n : Nat) (f : Nat → Int) : sumTo n (fun i => -f i) = -sumTo n f := by
 induction n with
 | zero => rfl
 | succ n ih => simp only [sumTo]; rw [ih]; omega
theorem sumTo_comm (m n : Nat) (f : Nat → Nat → Int) : sumTo m (fun i => sumTo n (fun j => f i j)) = sumTo n (fun j => sumTo m (fun i => f i j)) := by
 induction m with
 | zero => simp only [sumTo]; exact (sumTo_zero fun _ _ => rfl).symm
 | succ m ih => simp only [sumTo]; rw [ih, ← sumTo_add]
theorem sumTo_two {n i : Nat} {f g : Nat → Int} (h1 : i + 1 < n) (hs : g i + g (i + 1) = -(f i + f (i + 1))) (h : ∀ k, k < n → k ≠ i → k ≠ i + 1 → g k = -f k) : sumTo n g = -sumTo n f := by
 have e1 : sumTo n (fun k => g k + f k) = 0 := by
  have : ∀ m, m ≤ n → sumTo m (fun k => g k + f k) = if m = i + 1 then g i + f i else 0 := by
   intro m
   induction m with
   | zero => intro _; simp [sumTo]
   | succ m ih =>
    intro hm
    simp only [sumTo]
    rw [ih (by omega)]
    by_cases a : m = i
    ·subst a; simp
    ·by_cases b : m = i + 1
     ·subst b; simp; omega
     ·have := h m (by omega) a b
      simp [a, b]; omega
  rw [this n (Nat.le_refl n), if_neg (by omega)]
 rw [sumTo_add] at e1
 omega
theorem sgn_par {a b : Nat} (h : a % 2 = b % 2) : sgn a = sgn b := by unfold sgn; rw [h]
def er (i : Nat) (A : Nat → Nat → Int) : Nat → Nat → Int := fun j => if j < i then A j else A (j + 1)
def ec (c : Nat) (A : Nat → Nat → Int) : Nat → Nat → Int := fun j d => if d < c then A j d else A j (d + 1)
def rp (A : Nat → Nat → Int) (i : Nat) (v : Nat → Int) : Nat → Nat → Int := fun j => if j = i then v else A j
def swp (A : Nat → Nat → Int) (i j : Nat) : Nat → Nat → Int := fun k => if k = i then A j else if k = j then A i else A k
def dt : Nat → (Nat → Nat → Int) → Int
 | 0, _ => 1
 | r + 1, A => sumTo (r + 1) fun i => sgn (r - i) * A i r * dt r (er i A)
theorem dt_congr : ∀ {r : Nat} {A B : Nat → Nat → Int}, (∀ i c, i < r → c < r → A i c = B i c) → dt r A = dt r B
 | 0, _, _, _ => rfl
 | r + 1, A, B, h => by
  simp only [dt]
  refine sumTo_congr fun i hi => ?_
  rw [h i r hi (by omega), dt_congr (A := er i A) (B := er i B)]
  intro j c hj hc
  unfold er
  split
  ·exact h j c (by omega) (by omega)
  ·exact h (j + 1) c (by omega) (by omega)
theorem er_rp_same (A : Nat → Nat → Int) (i : Nat) (v : Nat → Int) : er i (rp A i v) = er i A := by
 funext j
 unfold er rp
 split
 ·rw [if_neg (by omega)]
 ·rw [if_neg (by omega)]
theorem er_rp (A : Nat → Nat → Int) {k i : Nat} (h : k ≠ i) (v : Nat → Int) : er k (rp A i v) = rp (er k A) (if i < k then i else i - 1) v := by
 funext j
 simp only [er, rp]
 by_cases hk : i < k
 ·rw [if_pos hk]
  repeat' split
  all_goals first | rfl | omega
 ·rw [if_neg hk]
  repeat' split
  all_goals first | rfl | omega
theorem rp_same (A : Nat → Nat → Int) (i : Nat) (v : Nat → Int) : rp A i v i = v := if_pos rfl
theorem rp_ne (A : Nat → Nat → Int) {i j : Nat} (h : j ≠ i) (v : Nat → Int) : rp A i v j = A j := if_neg h
theorem dt_lin : ∀ {r : Nat} (A : Nat → Nat → Int) {i : Nat} (hi : i < r) (c d : Int) (u v : Nat → Int), dt r (rp A i (fun x => c * u x + d * v x)) = c * dt r (rp A i u) + d * dt r (rp A i v)
 | 0, _, _, hi, _, _, _, _ => by omega
 | r + 1, A, i, hi, c, d, u, v => by
  simp only [dt]
  rw [← sumTo_mul, ← sumTo_mul, ← sumTo_add]
  refine sumTo_congr fun k hk => ?_
  by_cases e : k = i
  ·subst e
   simp only [rp_same, er_rp_same]
   grind
  ·simp only [rp_ne _ e, er_rp _ e]
   rw [dt_lin (er k A) (by split <;> omega)]
   grind
theorem dt_adj : ∀ {r : Nat} (A : Nat → Nat → Int) {i : Nat} (hi : i + 1 < r), dt r (swp A i (i + 1)) = -dt r A
 | 0, _, _, hi => by omega
 | r + 1, A, i, hi => by
  simp only [dt]
  have h1 : er i (swp A i (i + 1)) = er (i + 1) A := by
   funext j; unfold er swp
   repeat' split
   all_goals first | rfl | omega | (congr 1; omega)
  have h2 : er (i + 1) (swp A i (i + 1)) = er i A := by
   funext j; unfold er swp
   repeat' split
   all_goals first | rfl | omega | (congr 1; omega)
  refine sumTo_two (i := i) hi ?_ ?_
  ·rw [h1, h2, show swp A i (i + 1) i = A (i + 1) from if_pos rfl, show swp A i (i + 1) (i + 1) = A i by unfold swp; rw [if_neg (by omega), if_pos rfl], show r - i = (r - (i + 1)) + 1 by omega, sgn_succ]
   grind
  ·intro k hk n1 n2
   have h3 : er k (swp A i (i + 1)) = swp (er k A) (if i < k then i else i - 1) ((if i < k then i else i - 1) + 1) := by
    funext j; simp only [er, swp]
    by_cases hk : i < k
    ·rw [if_pos hk]
     repeat' split
     all_goals first | rfl | omega | (congr 1; omega)
    ·rw [if_neg hk]
     repeat' split
     all_goals first | rfl | omega | (congr 1; omega)
   rw [h3, dt_adj (er k A) (by split <;> omega), show swp A i (i + 1) k = A k by unfold swp; rw [if_neg n1, if_neg n2]]
   grind
theorem dt_same : ∀ (d : Nat) {r : Nat} (A : Nat → Nat → Int) {i : Nat}, i + 1 + d < r → (∀ c, A i c = A (i + 1 + d) c) → dt r A = 0
 | 0, r, A, i, hj, h => by
  have h1 := dt_adj A (i := i) hj
  have h2 : swp A i (i + 1) = A := by
   funext k c; unfold swp
   split
   ·rename_i e; subst e; exact (h c).symm
   ·split
    ·rename_i e; subst e; exact h c
    ·rfl
  rw [h2] at h1
  omega
 | d + 1, r, A, i, hj, h => by
  have h1 := dt_adj A (i := i + 1 + d) (by omega)
  have h2 := dt_same d (r := r) (swp A (i + 1 + d) (i + 1 + d + 1)) (i := i) (by omega) (fun c => by
   unfold swp
   rw [if_neg (by omega), if_neg (by omega), if_pos rfl]
   exact h c)
  omega
theorem dt_eq {r : Nat} (A : Nat → Nat → Int) {i j : Nat} (hij : i ≠ j) (hi : i < r) (hj : j < r) (h : ∀ c, A i c = A j c) : dt r A = 0 := by
 rcases Nat.lt_or_gt_of_ne hij with hl | hl
 ·exact dt_same (j - i - 1) A (i := i) (by omega) (fun c => by rw [show i + 1 + (j - i - 1) = j by omega]; exact h c)
 ·exact dt_same (i - j - 1) A (i := j) (by omega) (fun c => by rw [show j + 1 + (i - j - 1) = i by omega]; exact (h c).symm)
theorem rp_self (A : Nat → Nat → Int) (i : Nat) : rp A i (A i) = A := by
 funext j; unfold rp; split
 ·rename_i e; rw [e]
 ·rfl
theorem dt_addrow {r : Nat} (A : Nat → Nat → Int) {i j : Nat} (hij : i ≠ j) (hi : i < r) (hj : j < r) (d : Int) : dt r (rp A i (fun x => A i x + d * A j x)) = dt r A := by
 have h := dt_lin A hi 1 d (A i) (A j)
 rw [rp_self, dt_eq (rp A i (A j)) hij hi hj (fun c => by rw [rp_same, rp_ne _ (Ne.symm hij)])] at h
 simp only [Int.one_mul, Int.mul_zero, Int.add_zero] at h
 exact h
theorem er_ec (A : Nat → Nat → Int) (i c : Nat) : er i (ec c A) = ec c (er i A) := by
 funext j d
 by_cases h : j < i <;> by_cases h2 : d < c <;> simp [er, ec, h, h2]
theorem dt_lastvec : ∀ (r : Nat) (A : Nat → Nat → Int), dt (r + 1) A = sumTo (r + 1) fun c => sgn (r - c) * A r c * dt r (ec c A)
 | 0, A => rfl
 | r + 1, A => by
  have L : dt (r + 2) A = sumTo (r + 1) (fun i => sgn (r + 1 - i) * A i (r + 1) * dt (r + 1) (er i A)) + sgn (r + 1 - (r + 1)) * A (r + 1) (r + 1) * dt (r + 1) (er (r + 1) A) := rfl
  rw [L]
  show _ = sumTo (r + 1) (fun c => sgn (r + 1 - c) * A (r + 1) c * dt (r + 1) (ec c A)) + sgn (r + 1 - (r + 1)) * A (r + 1) (r + 1) * dt (r + 1) (ec (r + 1) A)
  have e1 : dt (r + 1) (er (r + 1) A) = dt (r + 1) (ec (r + 1) A) := dt_congr fun i c hi hc => by unfold er ec; rw [if_pos hi, if_pos hc]
  rw [e1]
  congr 1
  have e2 : sumTo (r + 1) (fun i => sgn (r + 1 - i) * A i (r + 1) * dt (r + 1) (er i A)) = sumTo (r + 1) (fun i => sumTo (r + 1) fun c => sgn (r + 1 - i) * sgn (r - c) * (A i (r + 1) * A (r + 1) c) * dt r (ec c (er i A))) := by
   refine sumTo_congr fun i hi => ?_
   rw [dt_lastvec r (er i A), ← sumTo_mul]
   refine sumTo_congr fun c hc => ?_
   rw [show er i A r = A (r + 1) from if_neg (by omega)]
   grind
  have e3 : sumTo (r + 1) (fun c => sgn (r + 1 - c) * A (r + 1) c * dt (r + 1) (ec c A)) = sumTo (r + 1) (fun c => sumTo (r + 1) fun i => sgn (r + 1 - i) * sgn (r - c) * (A i (r + 1) * A (r + 1) c) * dt r (ec c (er i A))) := by
   refine sumTo_congr fun c hc => ?_
   show _ * dt (r + 1) (ec c A) = _
   simp only [dt]
   rw [← sumTo_mul]
   refine sumTo_congr fun i hi => ?_
   rw [show ec c A i r = A i (r + 1) from if_neg (by omega), er_ec, show r + 1 - c = (r - c) + 1 by omega, show r + 1 - i = (r - i) + 1 by omega, sgn_succ, sgn_succ]
   grind
  rw [e2, e3, sumTo_comm]
def tr (A : Nat → Nat → Int) : Nat → Nat → Int := fun i c => A c i
theorem dt_tr : ∀ (r : Nat) (A : Nat → Nat → Int), dt r (tr A) = dt r A
 | 0, A => rfl
 | r + 1, A => by
  rw [dt_lastvec r A]
  simp only [dt]
  refine sumTo_congr fun i hi => ?_
  have : er i (tr A) = tr (ec i A) := by
   funext j c; simp only [er, tr, ec]
   split <;> rfl
  rw [this, dt_tr r (ec i A)]
  rfl
theorem dt_vec {r : Nat} : ∀ (d p : Nat) (A : Nat → Nat → Int), p + d = r → dt (r + 1) A = sumTo (r + 1) fun c => sgn (p + c) * A p c * dt r (er p (ec c A))
 | 0, p, A, h => by
  have : p = r := by omega
  subst this
  rw [dt_lastvec]
  refine sumTo_congr fun c hc => ?_
  rw [sgn_par (show (p - c) % 2 = (p + c) % 2 by omega)]
  congr 1
  exact dt_congr fun i c' hi hc' => by unfold er; rw [if_pos hi]
 | d + 1, p, A, h => by
  have h1 := dt_adj A (i := p) (r := r + 1) (by omega)
  have h2 := dt_vec (r := r) d (p + 1) (swp A p (p + 1)) (by omega)
  rw [h2] at h1
  have h3 : sumTo (r + 1) (fun c => sgn (p + 1 + c) * swp A p (p + 1) (p + 1) c * dt r (er (p + 1) (ec c (swp A p (p + 1))))) = -sumTo (r + 1) fun c => sgn (p + c) * A p c * dt r (er p (ec c A)) := by
   rw [← sumTo_neg]
   refine sumTo_congr fun c hc => ?_
   have h4 : er (p + 1) (ec c (swp A p (p + 1))) = er p (ec c A) := by
    funext j d
    have h4 : er (p + 1) (swp A p (p + 1)) = er p A := by
     funext j; simp only [er, swp]
     repeat' split
     all_goals first | rfl | omega | (congr 1; omega)
    rw [er_ec, h4, er_ec]
   rw [h4, show swp A p (p + 1) (p + 1) = A p by unfold swp; rw [if_neg (by omega), if_pos rfl], show p + 1 + c = p + c + 1 by omega, sgn_succ]
   grind
  omega
theorem sumTo_single {n q : Nat} {f : Nat → Int} (hq : q < n) (h : ∀ i, i < n → i ≠ q → f i = 0) : sumTo n f = f q := by
 have := sumTo_one (f := fun _ => 0) (g := f) hq (fun i hi hne => h i hi hne)
 rw [sumTo_zero (f := fun _ => 0) (fun _ _ => rfl)] at this
 omega
theorem dt_unit {r : Nat} (A : Nat → Nat → Int) {p q : Nat} (hp : p ≤ r) (hq : q ≤ r) (h : ∀ c, c ≤ r → c ≠ q → A p c = 0) : dt (r + 1) A = sgn (p + q) * A p q * dt r (er p (ec q A)) := by
 rw [dt_vec (r - p) p A (by omega)]
 refine sumTo_single (f := fun c => sgn (p + c) * A p c * dt r (er p (ec c A))) (by omega) fun c hc hne => ?_
 rw [h c (by omega) hne]
 simp
theorem dt_zero {r : Nat} (A : Nat → Nat → Int) {i : Nat} (hi : i < r) (h : ∀ c, c < r → A i c = 0) : dt r A = 0 := by
 have := dt_lin A hi 0 0 (A i) (A i)
 rw [show dt r (rp A i fun x => 0 * A i x + 0 * A i x) = dt r A from dt_congr fun j c hj hc => by
  unfold rp; split
  ·rename_i e; subst e; rw [h c hc]; simp
  ·rfl] at this
 simpa using this
end Go.Proofs.Ytoohcdfokejkdaa.P
namespace Go.Proofs.Ytoohcdfokejkdaa.P
open Go.RowKit Go.Proofs.YtoohcdfokejkdaaW.PrintWords
set_option linter.unusedVariables false
set_option linter.unusedSimpArgs false

def dl (x y : Nat) : Int := if x = y then 1 else 0
theorem dl_self (x : Nat) : dl x x = 1 := if_pos rfl
theorem dl_ne {x y : Nat} (h : x ≠ y) : dl x y = 0 := if_neg h
def vg (l : Nat → Nat) (r : Nat) (e : Nat × Nat) (x : Nat) : Int := if x = r then 0 else dl x (l e.1) - dl x (l e.2)
def dg (l : Nat → Nat) (r x y : Nat) : Int := if x = y ∧ (l x ≠ x ∨ x = r) then 1 else 0
def sg (e : Nat → Nat × Nat) (E : Nat) (l : Nat → Nat) (r : Nat) (U : Nat → Bool) (x y : Nat) : Int := sumTo E fun g => if U g then vg l r (e g) x * vg l r (e g) y else 0
def big (e : Nat → Nat × Nat) (E : Nat) (l : Nat → Nat) (r : Nat) (U : Nat → Bool) (x y : Nat) : Int := dg l r x y + sg e E l r U x y
theorem unit_row {r : Nat} {A : Nat → Nat → Int} {t : Nat} (ht : t ≤ r) (h : ∀ c, c ≤ r → A t c = dl t c) : dt (r + 1) A = dt r (er t (ec t A)) := by
 rw [dt_unit A ht ht (fun c hc hne => by rw [h c hc, dl_ne (Ne.symm hne)]), h t ht, dl_self, sgn_par (show (t + t) % 2 = 0 % 2 by omega)]
 simp [sgn]
theorem minor_congr {r : Nat} {A B : Nat → Nat → Int} {t : Nat} (ht : t ≤ r) (h : ∀ x y, x ≤ r → y ≤ r → x ≠ t → y ≠ t → A x y = B x y) : dt r (er t (ec t A)) = dt r (er t (ec t B)) := by
 refine dt_congr fun i c hi hc => ?_
 by_cases h1 : i < t <;> by_cases h2 : c < t <;> simp only [er, ec, h1, h2, if_true, if_false] <;> exact h _ _ (by omega) (by omega) (by omega) (by omega)
section
variable {e : Nat → Nat × Nat} {E : Nat} {l : Nat → Nat} {r : Nat} {U : Nat → Bool} {g P Q : Nat}
def lq (l : Nat → Nat) (P Q : Nat) : Nat → Nat := fun x => if l x = Q then P else l x
def uq (U : Nat → Bool) (g : Nat) : Nat → Bool := fun h => U h && decide (h ≠ g)
theorem sg_split (hg : g < E) (hU : U g = true) (x y : Nat) : sg e E l r U x y = sg e E l r (uq U g) x y + vg l r (e g) x * vg l r (e g) y := by
 unfold sg
 rw [sumTo_one hg (f := fun h => if uq U g h then vg l r (e h) x * vg l r (e h) y else 0) (g := fun h => if U h then vg l r (e h) x * vg l r (e h) y else 0) (fun i hi hne => by simp [uq, hne])]
 simp [uq, hU]
theorem lq_ne (hPQ : P ≠ Q) (x : Nat) : lq l P Q x ≠ Q := by
 unfold lq; split
 ·exact hPQ
 ·assumption
theorem dl_lq (hPQ : P ≠ Q) {x : Nat} (hx : x ≠ Q) (a : Nat) : dl x (lq l P Q a) = dl x (l a) + if x = P then dl Q (l a) else 0 := by
 unfold lq dl
 by_cases h : l a = Q
 ·rw [if_pos h, h, if_neg hx, if_pos rfl]; simp
 ·rw [if_neg h, if_neg (show ¬ Q = l a from fun e => h e.symm)]; simp
variable (hl : ∀ x, l (l x) = l x) (hr : l r = r) (hg : g < E) (hU : U g = true) (hP : P = l (e g).1 ∧ Q = l (e g).2 ∨ P = l (e g).2 ∧ Q = l (e g).1) (hPQ : P ≠ Q)
include hl hr hg hU hP hPQ
omit hr hg hU hPQ in
theorem lP : l P = P := by rcases hP with ⟨h, _⟩ | ⟨h, _⟩ <;> rw [h, hl]
omit hr hg hU hPQ in
theorem lQ : l Q = Q := by rcases hP with ⟨_, h⟩ | ⟨_, h⟩ <;> rw [h, hl]
omit hl hr hPQ in
theorem sg_w (x y : Nat) : sg e E l r U x y = sg e E l r (uq U g) x y + (if x = r then 0 else dl x P - dl x Q) * (if y = r then 0 else dl y P - dl y Q) := by
 rw [sg_split hg hU]
 congr 1
 unfold vg
 rcases hP with ⟨h1, h2⟩ | ⟨h1, h2⟩
 ·rw [h1, h2]
 ·rw [h1, h2]
  split <;> split <;> grind
omit hr hg hU in
theorem dg_lq {x : Nat} (hx : x ≠ Q) (y : Nat) : dg (lq l P Q) r x y = dg l r x y := by
 have h1 := lP hl hP
 unfold dg lq
 by_cases h : l x = Q
 ·rw [if_pos h]
  have : x ≠ P := by rintro rfl; exact hPQ (h1.symm.trans h)
  simp [h, Ne.symm hx, Ne.symm this]
 ·rw [if_neg h]
omit hr in
theorem big_join_far {v : Nat} (hPv : P < v) (hQv : Q < v) (h1 : r ≠ P) (h2 : r ≠ Q) : dt v (big e E l r U) = dt v (big e E l r (uq U g)) + dt v (big e E (lq l P Q) r (uq U g)) := by
 obtain ⟨v, rfl⟩ : ∃ u, v = u + 1 := ⟨v - 1, by omega⟩
 have l1 := lP hl hP
 have l2 := lQ hl hP
 generalize hB : big e E l r (uq U g) = B
 generalize hw : (fun x => if x = r then (0 : Int) else dl x P - dl x Q) = w
 have hwP : w P = 1 := by rw [← hw]; simp [h1.symm, dl, hPQ]
 have hwQ : w Q = -1 := by rw [← hw]; simp [h2.symm, dl, hPQ.symm]
 have hw0 : ∀ x, x ≠ P → x ≠ Q → w x = 0 := fun x a b => by rw [← hw]; simp [dl, a, b]
 have hM : ∀ x y, big e E l r U x y = B x y + w x * w y := by
  intro x y
  rw [← hB, ← hw]
  unfold big
  rw [sg_w hg hU hP x y, ← Int.add_assoc]
 generalize hMM : big e E l r U = M at *
 have a1 := dt_addrow M (i := P) (j := Q) hPQ hPv hQv 1
 have a2 : (fun c => M P c + 1 * M Q c) = fun c => B P c + B Q c := by
  funext c
  rw [hM, hM, hwP, hwQ]; omega
 rw [a2] at a1
 have a3 : rp M P (fun c => B P c + B Q c) = rp (rp B P (fun c => B P c + 1 * B Q c)) Q (fun c => 1 * B Q c + (-1) * w c) := by
  funext x c
  unfold rp
  by_cases x1 : x = P
  ·subst x1; simp [hPQ]
  ·by_cases x2 : x = Q
   ·subst x2; rw [if_neg x1, if_pos rfl, hM, hwQ]; omega
   ·rw [if_neg x1, if_neg x2, if_neg x1, hM, hw0 x x1 x2]; omega
 rw [a3, dt_lin _ hQv, show rp (rp B P (fun c => B P c + 1 * B Q c)) Q (B Q) = rp B P (fun c => B P c + 1 * B Q c) by
  funext x; unfold rp
  by_cases x2 : x = Q
  ·subst x2; rw [if_pos rfl, if_neg hPQ.symm]
  ·rw [if_neg x2], dt_addrow B hPQ hPv hQv 1] at a1
 -- the second one
 generalize hG : rp (rp B P (fun c => B P c + 1 * B Q c)) Q w = G at *
 have b1 := dt_addrow (tr G) (i := P) (j := Q) hPQ hPv hQv 1
 rw [dt_tr, ← dt_tr] at b1
 generalize hG' : tr (rp (tr G) P (fun x => tr G P x + 1 * tr G Q x)) = G' at *
 have c1 : ∀ x y, G' x y = if y = P then G x P + G x Q else G x y := by
  intro x y
  rw [← hG']
  unfold tr rp
  split <;> simp
 have gQ : ∀ y, G Q y = w y := fun y => by rw [← hG, rp_same]
 have b2 : dt (v + 1) G' = -dt v (er Q (ec Q G')) := by
  rw [dt_unit G' (p := Q) (q := Q) (by omega) (by omega) (fun c hc hne => by
   rw [c1]
   by_cases x1 : c = P
   ·rw [if_pos x1, gQ, gQ, hwP, hwQ]; rfl
   ·rw [if_neg x1, gQ, hw0 c x1 hne]), c1, if_neg hPQ.symm, gQ, hwQ, sgn_par (show (Q + Q) % 2 = 0 % 2 by omega)]
  simp [sgn]
 have b3 : dt (v + 1) (big e E (lq l P Q) r (uq U g)) = dt v (er Q (ec Q (big e E (lq l P Q) r (uq U g)))) := by
  refine unit_row (by omega) fun c hc => ?_
  have z : ∀ h, vg (lq l P Q) r (e h) Q = 0 := fun h => by
   unfold vg
   rw [dl_ne (Ne.symm (lq_ne hPQ _)), dl_ne (Ne.symm (lq_ne hPQ _))]; simp
  unfold big sg dg
  rw [sumTo_zero fun i hi => by rw [z]; simp]
  have : lq l P Q Q ≠ Q := lq_ne hPQ _
  simp [this, dl]
 have b4 : dt v (er Q (ec Q (big e E (lq l P Q) r (uq U g)))) = dt v (er Q (ec Q G')) := by
  refine minor_congr (by omega) fun x y hx hy hxQ hyQ => ?_
  have vx : ∀ x, x ≠ Q → ∀ h, vg (lq l P Q) r (e h) x = vg l r (e h) x + if x = P then vg l r (e h) Q else 0 := by
   intro x hxQ h
   unfold vg
   rw [dl_lq hPQ hxQ, dl_lq hPQ hxQ, if_neg h2.symm]
   by_cases x1 : x = P
   ·rw [if_pos x1, if_neg (by rw [x1]; exact h1.symm), if_pos x1, if_pos x1]; rw [if_neg (by rw [x1]; exact h1.symm)]; omega
   ·rw [if_neg x1, if_neg x1, if_neg x1]; simp
  have sgP : ∀ y, B P y = sg e E l r (uq U g) P y := fun y => by
   rw [← hB]; unfold big dg
   rw [if_neg (fun hh => hh.2.elim (fun h => h l1) (fun h => h1 h.symm))]; omega
  have sgQ : ∀ y, B Q y = sg e E l r (uq U g) Q y := fun y => by
   rw [← hB]; unfold big dg
   rw [if_neg (fun hh => hh.2.elim (fun h => h l2) (fun h => h2 h.symm))]; omega
  have sgx : ∀ x, x ≠ Q → B x Q = sg e E l r (uq U g) x Q := fun x hxQ => by
   rw [← hB]; unfold big dg
   rw [if_neg (by rintro ⟨h, _⟩; exact hxQ h)]; omega
  have sgxP : ∀ x, x ≠ P → B x P = sg e E l r (uq U g) x P := fun x hxQ => by
   rw [← hB]; unfold big dg
   rw [if_neg (by rintro ⟨h, _⟩; exact hxQ h)]; omega
  have dP : ∀ y, dg l r P y = 0 := fun y => by unfold dg; rw [if_neg (fun hh => hh.2.elim (fun h => h l1) (fun h => h1 h.symm))]
  have dP' : ∀ x, x ≠ P → dg l r x P = 0 := fun x hx => by unfold dg; rw [if_neg (by rintro ⟨h, _⟩; exact hx h)]
  have gP : ∀ y, G P y = B P y + B Q y := fun y => by rw [← hG, rp_ne _ hPQ, rp_same]; omega
  have gx : ∀ x, x ≠ P → x ≠ Q → G x = B x := fun x a b => by rw [← hG, rp_ne _ b, rp_ne _ a]
  have key : big e E (lq l P Q) r (uq U g) x y = dg l r x y + (sg e E l r (uq U g) x y + (if x = P then sg e E l r (uq U g) Q y else 0) + (if y = P then sg e E l r (uq U g) x Q else 0) + (if x = P ∧ y = P then sg e E l r (uq U g) Q Q else 0)) := by
   unfold big
   rw [dg_lq hl hP hPQ hxQ]
   congr 1
   unfold sg
   simp only [vx x hxQ, vx y hyQ]
   by_cases x1 : x = P <;> by_cases y1 : y = P <;> simp only [x1, y1, if_true, if_false, and_self, and_true, and_false, false_and, true_and, Int.add_zero]
   ·rw [← sumTo_add, ← sumTo_add, ← sumTo_add]
    refine sumTo_congr fun i hi => ?_
    split <;> grind
   ·rw [← sumTo_add]
    refine sumTo_congr fun i hi => ?_
    split <;> grind
   ·rw [← sumTo_add]
    refine sumTo_congr fun i hi => ?_
    split <;> grind
  rw [key, c1]
  by_cases x1 : x = P
  ·subst x1
   by_cases y1 : y = x
   ·subst y1
    simp only [if_true, and_self]
    rw [gP, gP, sgP, sgP, sgQ, sgQ, dP]; omega
   ·simp only [if_true, y1, if_false, and_false]
    rw [gP, sgP, sgQ, dP]; omega
  ·rw [gx x x1 hxQ]
   simp only [x1, false_and, if_false]
   by_cases y1 : y = P
   ·subst y1
    rw [if_pos rfl, if_pos rfl, sgxP x x1, sgx x hxQ, dP' x x1]; omega
   ·rw [if_neg y1, if_neg y1, ← hB]
    unfold big; omega
 rw [b3, b4]
 omega
omit hr in
theorem big_join_near {v : Nat} (hPv : P < v) (hQv : Q < v) (h : r = P ∨ r = Q) : dt v (big e E l r U) = dt v (big e E l r (uq U g)) + dt v (big e E (lq l P Q) P (uq U g)) := by
 obtain ⟨v, rfl⟩ : ∃ u, v = u + 1 := ⟨v - 1, by omega⟩
 have l1 := lP hl hP
 have l2 := lQ hl hP
 obtain ⟨t, htv, htr, ht⟩ : ∃ t, t < v + 1 ∧ t ≠ r ∧ (r = P ∧ t = Q ∨ r = Q ∧ t = P) := by
  rcases h with h | h
  ·exact ⟨Q, hQv, by rw [h]; exact hPQ.symm, .inl ⟨h, rfl⟩⟩
  ·exact ⟨P, hPv, by rw [h]; exact hPQ, .inr ⟨h, rfl⟩⟩
 generalize hB : big e E l r (uq U g) = B
 have hM : ∀ x y, big e E l r U x y = B x y + dl x t * dl y t := by
  intro x y
  rw [← hB]
  unfold big
  rw [sg_w hg hU hP x y, ← Int.add_assoc]
  congr 1
  rcases ht with ⟨e1, e2⟩ | ⟨e1, e2⟩
  ·rw [e1, e2]
   unfold dl
   by_cases a : x = P <;> by_cases b : y = P <;> by_cases c : x = Q <;> by_cases d : y = Q <;> simp_all
  ·rw [e1, e2]
   unfold dl
   by_cases a : x = P <;> by_cases b : y = P <;> by_cases c : x = Q <;> by_cases d : y = Q <;> simp_all
 have a1 : big e E l r U = rp B t (fun c => 1 * B t c + 1 * dl t c) := by
  funext x c
  rw [hM]
  unfold rp
  by_cases e1 : x = t
  ·subst e1
   rw [if_pos rfl, dl_self, show dl c x = dl x c by unfold dl; simp [eq_comm]]; omega
  ·rw [if_neg e1, dl_ne e1]; omega
 rw [a1, dt_lin _ htv, rp_self]
 have b1 : dt (v + 1) (rp B t (dl t)) = dt v (er t (ec t (rp B t (dl t)))) := unit_row (by omega) fun c hc => by rw [rp_same]
 have b3 : dt (v + 1) (big e E (lq l P Q) P (uq U g)) = dt v (er t (ec t (big e E (lq l P Q) P (uq U g)))) := by
  refine unit_row (by omega) fun c hc => ?_
  have z : ∀ h, vg (lq l P Q) P (e h) t = 0 := fun h => by
   unfold vg
   rcases ht with ⟨e1, e2⟩ | ⟨e1, e2⟩
   ·rw [e2, dl_ne (Ne.symm (lq_ne hPQ _)), dl_ne (Ne.symm (lq_ne hPQ _))]; simp
   ·rw [if_pos e2]
  unfold big sg dg
  rw [sumTo_zero fun i hi => by rw [z]; simp]
  have : lq l P Q t ≠ t ∨ t = P := by
   rcases ht with ⟨e1, e2⟩ | ⟨e1, e2⟩
   ·left; rw [e2]; exact lq_ne hPQ _
   ·right; exact e2
  simp [this, dl]
 have b4 : dt v (er t (ec t (big e E (lq l P Q) P (uq U g)))) = dt v (er t (ec t (rp B t (dl t)))) := by
  refine minor_congr (by omega) fun x y hx hy hxt hyt => ?_
  rw [rp_ne _ hxt, ← hB]
  unfold big
  have vx : ∀ x, x ≠ t → ∀ h, vg (lq l P Q) P (e h) x = vg l r (e h) x := by
   intro x hxt h
   unfold vg
   rcases ht with ⟨e1, e2⟩ | ⟨e1, e2⟩
   ·rw [e2] at hxt
    rw [e1]
    by_cases x1 : x = P
    ·rw [if_pos x1, if_pos x1]
    ·rw [if_neg x1, if_neg x1, dl_lq hPQ hxt, dl_lq hPQ hxt, if_neg x1, if_neg x1]; omega
   ·rw [e2] at hxt
    rw [e1, if_neg hxt]
    by_cases x1 : x = Q
    ·rw [if_pos x1, x1, dl_ne (Ne.symm (lq_ne hPQ _)), dl_ne (Ne.symm (lq_ne hPQ _))]; rfl
    ·rw [if_neg x1, dl_lq hPQ x1, dl_lq hPQ x1, if_neg hxt, if_neg hxt]; omega
  congr 1
  ·rcases ht with ⟨e1, e2⟩ | ⟨e1, e2⟩
   ·rw [e2] at hxt
    have := dg_lq (r := r) hl hP hPQ hxt y
    rwa [e1] at this ⊢
   ·rw [e2] at hxt
    by_cases x1 : x = Q
    ·have := lq_ne (l := l) hPQ Q
     rw [x1, e1]
     unfold dg
     simp [this]
    ·rw [show dg (lq l P Q) P x y = dg (lq l P Q) r x y by unfold dg; rw [e1]; simp [hxt, x1]]
     exact dg_lq hl hP hPQ x1 y
  ·unfold sg
   simp only [vx x hxt, vx y hyt]
 rw [b1, b3, b4]
 omega
end
end Go.Proofs.Ytoohcdfokejkdaa.P
namespace Go.Proofs.Ytoohcdfokejkdaa.P
open Go.RowKit Go.Proofs.YtoohcdfokejkdaaW.PrintWords
set_option linter.unusedVariables false
set_option linter.unusedSimpArgs false

theorem cnt_add {p q r : Nat → Bool} {v : Nat} (h : ∀ i, i < v → (p i).toNat = (q i).toNat + (r i).toNat) : cnt p v = cnt q v + cnt r v := by
  induction v with
  | zero => rfl
  | succ n ih => simp only [cnt]; rw [ih (fun i hi => h i (by omega)), h n (by omega)]; omega
theorem cnt_single {p : Nat → Bool} {v m : Nat} (hm : m < v) (h : ∀ i, i < v → i ≠ m → p i = false) : cnt p v = (p m).toNat := by
  cases hp : p m with
  | false => rw [cnt_zero_iff.2 fun i hi => by by_cases e : i = m; · rw [e, hp]
                                               · exact h i hi e]; rfl
  | true =>
    rw [cnt_one (q := fun _ => false) hm hp rfl (fun i hi hne => h i hi hne), cnt_zero_iff.2 (fun _ _ => rfl)]
    rfl
theorem cnt_pos {p : Nat → Bool} {v m : Nat} (hm : m < v) (hp : p m = true) : 0 < cnt p v := by
  rcases Nat.eq_zero_or_pos (cnt p v) with h | h
  · rw [cnt_zero_iff.1 h m hm] at hp; cases hp
  · exact h
/-- Neither chosen nor banned. -/
def und (c b : Nat) : Nat → Bool := fun g => !c.testBit g && !b.testBit g
/-- One part, and no loop. -/
def perf (e : Nat → Nat × Nat) (V E t : Nat) : Bool := decide (parts e V E t = 1 ∧ pop E t + 1 = V)
def sup (E c b t : Nat) : Bool := decide (∀ i, i < E → (c.testBit i = true → t.testBit i = true) ∧ (b.testBit i = true → t.testBit i = false))
/-- How many perfect ones have all that is chosen and nothing that is banned. -/
def trees (e : Nat → Nat × Nat) (V E c b : Nat) : Nat := cnt (fun t => sup E c b t && perf e V E t) (2 ^ E)
theorem sup_iff {E c b t : Nat} : sup E c b t = true ↔ ∀ i, i < E → (c.testBit i = true → t.testBit i = true) ∧ (b.testBit i = true → t.testBit i = false) := by unfold sup; rw [decide_eq_true_eq]
theorem sup_split {E c b g t : Nat} (hg : g < E) (hu : und c b g = true) : (sup E c b t).toNat = (sup E (setB c g true) b t).toNat + (sup E c (setB b g true) t).toNat := by
  simp only [und, Bool.and_eq_true, Bool.not_eq_true'] at hu
  have h1 : sup E (setB c g true) b t = (sup E c b t && t.testBit g) := by
    rw [Bool.eq_iff_iff, Bool.and_eq_true, sup_iff, sup_iff]
    simp only [testBit_setB]
    constructor
    · intro h
      refine ⟨fun i hi => ⟨fun hc => (h i hi).1 (by split <;> simp [hc]), (h i hi).2⟩, (h g hg).1 (by simp)⟩
    · rintro ⟨h, h2⟩ i hi
      refine ⟨fun hc => ?_, (h i hi).2⟩
      split at hc
      · rename_i e; rw [e]; exact h2
      · exact (h i hi).1 hc
  have h2 : sup E c (setB b g true) t = (sup E c b t && !t.testBit g) := by
    rw [Bool.eq_iff_iff, Bool.and_eq_true, sup_iff, sup_iff]
    simp only [testBit_setB, Bool.not_eq_true']
    constructor
    · intro h
      refine ⟨fun i hi => ⟨(h i hi).1, fun hc => (h i hi).2 (by split <;> simp [hc])⟩, (h g hg).2 (by simp)⟩
    · rintro ⟨h, h2⟩ i hi
      refine ⟨(h i hi).1, fun hc => ?_⟩
      split at hc
      · rename_i e; rw [e]; exact h2
      · exact (h i hi).2 hc
  rw [h1, h2]
  cases sup E c b t <;> cases t.testBit g <;> rfl
theorem trees_split {e : Nat → Nat × Nat} {V E c b g : Nat} (hg : g < E) (hu : und c b g = true) : trees e V E c b = trees e V E (setB c g true) b + trees e V E c (setB b g true) := by
  unfold trees
  refine cnt_add fun t ht => ?_
  have := sup_split (t := t) hg hu
  cases h1 : perf e V E t
  · simp
  · simpa using this
theorem perf_iff {e : Nat → Nat × Nat} {V E t : Nat} : perf e V E t = true ↔ parts e V E t = 1 ∧ pop E t + 1 = V := by unfold perf; rw [decide_eq_true_eq]
theorem perf_bridge {e : Nat → Nat × Nat} {V E t j : Nat} (hg : Gr e V E) (ht : t < 2 ^ E) (hp : perf e V E t = true) (hb : t.testBit j = true) : ¬ Cn e (setB t j false) (e j).1 (e j).2 := by
  rw [perf_iff] at hp
  exact bridge_of_forest hg ht (by omega) hb
/-- No tree holds a loop. -/
theorem trees_loop {e : Nat → Nat × Nat} {V E c b g : Nat} (hG : Gr e V E) (hc : c < 2 ^ E) (hg : g < E) (hu : und c b g = true) (hl : Cn e c (e g).1 (e g).2) : trees e V E (setB c g true) b = 0 := by
  simp only [und, Bool.and_eq_true, Bool.not_eq_true'] at hu
  unfold trees
  rw [cnt_zero_iff]
  intro t ht
  rw [Bool.and_eq_false_iff]
  cases hp : perf e V E t
  · exact .inr rfl
  · left
    rw [Bool.eq_false_iff]
    intro hs
    rw [sup_iff] at hs
    have hb : t.testBit g = true := (hs g hg).1 (setB_bit ..)
    refine perf_bridge hG ht hp hb (hl.mono fun i hi => ?_)
    have hne : i ≠ g := by rintro rfl; rw [hu.1] at hi; cases hi
    rw [setB_ne _ hne]
    exact (hs i (lt_of_testBit hc hi)).1 (by rw [setB_ne _ hne]; exact hi)
theorem dt_one : ∀ {r : Nat} {A : Nat → Nat → Int}, (∀ x y, x < r → y < r → A x y = dl x y) → dt r A = 1
  | 0, _, _ => rfl
  | r + 1, A, h => by
    rw [unit_row (t := r) (Nat.le_refl r) (fun c hc => h r c (by omega) (by omega))]
    refine dt_one fun x y hx hy => ?_
    simp only [er, ec, hx, hy, if_true]
    exact h x y (by omega) (by omega)
theorem lab_join {e : Nat → Nat × Nat} {E c g : Nat} (hc : c < 2 ^ E) (hg : g < E) (x : Nat) :
    lab e (setB c g true) E x = lq (lab e c E) (min (lab e c E (e g).1) (lab e c E (e g).2)) (max (lab e c E (e g).1) (lab e c E (e g).2)) x := by
  have hc' : setB c g true < 2 ^ E := setB_lt true hc hg
  have m : ∀ {x y}, Cn e c x y → Cn e (setB c g true) x y := fun h => h.mono fun i hi => by rw [testBit_setB]; split <;> simp [hi]
  have hk : Cn e (setB c g true) (e g).1 (e g).2 := Cn.edge (setB_bit ..)
  have c1 := m (lab_cn (e := e) hc (e g).1)
  have c2 := m (lab_cn (e := e) hc (e g).2)
  have cx := m (lab_cn (e := e) hc x)
  have hcn : Cn e (setB c g true) x (lq (lab e c E) (min (lab e c E (e g).1) (lab e c E (e g).2)) (max (lab e c E (e g).1) (lab e c E (e g).2)) x) := by
    unfold lq
    split
    · rename_i h
      rcases Nat.le_total (lab e c E (e g).1) (lab e c E (e g).2) with hle | hle
      · rw [Nat.max_eq_right hle] at h
        rw [Nat.min_eq_left hle]
        rw [h] at cx
        exact ((cx.trans c2.symm).trans hk.symm).trans c1
      · rw [Nat.max_eq_left hle] at h
        rw [Nat.min_eq_right hle]
        rw [h] at cx
        exact ((cx.trans c1.symm).trans hk).trans c2
    · exact cx
  have hle : ∀ z, Cn e (setB c g true) x z → lq (lab e c E) (min (lab e c E (e g).1) (lab e c E (e g).2)) (max (lab e c E (e g).1) (lab e c E (e g).2)) x ≤ z := by
    intro z hz
    rw [Cn_add] at hz
    unfold lq
    rcases hz with h | ⟨h1, h2⟩ | ⟨h1, h2⟩
    · have := lab_least hc h
      split
      · rename_i e1; omega
      · exact this
    · have e1 := (lab_iff hc _ _).2 h1
      have e2 := lab_least hc h2
      split
      · omega
      · rename_i e3; omega
    · have e1 := (lab_iff hc _ _).2 h1
      have e2 := lab_least hc h2
      split
      · omega
      · rename_i e3; omega
  have a := lab_least hc' hcn
  have b := hle _ (lab_cn hc' x)
  omega
/-- The matrix with all that is neither chosen nor banned. -/
def treeM (e : Nat → Nat × Nat) (E c b k : Nat) : Nat → Nat → Int := big e E (lab e c E) (lab e c E k) (und c b)
theorem und_ban (c b g : Nat) : und c (setB b g true) = uq (und c b) g := by
  funext h
  simp only [und, uq, testBit_setB]
  by_cases e : h = g
  · simp [e]
  · simp [e]
theorem und_choose (c b g : Nat) : und (setB c g true) b = uq (und c b) g := by
  funext h
  simp only [und, uq, testBit_setB]
  by_cases e : h = g
  · simp [e]
  · simp [e]
theorem treeM_split {e : Nat → Nat × Nat} {V E c b g k : Nat} (hG : Gr e V E) (hc : c < 2 ^ E) (hg : g < E) (hu : und c b g = true) (hk : k < V) (hl : ¬ Cn e c (e g).1 (e g).2) :
    dt V (treeM e E c b k) = dt V (treeM e E c (setB b g true) k) + dt V (treeM e E (setB c g true) b k) := by
  have hne : lab e c E (e g).1 ≠ lab e c E (e g).2 := fun h => hl ((lab_iff hc _ _).1 h)
  have q1 := lab_le e c E (e g).1
  have q2 := lab_le e c E (e g).2
  have q3 := (hG g hg).1
  have q4 := (hG g hg).2
  have hPQ : min (lab e c E (e g).1) (lab e c E (e g).2) ≠ max (lab e c E (e g).1) (lab e c E (e g).2) := by omega
  have hPP : min (lab e c E (e g).1) (lab e c E (e g).2) = lab e c E (e g).1 ∧ max (lab e c E (e g).1) (lab e c E (e g).2) = lab e c E (e g).2 ∨ min (lab e c E (e g).1) (lab e c E (e g).2) = lab e c E (e g).2 ∧ max (lab e c E (e g).1) (lab e c E (e g).2) = lab e c E (e g).1 := by omega
  have hlf : lab e (setB c g true) E = lq (lab e c E) (min (lab e c E (e g).1) (lab e c E (e g).2)) (max (lab e c E (e g).1) (lab e c E (e g).2)) := funext fun x => lab_join hc hg x
  unfold treeM
  rw [und_ban, und_choose, hlf]
  by_cases hr : lab e c E k = min (lab e c E (e g).1) (lab e c E (e g).2) ∨ lab e c E k = max (lab e c E (e g).1) (lab e c E (e g).2)
  · have hr' : lq (lab e c E) (min (lab e c E (e g).1) (lab e c E (e g).2)) (max (lab e c E (e g).1) (lab e c E (e g).2)) k = min (lab e c E (e g).1) (lab e c E (e g).2) := by
      unfold lq
      split
      · rfl
      · rcases hr with h | h
        · exact h
        · contradiction
    rw [hr']
    exact big_join_near (fun x => lab_lab e c E x) hg hu hPP hPQ (by omega) (by omega) hr
  · have hr' : lq (lab e c E) (min (lab e c E (e g).1) (lab e c E (e g).2)) (max (lab e c E (e g).1) (lab e c E (e g).2)) k = lab e c E k := by
      unfold lq
      rw [if_neg fun h => hr (.inr h)]
    rw [hr']
    exact big_join_far (fun x => lab_lab e c E x) hg hu hPP hPQ (by omega) (by omega) (fun h => hr (.inl h)) (fun h => hr (.inr h))
theorem treeM_loop {e : Nat → Nat × Nat} {V E c b g k : Nat} (hc : c < 2 ^ E) (hl : Cn e c (e g).1 (e g).2) : dt V (treeM e E c b k) = dt V (treeM e E c (setB b g true) k) := by
  refine dt_congr fun x y hx hy => ?_
  unfold treeM big sg
  congr 1
  refine sumTo_congr fun h hh => ?_
  rw [und_ban]
  unfold uq
  by_cases e1 : h = g
  · subst e1
    have : vg (lab e c E) (lab e c E k) (e h) x = 0 := by unfold vg; rw [(lab_iff hc _ _).2 hl]; split <;> omega
    rw [this]; simp
  · simp [e1]
theorem trees_det {e : Nat → Nat × Nat} {V E k : Nat} (hG : Gr e V E) (hk : k < V) : ∀ d c b, c < 2 ^ E → b < 2 ^ E → (∀ i, c.testBit i = true → b.testBit i = false) → pop E c + parts e V E c = V → cnt (und c b) E = d →
    dt V (treeM e E c b k) = (trees e V E c b : Int)
  | 0, c, b, hc, hb, hd, hf, h0 => by
    rw [cnt_zero_iff] at h0
    have hM : ∀ x y, treeM e E c b k x y = dg (lab e c E) (lab e c E k) x y := fun x y => by
      unfold treeM big sg
      rw [sumTo_zero fun i hi => by rw [h0 i hi]; rfl]; omega
    have hcb : ∀ i, i < E → (b.testBit i = !c.testBit i) := fun i hi => by
      have h1 := h0 i hi
      have h2 := hd i
      unfold und at h1
      cases a : c.testBit i <;> cases a2 : b.testBit i <;> simp_all
    have hN : trees e V E c b = (perf e V E c).toNat := by
      unfold trees
      rw [cnt_single hc (fun t ht hne => by
        rw [Bool.and_eq_false_iff]; left
        rw [Bool.eq_false_iff]
        intro hs
        rw [sup_iff] at hs
        apply hne
        apply Nat.eq_of_testBit_eq
        intro i
        by_cases hi : i < E
        · have := hs i hi
          have := hcb i hi
          cases a : c.testBit i <;> simp_all
        · rw [Nat.testBit_lt_two_pow (Nat.lt_of_lt_of_le ht (Nat.pow_le_pow_right (by decide) (by omega))), Nat.testBit_lt_two_pow (Nat.lt_of_lt_of_le hc (Nat.pow_le_pow_right (by decide) (by omega)))])]
      rw [show sup E c b c = true from sup_iff.2 fun i hi => ⟨id, fun h => by
        have := hcb i hi; rw [h] at this
        cases a : c.testBit i
        · rfl
        · rw [a] at this; exact absurd this (by decide)⟩, Bool.true_and]
    rw [hN]
    have hp : perf e V E c = decide (parts e V E c = 1) := by
      unfold perf
      rw [decide_eq_decide]
      omega
    have hkl := lab_le e c E k
    have hkk := lab_lab e c E k
    rw [hp]
    by_cases h1 : ∀ x, x < V → lab e c E x ≠ x ∨ x = lab e c E k
    · have : parts e V E c = 1 := by
        unfold parts
        rw [cnt_single (m := lab e c E k) (by omega) (fun x hx hne => by
          rcases h1 x hx with h | h
          · simpa using h
          · exact absurd h hne)]
        simp [hkk]
      rw [this, dt_one fun x y hx hy => by
        rw [hM]; unfold dg dl
        by_cases e1 : x = y
        · rw [if_pos ⟨e1, h1 x hx⟩, if_pos e1]
        · rw [if_neg (fun h => e1 h.1), if_neg e1]]
      rfl
    · have ⟨x, hx⟩ := Classical.not_forall.1 h1
      rw [Classical.not_imp, not_or, Classical.not_not] at hx
      obtain ⟨hxV, hx1, hx2⟩ := hx
      rw [dt_zero _ hxV fun y hy => by rw [hM]; unfold dg; exact if_neg fun h => h.2.elim (fun h => h hx1) hx2]
      have : parts e V E c ≠ 1 := by
        intro h
        unfold parts at h
        have h2 := cnt_one (p := fun x => lab e c E x == x) (q := fun z => (lab e c E z == z) && decide (z ≠ x)) hxV (by simp [hx1]) (by simp) (fun i hi hne => by simp [hne])
        have h3 := cnt_pos (p := fun z => (lab e c E z == z) && decide (z ≠ x)) (v := V) (m := lab e c E k) (by omega) (by simp [hkk, Ne.symm hx2])
        omega
      simp [this]
  | d + 1, c, b, hc, hb, hd, hf, h0 => by
    obtain ⟨g, hg, hu⟩ : ∃ g, g < E ∧ und c b g = true := by
      apply Classical.byContradiction
      intro h
      have : cnt (und c b) E = 0 := cnt_zero_iff.2 fun i hi => by
        rw [Bool.eq_false_iff]
        intro h2
        exact h ⟨i, hi, h2⟩
      omega
    have hu' := hu
    simp only [und, Bool.and_eq_true, Bool.not_eq_true'] at hu'
    have hcd : cnt (uq (und c b) g) E = d := by
      have := cnt_one (p := und c b) (q := uq (und c b) g) hg hu (by simp [uq]) (fun i hi hne => by simp [uq, hne])
      omega
    have hB := trees_det hG hk d c (setB b g true) hc (setB_lt true hb hg) (fun i hi => by
      rw [testBit_setB]
      split
      · rename_i e1; rw [e1, hu'.1] at hi; cases hi
      · exact hd i hi) hf (by rw [und_ban]; exact hcd)
    rw [trees_split hg hu]
    have hpa := parts_add (e := e) hc hg (hG g hg).1 (hG g hg).2
    by_cases hl : Cn e c (e g).1 (e g).2
    · rw [treeM_loop hc hl, hB, trees_loop hG hc hg hu hl, Nat.zero_add]
    · have hC := trees_det hG hk d (setB c g true) b (setB_lt true hc hg) hb (fun i hi => by
        rw [testBit_setB] at hi
        split at hi
        · rename_i e1; rw [e1]; exact hu'.2
        · exact hd i hi) (by rw [pop_setB hg hu'.1]; have := hpa.2 hl; omega) (by rw [und_choose]; exact hcd)
      rw [treeM_split hG hc hg hu hk hl, hB, hC]
      omega
theorem cnt_all {p : Nat → Bool} {n : Nat} (h : ∀ i, i < n → p i = true) : cnt p n = n := by
 induction n with
 | zero => rfl
 | succ n ih => simp only [cnt]; rw [ih fun i hi => h i (by omega), h n (by omega)]; rfl
theorem cnt_shift (p : Nat → Bool) (t : Nat) (ht : p t = false) : ∀ x, cnt (fun i => if i < t then p i else p (i + 1)) x = cnt p (if x < t then x else x + 1)
 | 0 => by
  by_cases h : 0 < t
  ·rw [if_pos h]; rfl
  ·have : t = 0 := by omega
   subst this
   simp [cnt, ht]
 | x + 1 => by
  simp only [cnt]
  rw [cnt_shift p t ht x]
  by_cases h : x + 1 < t
  ·rw [if_pos (by omega), if_pos (by omega), if_pos h]; rfl
  ·rw [if_neg h]
   by_cases e : x < t
   ·have e1 : t = x + 1 := by omega
    subst e1
    rw [if_pos e, if_pos e]
    simp only [cnt, ht]
    rfl
   ·rw [if_neg e, if_neg e]; rfl
theorem dt_comp : ∀ (d V : Nat) (p : Nat → Bool) (A B : Nat → Nat → Int), cnt p V + d = V → (∀ x y, x < V → y < V → p x = false → A x y = dl x y) → (∀ x y, x < V → y < V → p x = true → p y = true → B (cnt p x) (cnt p y) = A x y) → dt V A = dt (cnt p V) B
 | 0, V, p, A, B, hc, hu, hB => by
  have hall : ∀ i, i < V → p i = true := by
   intro i hi
   cases hp : p i
   ·have := cnt_one (p := fun j => p j || decide (j = i)) (q := p) hi (by simp) hp (fun j _ hne => by simp [hne])
    have := cnt_le (fun j => p j || decide (j = i)) V
    omega
   ·rfl
  rw [cnt_all hall]
  refine dt_congr fun x y hx hy => ?_
  have := hB x y hx hy (hall x hx) (hall y hy)
  rw [cnt_all fun i hi => hall i (by omega), cnt_all fun i hi => hall i (by omega)] at this
  exact this.symm
 | d + 1, V, p, A, B, hc, hu, hB => by
  obtain ⟨t, ht, hpt⟩ : ∃ t, t < V ∧ p t = false := by
   apply Classical.byContradiction
   intro h
   have := cnt_all (p := p) (n := V) fun i hi => by
    cases hp : p i
    ·exact absurd ⟨i, hi, hp⟩ h
    ·rfl
   omega
  obtain ⟨r, rfl⟩ : ∃ r, V = r + 1 := ⟨V - 1, by omega⟩
  rw [unit_row (show t ≤ r by omega) fun c hc => hu t c ht (by omega) hpt]
  have hs : ∀ x, cnt (fun i => if i < t then p i else p (i + 1)) x = cnt p (if x < t then x else x + 1) := cnt_shift p t hpt
  have hr := hs r
  rw [if_neg (by omega)] at hr
  have hA : ∀ x y, er t (ec t A) x y = A (if x < t then x else x + 1) (if y < t then y else y + 1) := fun x y => by
   unfold er ec
   by_cases h1 : x < t <;> by_cases h2 : y < t <;> simp [h1, h2]
  rw [dt_comp d r (fun i => if i < t then p i else p (i + 1)) (er t (ec t A)) B (by omega) ?_ ?_, hr]
  ·intro x y hx hy hp
   rw [hA]
   by_cases h1 : x < t <;> by_cases h2 : y < t <;> simp only [h1, h2, if_true, if_false] at hp ⊢
   ·exact hu _ _ (by omega) (by omega) hp
   ·rw [hu _ _ (by omega) (by omega) hp, dl_ne (by omega), dl_ne (by omega)]
   ·rw [hu _ _ (by omega) (by omega) hp, dl_ne (by omega), dl_ne (by omega)]
   ·rw [hu _ _ (by omega) (by omega) hp]; unfold dl; by_cases e : x = y
    ·rw [if_pos (by omega), if_pos e]
    ·rw [if_neg (by omega), if_neg e]
  ·intro x y hx hy hpx hpy
   rw [hs, hs, hA]
   refine hB _ _ (by split <;> omega) (by split <;> omega) ?_ ?_
   ·by_cases h1 : x < t
    ·simpa only [h1, if_true] using hpx
    ·simpa only [h1, if_false] using hpx
   ·by_cases h1 : y < t
    ·simpa only [h1, if_true] using hpy
    ·simpa only [h1, if_false] using hpy
end Go.Proofs.Ytoohcdfokejkdaa.P
namespace Go.Proofs.Ytoohcdfokejkdaa.P
open Go.RowKit Go.Proofs.YtoohcdfokejkdaaW.PrintWords
set_option linter.unusedVariables false
set_option linter.unusedSimpArgs false

def plc (e : Nat → Nat × Nat) (E c x : Nat) : Nat := cnt (fun z => lab e c E z == z) (lab e c E x)
def pm (e : Nat → Nat × Nat) (E : Nat) (P : Nat → Nat) (U : Nat → Bool) (i j : Nat) : Int := sumTo E fun g => if U g then (dl i (P (e g).1) - dl i (P (e g).2)) * (dl j (P (e g).1) - dl j (P (e g).2)) else 0
theorem cnt_lt {p : Nat → Bool} {m n : Nat} (h : m < n) (hp : p m = true) : cnt p m < cnt p n := by
 obtain ⟨d, rfl⟩ := Nat.exists_eq_add_of_lt h
 induction d with
 | zero => simp only [Nat.add_zero, cnt, hp]; simp
 | succ d ih =>
  have := ih (by omega)
  have e : cnt p (m + (d + 1) + 1) = cnt p (m + d + 1) + (p (m + d + 1)).toNat := rfl
  omega
theorem cnt_inj {p : Nat → Bool} {m n : Nat} (hm : p m = true) (hn : p n = true) (h : cnt p m = cnt p n) : m = n := by
 rcases Nat.lt_trichotomy m n with h1 | h1 | h1
 ·have := cnt_lt h1 hm; omega
 ·exact h1
 ·have := cnt_lt h1 hn; omega
section
variable {e : Nat → Nat × Nat} {V E c b : Nat}
theorem lab_rep (x : Nat) : (lab e c E (lab e c E x) == lab e c E x) = true := by rw [lab_lab]; simp
theorem plc_lt {x : Nat} (hx : x < V) : plc e E c x < parts e V E c := cnt_lt (Nat.lt_of_le_of_lt (lab_le e c E x) hx) (lab_rep x)
theorem plc_eq {x y : Nat} : plc e E c x = plc e E c y ↔ lab e c E x = lab e c E y :=
 ⟨fun h => cnt_inj (p := fun z => lab e c E z == z) (lab_rep x) (lab_rep y) h, fun h => by unfold plc; rw [h]⟩
theorem lab_zero : lab e c E 0 = 0 := Nat.le_zero.1 (lab_le e c E 0)
theorem cnt_drop0 (q : Nat → Bool) (h0 : q 0 = true) : ∀ x, cnt (fun z => q z && decide (z ≠ 0)) x = cnt q x - 1
 | 0 => rfl
 | 1 => by simp [cnt, h0]
 | x + 2 => by
  have ih := cnt_drop0 q h0 (x + 1)
  have h1 : 0 < cnt q (x + 1) := cnt_pos (m := 0) (by omega) h0
  have e1 : cnt (fun z => q z && decide (z ≠ 0)) (x + 2) = cnt (fun z => q z && decide (z ≠ 0)) (x + 1) + (q (x + 1) && decide (x + 1 ≠ 0)).toNat := rfl
  have e2 : cnt q (x + 2) = cnt q (x + 1) + (q (x + 1)).toNat := rfl
  rw [e1, e2, ih]
  simp
  omega
theorem trees_place (hG : Gr e V E) (hV : 0 < V) (hc : c < 2 ^ E) (hb : b < 2 ^ E) (hd : ∀ i, c.testBit i = true → b.testBit i = false) (hf : pop E c + parts e V E c = V) :
  (trees e V E c b : Int) = dt (parts e V E c - 1) (fun i j => pm e E (plc e E c) (und c b) (i + 1) (j + 1)) := by
 rw [← trees_det hG hV _ c b hc hb hd hf rfl]
 have hq0 : (fun z => lab e c E z == z) 0 = true := by simp [lab_zero]
 have hcn := cnt_drop0 (fun z => lab e c E z == z) hq0
 have hpos : 0 < parts e V E c := parts_pos hc hV
 have hcV : cnt (fun z => (lab e c E z == z) && decide (z ≠ 0)) V = parts e V E c - 1 := hcn V
 rw [dt_comp (V - (parts e V E c - 1)) V (fun z => (lab e c E z == z) && decide (z ≠ 0)) (treeM e E c b 0) (fun i j => pm e E (plc e E c) (und c b) (i + 1) (j + 1)) (by rw [hcV]; have := cnt_le (fun z => lab e c E z == z) V; unfold parts; omega), hcV]
 ·intro x y hx hy hp
  have hr : lab e c E x ≠ x ∨ x = 0 := by
   simp only [Bool.and_eq_false_iff, decide_eq_false_iff_not, beq_eq_false_iff_ne, ne_eq, Classical.not_not] at hp
   exact hp
  unfold treeM big
  rw [lab_zero]
  have hv : ∀ g, vg (lab e c E) 0 (e g) x = 0 := fun g => by
   unfold vg
   rcases hr with h | h
   ·have : ∀ a, dl x (lab e c E a) = 0 := fun a => dl_ne fun h' => h (by rw [h', lab_lab])
    rw [this, this]; simp
   ·rw [if_pos h]
  have : sg e E (lab e c E) 0 (und c b) x y = 0 := by
   unfold sg
   exact sumTo_zero fun g _ => by rw [hv]; simp
  rw [this]
  unfold dg dl
  by_cases e1 : x = y
  ·rw [if_pos ⟨e1, hr⟩, if_pos e1]; rfl
  ·rw [if_neg fun h => e1 h.1, if_neg e1]; rfl
 ·intro x y hx hy hpx hpy
  simp only [Bool.and_eq_true, beq_iff_eq, decide_eq_true_eq] at hpx hpy
  rw [hcn, hcn]
  have hx1 : 0 < cnt (fun z => lab e c E z == z) x := cnt_pos (m := 0) (by omega) hq0
  have hy1 : 0 < cnt (fun z => lab e c E z == z) y := cnt_pos (m := 0) (by omega) hq0
  have hk : ∀ z, lab e c E z = z → ∀ a, dl (cnt (fun z => lab e c E z == z) z) (plc e E c a) = dl z (lab e c E a) := fun z hz a => by
   have e1 : cnt (fun z => lab e c E z == z) z = plc e E c z := by unfold plc; rw [hz]
   unfold dl
   rw [e1]
   by_cases h : z = lab e c E a
   ·rw [if_pos h, if_pos (plc_eq.2 (by rw [hz, h]))]
   ·rw [if_neg h, if_neg fun h' => h (by rw [← plc_eq.1 h', hz])]
  unfold treeM big pm
  rw [lab_zero, Nat.sub_add_cancel hx1, Nat.sub_add_cancel hy1]
  have : dg (lab e c E) 0 x y = 0 := by
   unfold dg
   exact if_neg fun h => h.2.elim (fun h => h hpx.1) (fun h => hpx.2 h)
  rw [this, Int.zero_add]
  unfold sg
  refine sumTo_congr fun g _ => ?_
  unfold vg
  rw [if_neg hpx.2, if_neg hpy.2, hk x hpx.1, hk x hpx.1, hk y hpy.1, hk y hpy.1]
end
end Go.Proofs.Ytoohcdfokejkdaa.P
namespace Go.Proofs.Ytoohcdfokejkdaa.P
open Go.RowKit Go.Proofs.YtoohcdfokejkdaaW.PrintWords
set_option linter.unusedVariables false
set_option linter.unusedSimpArgs false

def mat (n m : Nat) (f : Nat → Nat → Int) : List (List Int) := (List.range n).map fun i => dlist m (f i)
theorem mat_len (n m : Nat) (f : Nat → Nat → Int) : (mat n m f).length = n := by simp [mat]
theorem rd_mat {n m i : Nat} {f : Nat → Nat → Int} (h : i < n) : rd_L2 (mat n m f) (i : Int) = dlist m (f i) := by
 rw [rdL_get (by rw [mat_len]; exact h)]
 simp [mat]
theorem mat_get {n m r : Nat} {f : Nat → Nat → Int} (h : r < (mat n m f).length) : (mat n m f)[r] = dlist m (f r) := by
 have h2 : r < ((List.range n).map fun i => dlist m (f i)).length := h
 show ((List.range n).map fun i => dlist m (f i))[r] = _
 rw [List.getElem_map, List.getElem_range]
theorem mat_set {n m a : Nat} {f : Nat → Nat → Int} {D : Nat → Int} : (mat n m f).set a (dlist m D) = mat n m (fun r => if r = a then D else f r) := by
 apply List.ext_getElem
 ·simp [mat_len]
 ·intro r h1 h2
  rw [List.getElem_set, mat_get h2]
  by_cases e : a = r
  ·rw [if_pos e]
   simp only [e, if_true]
  ·rw [if_neg e, mat_get]
   simp only [Ne.symm e, if_false]
theorem mat_app {n m : Nat} {f : Nat → Nat → Int} : mat n m f ++ [dlist m (f n)] = mat (n + 1) m f := by
 unfold mat
 rw [List.range_succ, List.map_append]
 rfl
theorem zeros_dlist (m : Nat) : List.replicate m (0 : Int) = dlist m fun _ => 0 := by
 apply List.ext_getElem
 ·simp [dlist]
 ·intro i h1 h2
  simp [dlist]
def put (f : Nat → Nat → Int) (a b : Nat) (v : Int) : Nat → Nat → Int := fun r => if r = a then upd (f a) b v else f r
theorem mat_put {n m a b : Nat} {f : Nat → Nat → Int} {v : Int} (ha : a < n) (hb : b < m) : (mat n m f).set a ((rd_L2 (mat n m f) (a : Int)).set b v) = mat n m (put f a b v) := by
 rw [rd_mat ha, dlist_set hb, mat_set]
 rfl
def Bd (f : Nat → Nat → Int) (B : Int) : Prop := ∀ i j, -B ≤ f i j ∧ f i j ≤ B
theorem bd_put {f : Nat → Nat → Int} {B v : Int} {a b : Nat} (h : Bd f B) (hB : 0 ≤ B) (h0 : -(B + 1) ≤ v) (h1 : v ≤ B + 1) : Bd (put f a b v) (B + 1) := by
 intro i j
 have := h i j
 have := h a j
 unfold put upd
 by_cases e1 : i = a
 ·simp only [e1, if_true]
  by_cases e2 : j = b
  ·simp only [e2, if_true]; exact ⟨h0, h1⟩
  ·simp only [e2, if_false]; omega
 ·simp only [e1, if_false]; omega
theorem Bd.mono {f : Nat → Nat → Int} {B C : Int} (h : Bd f B) (hc : B ≤ C) : Bd f C := fun i j => by have := h i j; omega
theorem mat_inc {n m a b : Nat} {f : Nat → Nat → Int} {B : Int} (hB : Bd f B) (hs : B ≤ 1000) (ha : a < n) (hb : b < m) :
  (mat n m f).set a ((rd_L2 (mat n m f) (a : Int)).set b (wrap64 (rd (rd_L2 (mat n m f) (a : Int)) (b : Int) + 1))) = mat n m (put f a b (f a b + 1)) := by
 have h1 : rd (rd_L2 (mat n m f) (a : Int)) (b : Int) = f a b := by rw [rd_mat ha, rd_dlist hb]
 have := hB a b
 rw [mat_put ha hb, h1, wrap64_id (by omega) (by omega)]
theorem mat_dec {n m a b : Nat} {f : Nat → Nat → Int} {B : Int} (hB : Bd f B) (hs : B ≤ 1000) (ha : a < n) (hb : b < m) :
  (mat n m f).set a ((rd_L2 (mat n m f) (a : Int)).set b (wrap64 (rd (rd_L2 (mat n m f) (a : Int)) (b : Int) - 1))) = mat n m (put f a b (f a b - 1)) := by
 have h1 : rd (rd_L2 (mat n m f) (a : Int)) (b : Int) = f a b := by rw [rd_mat ha, rd_dlist hb]
 have := hB a b
 rw [mat_put ha hb, h1, wrap64_id (by omega) (by omega)]
def addE (f : Nat → Nat → Int) (a b : Nat) : Nat → Nat → Int := fun i j => f i j + (dl i a - dl i b) * (dl j a - dl j b)
theorem four_put (f : Nat → Nat → Int) (a b : Nat) :
  put (put (put (put f a a (f a a + 1)) b b (put f a a (f a a + 1) b b + 1)) a b (put (put f a a (f a a + 1)) b b (put f a a (f a a + 1) b b + 1) a b - 1)) b a
   (put (put (put f a a (f a a + 1)) b b (put f a a (f a a + 1) b b + 1)) a b (put (put f a a (f a a + 1)) b b (put f a a (f a a + 1) b b + 1) a b - 1) b a - 1) = addE f a b := by
 funext i j
 unfold addE put upd dl
 by_cases e : a = b
 ·subst e
  by_cases e1 : i = a
  ·subst e1
   by_cases e2 : j = i
   ·subst e2; simp
   ·simp [e2]
  ·simp [e1]
 ·have e' : ¬ b = a := fun h => e h.symm
  by_cases e1 : i = a
  ·subst e1
   by_cases e2 : j = i
   ·subst e2; simp [e, e']
   ·by_cases e3 : j = b
    ·subst e3; simp [e, e']; omega
    ·simp [e, e', e2, e3]
  ·by_cases e4 : i = b
   ·subst e4
    by_cases e2 : j = a
    ·subst e2; simp [e, e']; omega
    ·by_cases e3 : j = i
     ·subst e3; simp [e, e']
     ·simp [e, e', e2, e3]
   ·simp [e1, e4]
theorem pm_succ (e : Nat → Nat × Nat) (g : Nat) (P : Nat → Nat) (U : Nat → Bool) : pm e (g + 1) P U = if U g = true then addE (pm e g P U) (P (e g).1) (P (e g).2) else pm e g P U := by
 funext i j
 unfold pm addE
 simp only [sumTo]
 by_cases h : U g = true
 ·rw [if_pos h, if_pos h]
 ·rw [if_neg h, if_neg h]; omega
theorem dl_small (i a b : Nat) : dl i a - dl i b = -1 ∨ dl i a - dl i b = 0 ∨ dl i a - dl i b = 1 := by
 unfold dl
 split <;> split <;> simp
theorem pm_bd (e : Nat → Nat × Nat) (P : Nat → Nat) (U : Nat → Bool) : ∀ g : Nat, Bd (pm e g P U) g
 | 0 => fun i j => by unfold pm; simp [sumTo]
 | g + 1 => by
  intro i j
  have := pm_bd e P U g i j
  rw [pm_succ]
  split
  ·unfold addE
   rcases dl_small i (P (e g).1) (P (e g).2) with h1 | h1 | h1 <;> rcases dl_small j (P (e g).1) (P (e g).2) with h2 | h2 | h2 <;> rw [h1, h2] <;> omega
  ·omega
theorem pm_same {e : Nat → Nat × Nat} {g : Nat} {P : Nat → Nat} {U : Nat → Bool} (h : P (e g).1 = P (e g).2) : pm e (g + 1) P U = pm e g P U := by
 rw [pm_succ]
 split
 ·funext i j
  unfold addE
  rw [h]
  simp
 ·rfl
def minorL (m : List (List Int)) (r : Nat) : List (List Int) := (m.eraseIdx r).map fun row => row.eraseIdx r
theorem minor_snoc (l : List (List Int)) (x : List Int) (r : Nat) : minorL (l ++ [x]) r = if r = l.length then l.map (fun row => row.eraseIdx r) else minorL l r ++ [x.eraseIdx r] := by
 unfold minorL
 rcases Nat.lt_trichotomy r l.length with h | h | h
 ·rw [if_neg (by omega), List.eraseIdx_append_of_lt_length h, List.map_append]; rfl
 ·rw [if_pos h, List.eraseIdx_append_of_length_le (by omega), h, Nat.sub_self]; simp
 ·rw [if_neg (by omega), List.eraseIdx_append_of_length_le (by omega), List.eraseIdx_of_length_le (by omega : l.length ≤ r), List.eraseIdx_of_length_le (show [x].length ≤ r - l.length by simp; omega), List.map_append]
  rfl
theorem minor_len_le (l : List (List Int)) (r : Nat) : (minorL l r).length ≤ l.length := by
 unfold minorL
 rw [List.length_map, List.length_eraseIdx]
 split <;> omega
theorem without_l0 (m : List (List Int)) (r : Nat) (hm : m.length ≤ 1048576) (hrow : ∀ row ∈ m, r < row.length ∧ row.length ≤ 1048576) : ∀ (d i : Nat), i + d = m.length →
  Ev (fun k => impl_without.l0 k r (minorL (m.take i) r) m (m.length : Int) i) (minorL m r)
 | 0, i, hd => by
  refine Ev.step (fun _ => impl_without.l0.eq_2 ..) (Ev.ff (by omega) (Ev.ret ?_))
  rw [List.take_of_length_le (by omega)]
 | d + 1, i, hd => by
  have hi : i < m.length := by omega
  have ht : m.take (i + 1) = m.take i ++ [m[i]] := by rw [List.take_succ_eq_append_getElem hi]
  have hl : (m.take i).length = i := by rw [List.length_take]; omega
  have hle := minor_len_le (m.take i) r
  obtain ⟨q1, q2⟩ := hrow _ (List.getElem_mem hi)
  have ih := without_l0 m r hm hrow d (i + 1) (by omega)
  rw [ht, minor_snoc, hl] at ih
  refine Ev.step (fun _ => impl_without.l0.eq_2 ..) (Ev.tt (by omega) (Ev.tt (by omega) (Ev.tt (by omega) ?_)))
  rw [wsucc (by omega)]
  refine Ev.ite (fun e => ?_) (fun e => ?_)
  ·have er : r = i := by omega
   rw [if_pos er] at ih
   have : minorL (m.take i) r = (m.take i).map fun row => row.eraseIdx r := by
    unfold minorL
    rw [List.eraseIdx_of_length_le (by omega)]
   rw [this]
   exact ih
  ·rw [if_neg (by omega)] at ih
   have hdel : slices_Delete_int_int.f (rd_L2 m (i : Int)) (r : Int) (wrap64 ((r : Int) + 1)) = some (m[i].eraseIdx r) := by
    rw [rdL_get hi, wsucc (by omega)]
    unfold slices_Delete_int_int.f
    rw [if_pos ⟨by omega, by omega, by omega, by omega⟩]
    congr 1
    rw [Int.toNat_natCast, Int.toNat_natCast, ← List.eraseIdx_eq_take_drop_succ]
   exact Ev.bnd0 hdel (Ev.tt (by omega) ih)
theorem without_ev (m : List (List Int)) (r : Nat) (hm : m.length ≤ 1048576) (hrow : ∀ row ∈ m, r < row.length ∧ row.length ≤ 1048576) : Ev (fun k => impl_without.f k m r) (minorL m r) := by
 unfold impl_without.f
 have := without_l0 m r hm hrow m.length 0 (by omega)
 rwa [List.take_zero, show minorL [] r = [] by simp [minorL]] at this
theorem dlist_erase0 (n : Nat) (D : Nat → Int) : (dlist (n + 1) D).eraseIdx 0 = dlist n fun i => D (i + 1) := by
 unfold dlist
 rw [List.range_succ_eq_map]
 simp [Function.comp_def]
theorem minor_mat0 {n : Nat} {f : Nat → Nat → Int} : minorL (mat (n + 1) (n + 1) f) 0 = mat n n fun i j => f (i + 1) (j + 1) := by
 unfold minorL mat
 rw [List.range_succ_eq_map]
 simp only [List.map_cons, List.eraseIdx_zero, List.tail_cons, List.map_map]
 refine List.map_congr_left fun i _ => ?_
 have := dlist_erase0 n (f (i + 1))
 rwa [List.eraseIdx_zero] at this
theorem sumTo_place {n s : Nat} {F G : Nat → Int} (h : ∀ k, k < n → s.testBit k = true → G (pop k s) = F k) : sumTo n (fun k => if s.testBit k then F k else 0) = sumTo (pop n s) G := by
 induction n with
 | zero => rfl
 | succ n ih =>
  simp only [sumTo, pop]
  rw [ih fun k hk hb => h k (by omega) hb]
  cases hb : s.testBit n
  ·simp
  ·simp only [if_true, Bool.toNat_true, sumTo]
   rw [h n (by omega) hb]
theorem above_pop {n s k : Nat} (hk : k < n) (hs : s < 2 ^ n) (hb : s.testBit k = true) : above n s k + pop k s + 1 = pop n s := by
 have h1 : pop n s = pop (k + 1) s + pop (n - (k + 1)) (s / 2 ^ (k + 1)) := by
  have := pop_add (k + 1) (n - (k + 1)) s
  rwa [show k + 1 + (n - (k + 1)) = n by omega] at this
 have h2 : above n s k = pop (n - (k + 1)) (s / 2 ^ (k + 1)) := by
  unfold above
  exact pop_big (Nat.div_lt_of_lt_mul (by rw [← Nat.pow_add]; exact Nat.lt_of_lt_of_le hs (Nat.pow_le_pow_right (by decide) (by omega)))) (by omega)
 simp only [pop, hb, Bool.toNat_true] at h1
 omega
theorem pop_del_lt {s k j : Nat} (h : j ≤ k) : pop j (del s k) = pop j s := pop_congr fun i hi => by rw [testBit_del]; simp; omega
theorem pop_mono {m n s : Nat} (h : m ≤ n) : pop m s ≤ pop n s := by
 obtain ⟨d, rfl⟩ := Nat.exists_eq_add_of_le h
 rw [pop_add]; omega
theorem Ds_dt (a : Nat → Nat → Int) (n : Nat) : ∀ (r s : Nat) (B : Nat → Nat → Int), s < 2 ^ n → pop n s = r → (∀ k, k < n → s.testBit k = true → ∀ c, B (pop k s) c = a c k) → Ds a n s = dt r B
 | 0, s, B, hs, hr, hB => by unfold Ds; rw [hr]; rfl
 | r + 1, s, B, hs, hr, hB => by
  rw [Ds_sum (by omega)]
  simp only [dt]
  rw [← hr]
  refine sumTo_place fun k hk hb => ?_
  have h1 := above_pop hk hs hb
  have h2 := pop_del hk hb
  unfold term
  rw [hB k hk hb, show pop n s - 1 = r by omega, show above n s k = r - pop k s by omega]
  rw [Ds_dt a n r (del s k) (er (pop k s) B) (Nat.lt_of_le_of_lt (del_le s k) hs) (by omega)]
  intro j hj hbj c
  rw [testBit_del] at hbj
  simp only [Bool.and_eq_true, decide_eq_true_eq] at hbj
  unfold er
  by_cases e : j < k
  ·have h3 : pop (j + 1) s ≤ pop k s := pop_mono (by omega)
   simp only [pop, hbj.1, Bool.toNat_true] at h3
   rw [pop_del_lt (by omega), if_pos (by omega)]
   exact hB j hj hbj.1 c
  ·have h3 := pop_del (n := j) (show k < j by omega) hb
   have h4 : pop (k + 1) s ≤ pop j s := pop_mono (by omega)
   simp only [pop, hb, Bool.toNat_true] at h4
   rw [if_neg (by omega), show pop j (del s k) + 1 = pop j s by omega]
   exact hB j hj hbj.1 c
theorem pop_all {n s : Nat} (h : ∀ i, i < n → s.testBit i = true) : pop n s = n := by
 induction n with
 | zero => rfl
 | succ n ih => simp only [pop]; rw [ih fun i hi => h i (by omega), h n (by omega)]; rfl
theorem Ds_full (a : Nat → Nat → Int) (n : Nat) : Ds a n (2 ^ n - 1) = dt n a := by
 have hp : 0 < 2 ^ n := Nat.two_pow_pos n
 rw [Ds_dt a n n (2 ^ n - 1) (tr a) (by omega) (pop_full n), dt_tr]
 intro k hk hb c
 rw [pop_all fun i hi => by rw [Nat.testBit_two_pow_sub_one]; simp; omega]
 rfl
theorem setB_false_sub {n j i : Nat} (h : (setB n j false).testBit i = true) : n.testBit i = true := by
 rw [testBit_setB] at h
 split at h
 ·cases h
 ·exact h
theorem setB_false_mono {n m j i : Nat} (hs : ∀ i, m.testBit i = true → n.testBit i = true) (h : (setB m j false).testBit i = true) : (setB n j false).testBit i = true := by
 rw [testBit_setB] at h ⊢
 split at h
 ·cases h
 ·rename_i hne
  rw [if_neg hne]
  exact hs i h
theorem bridges_forest {e : Nat → Nat × Nat} {V E : Nat} (hG : Gr e V E) : ∀ p n, pop E n = p → n < 2 ^ E → (∀ j, j < E → n.testBit j = true → ¬ Cn e (setB n j false) (e j).1 (e j).2) → pop E n + parts e V E n = V := by
 intro p
 induction p using Nat.strongRecOn with
 | _ p ih =>
  intro n hp hn hb
  by_cases he : ∃ g, g < E ∧ n.testBit g = true
  ·obtain ⟨g, hg, hbg⟩ := he
   have hlt : setB n g false < 2 ^ E := setB_lt _ hn hg
   have p1 := pop_setB (m := E) (n := setB n g false) hg (setB_bit n g false)
   rw [setB_off_on hbg] at p1
   have p2 := (parts_add (v := V) hlt hg (hG g hg).1 (hG g hg).2).2 (hb g hg hbg)
   rw [setB_off_on hbg] at p2
   have := ih (pop E (setB n g false)) (by omega) _ rfl hlt (fun j hj hbj hc => hb j hj (setB_false_sub hbj) (Cn.mono (fun i hi => setB_false_mono (fun i hi => setB_false_sub hi) hi) hc))
   omega
  ·have h0 : n = 0 := by
    refine Nat.eq_of_testBit_eq fun i => ?_
    rw [Nat.zero_testBit]
    cases hbi : n.testBit i
    ·rfl
    ·exact absurd ⟨i, lt_of_testBit hn hbi, hbi⟩ he
   subst h0
   have : ∀ m, pop m 0 = 0 := by
    intro m
    induction m with
    | zero => rfl
    | succ m ih => simp only [pop, Nat.zero_testBit, ih]; rfl
   rw [this, parts_zero, Nat.zero_add]
end Go.Proofs.Ytoohcdfokejkdaa.P
namespace Go.Proofs.Ytoohcdfokejkdaa.P
open Go.RowKit Go.Proofs.YtoohcdfokejkdaaW.PrintWords
set_option linter.unusedVariables false
set_option linter.unusedSimpArgs false

section
variable {e : Nat → Nat × Nat} {V E : Nat}
theorem forest_sub (hG : Gr e V E) {c t : Nat} (ht : t < 2 ^ E) (hc : c < 2 ^ E) (hf : pop E t + parts e V E t = V) (hs : ∀ i, c.testBit i = true → t.testBit i = true) : pop E c + parts e V E c = V := by
 refine bridges_forest hG _ c rfl hc fun j hj hb hcn => ?_
 refine bridge_of_forest hG ht hf (hs j hb) (hcn.mono fun i hi => ?_)
 rw [testBit_setB] at hi ⊢
 by_cases h : i = j
 ·rw [if_pos h] at hi; cases hi
 ·rw [if_neg h] at hi ⊢; exact hs i hi
theorem cnt_ex {p : Nat → Bool} {n : Nat} (h : 0 < cnt p n) : ∃ i, i < n ∧ p i = true := by
 apply Classical.byContradiction
 intro hn
 have : cnt p n = 0 := cnt_zero_iff.2 fun i hi => by
  cases hp : p i
  ·rfl
  ·exact absurd ⟨i, hi, hp⟩ hn
 omega
theorem trees_ex {c b : Nat} (h : 0 < trees e V E c b) : ∃ t, t < 2 ^ E ∧ sup E c b t = true ∧ perf e V E t = true := by
 obtain ⟨t, ht, hp⟩ := cnt_ex h
 rw [Bool.and_eq_true] at hp
 exact ⟨t, ht, hp⟩
theorem trees_le (c b : Nat) : trees e V E c b ≤ 2 ^ E := cnt_le _ _
theorem trees_loops (hG : Gr e V E) {c b : Nat} (hc : c < 2 ^ E) (hf : ¬ pop E c + parts e V E c = V) : trees e V E c b = 0 := by
 rcases Nat.eq_zero_or_pos (trees e V E c b) with h | h
 ·exact h
 ·obtain ⟨t, ht, hs, hp⟩ := trees_ex h
  rw [perf_iff] at hp
  refine absurd (forest_sub hG ht hc (by omega) fun i hi => ?_) hf
  exact (sup_iff.1 hs i (lt_of_testBit hc hi)).1 hi
structure Dec (E d c b : Nat) : Prop where
 cl : c < 2 ^ E
 bl : b < 2 ^ E
 dis : ∀ i, c.testBit i = true → b.testBit i = false
 done : ∀ i, i < E - d → c.testBit i = false → b.testBit i = true
 todo : ∀ i, E - d ≤ i → c.testBit i = false ∧ b.testBit i = false
theorem Dec.start : Dec E E 0 0 := ⟨Nat.two_pow_pos E, Nat.two_pow_pos E, fun i h => by simp at h, fun i h => by omega, fun i _ => by simp⟩
theorem Dec.on {d c b : Nat} (h : Dec E (d + 1) c b) (hd : d + 1 ≤ E) : Dec E d (setB c (E - (d + 1)) true) b where
 cl := setB_lt true h.cl (by omega)
 bl := h.bl
 dis := fun i hi => by
  rw [testBit_setB] at hi
  split at hi
  ·rename_i e1; rw [e1]; exact (h.todo _ (Nat.le_refl _)).2
  ·exact h.dis i hi
 done := fun i hi hc => by
  rw [testBit_setB] at hc
  split at hc
  ·cases hc
  ·exact h.done i (by omega) hc
 todo := fun i hi => by
  rw [testBit_setB, if_neg (by omega)]
  exact h.todo i (by omega)
theorem Dec.off {d c b : Nat} (h : Dec E (d + 1) c b) (hd : d + 1 ≤ E) : Dec E d c (setB b (E - (d + 1)) true) where
 cl := h.cl
 bl := setB_lt true h.bl (by omega)
 dis := fun i hi => by
  rw [testBit_setB]
  split
  ·rename_i e1; rw [e1, (h.todo _ (Nat.le_refl _)).1] at hi; cases hi
  ·exact h.dis i hi
 done := fun i hi hc => by
  rw [testBit_setB]
  split
  ·rfl
  ·exact h.done i (by omega) hc
 todo := fun i hi => by
  rw [testBit_setB, if_neg (by omega)]
  exact h.todo i (by omega)
theorem Dec.und {d c b : Nat} (h : Dec E (d + 1) c b) : und c b (E - (d + 1)) = true := by
 unfold P.und
 rw [(h.todo _ (Nat.le_refl _)).1, (h.todo _ (Nat.le_refl _)).2]
 rfl
theorem Dec.split {d c b : Nat} (h : Dec E (d + 1) c b) (hd : d + 1 ≤ E) : trees e V E c b = trees e V E (setB c (E - (d + 1)) true) b + trees e V E c (setB b (E - (d + 1)) true) := trees_split (by omega) h.und
end
end Go.Proofs.Ytoohcdfokejkdaa.P
namespace Go.Proofs.Ytoohcdfokejkdaa.P
open Go.RowKit Go.Proofs.YtoohcdfokejkdaaW.PrintWords
set_option linter.unusedVariables false
set_option linter.unusedSimpArgs false

theorem filter_head {p : Nat → Bool} {m v : Nat} (hm : m < v) (hp : p m = true) (h : ∀ i, i < m → p i = false) : ∃ t, (List.range v).filter p = m :: t := by
 obtain ⟨d, rfl⟩ : ∃ d, v = m + (d + 1) := ⟨v - m - 1, by omega⟩
 rw [List.range_add, List.filter_append]
 have h1 : (List.range m).filter p = [] := by
  rw [List.filter_eq_nil_iff]
  intro a ha
  rw [h a (List.mem_range.1 ha)]
  simp
 rw [h1, List.nil_append, List.range_succ_eq_map, List.map_cons, Nat.add_zero, List.filter_cons, if_pos hp]
 exact ⟨_, rfl⟩
def reachN (w h : Int) (n s : Nat) : List Nat := (List.range (cellsN w h)).filter fun c => decide (0 ≤ distN w h n s c)
def labN (w h : Int) (n c : Nat) : Nat := lab (ends w h) n (gapsN w h) c
theorem reachN_head {w h : Int} {n s : Nat} (hn : n < 2 ^ gapsN w h) (hs : s < cellsN w h) : ∃ t, reachN w h n s = labN w h n s :: t := by
 have hle := lab_le (ends w h) n (gapsN w h) s
 refine filter_head (show labN w h n s < cellsN w h by unfold labN; omega) ?_ ?_
 ·rw [decide_eq_true_eq, distN_cn hn hs]
  exact lab_cn hn s
 ·intro i hi
  rw [decide_eq_false_iff_not, distN_cn hn hs]
  intro hc
  have := lab_least hn hc
  unfold labN at hi
  omega
def partsN (w h : Int) (n : Nat) : Nat := parts (ends w h) (cellsN w h) (gapsN w h) n
theorem partsN_le (w h : Int) (n : Nat) : partsN w h n ≤ 16 := Nat.le_trans (cnt_le _ _) (cellsN_le w h)
def perfN (w h : Int) (n : Nat) : Bool := perf (ends w h) (cellsN w h) (gapsN w h) n
theorem cells_pos {w h : Int} (hg : gridOk w h = true) : 1 ≤ cellsN w h := by
 unfold cellsN cellsOf
 rw [if_pos hg]
 obtain ⟨h1 | h1 | h1 | h1, h2 | h2 | h2 | h2⟩ := grid_cases hg <;> subst h1 <;> subst h2 <;> decide
end Go.Proofs.Ytoohcdfokejkdaa.P
namespace Go.Proofs.Ytoohcdfokejkdaa.P
open Go.RowKit Go.Proofs.YtoohcdfokejkdaaW.PrintWords Go.Proofs.Ytoohcdfokejkdaa.Sup
set_option linter.unusedVariables false
set_option linter.unusedSimpArgs false

theorem impl_isIn_one (w h o c : Int) : impl_isIn.f w h o [c] = some (mazeOk w h o && isCellI w h c) := by
 unfold impl_isIn.f
 rw [impl_MazeOk_eq, Option.bind_some]
 cases hm : mazeOk w h o
 ·simp
 ·rw [if_pos rfl]
  simp [impl_isCell_eq]
theorem spec_l04Has_eq (w h o c : Int) : spec_l04Has.f w h o c = some (mazeOk w h o && isCellI w h c) := by
 have hr := cellsOf_range w h
 unfold spec_l04Has.f isCellI
 rw [spec_MazeOk_eq, Option.bind_some]
 cases hm : mazeOk w h o
 ·simp
 ·rw [if_pos rfl, spec_CountCells_eq, Option.bind_some, wrap64_id (by omega) (by omega), l01In_eq, Option.bind_some]
  simp only [Bool.true_and]
  congr 1
  rw [decide_eq_decide]
  omega
end Go.Proofs.Ytoohcdfokejkdaa.P
namespace Go.Proofs.Ytoohcdfokejkdaa.P
open Go.RowKit Go.Proofs.YtoohcdfokejkdaaW.PrintWords
set_option linter.unusedVariables false
set_option linter.unusedSimpArgs false

def run (i d : Nat) : List Int := (List.range d).map fun t => ((i + t : Nat) : Int)
theorem run_succ (i d : Nat) : run i (d + 1) = (i : Int) :: run (i + 1) d := by
 simp only [run, List.range_succ_eq_map, List.map_cons, List.map_map, Nat.add_zero]
 congr 1
 apply List.map_congr_left
 intro t _
 simp only [Function.comp, Nat.succ_eq_add_one]
 congr 1
 omega
theorem mem_run {i d : Nat} {x : Int} : x ∈ run i d ↔ (i : Int) ≤ x ∧ x < ((i + d : Nat) : Int) := by
 simp only [run, List.mem_map, List.mem_range]
 constructor
 ·rintro ⟨t, ht, rfl⟩
  omega
 ·intro ⟨h1, h2⟩
  exact ⟨(x - i).toNat, by omega, by omega⟩
theorem upTo_l0 (n : Nat) (hn : n ≤ 1000000) : ∀ (d i : Nat) (out : List Int), n - i = d → i ≤ n → out.length ≤ i → Ev (fun k => impl_upTo.l0 k n out i) (out ++ run i d)
 | 0, i, out, hd, hi, ho => by
  refine Ev.step (fun _ => impl_upTo.l0.eq_2 ..) (Ev.ff (by omega) (Ev.ret ?_))
  simp [run]
 | d + 1, i, out, hd, hi, ho => by
  refine Ev.step (fun _ => impl_upTo.l0.eq_2 ..) (Ev.tt (by omega) (Ev.tt (by omega) ?_))
  rw [wsucc (by omega), run_succ]
  have := upTo_l0 n hn d (i + 1) (out ++ [(i : Int)]) (by omega) (by omega) (by simp; omega)
  simpa using this
theorem impl_upTo_ev (n : Nat) (hn : n ≤ 1000000) : Ev (fun k => impl_upTo.f k n) (run 0 n) := by
 unfold impl_upTo.f
 have := upTo_l0 n hn n 0 [] (by omega) (by omega) (by simp)
 simpa using this
end Go.Proofs.Ytoohcdfokejkdaa.P
namespace Go.Proofs.Ytoohcdfokejkdaa.P
open Go.RowKit Go.Proofs.YtoohcdfokejkdaaW.PrintWords
set_option linter.unusedVariables false
set_option linter.unusedSimpArgs false

theorem run_zero (v : Nat) : run 0 v = ints (List.range v) := by
 unfold run ints
 exact List.map_congr_left fun t _ => by omega
theorem isCellI_nat {w h : Int} {c : Nat} (hc : c < cellsN w h) : isCellI w h c = true := by
 have := cellsN_cast w h
 unfold isCellI
 rw [decide_eq_true_eq]; omega
section
variable {w h : Int} {n : Nat} (hg : gridOk w h = true) (hn : n < 2 ^ gapsN w h)
include hg hn
theorem mazeOk_nat : mazeOk w h n = true := mazeOk_iff.2 ⟨hg, n, rfl, hn⟩
theorem impl_Reached_ev {s : Nat} (hs : s < cellsN w h) : Ev (fun k => impl_Reached.f k w h n s) (ints (reachN w h n s)) := by
 have h16 := cellsN_le w h
 unfold impl_Reached.f
 refine Ev.bnd0 (impl_isIn_one w h n s) (Ev.tt (by rw [mazeOk_nat hg hn, isCellI_nat hs]; rfl) ?_)
 refine Ev.bind (impl_distances_ev hg hn hs) ?_
 rw [dlist_length]
 refine Ev.bind (impl_upTo_ev _ (by omega)) (Ev.tt ?_ (Ev.ret ?_))
 ·rw [List.all_eq_true]
  intro c hc
  have := mem_run.1 hc
  rw [decide_eq_true_eq]
  omega
 ·rw [run_zero]
  unfold reachN ints
  rw [List.filter_map]
  congr 1
  refine List.filter_congr fun c hc => ?_
  rw [List.mem_range] at hc
  simp only [Function.comp]
  rw [rd_dlist hc]
  by_cases h1 : distN w h n s c < 0
  ·rw [decide_eq_true h1, decide_eq_false (show ¬ 0 ≤ distN w h n s c by omega)]; rfl
  ·rw [decide_eq_false h1, decide_eq_true (show 0 ≤ distN w h n s c by omega)]; rfl
omit hg hn in
theorem spec_reach_l0 {s : Nat} : ∀ (d i : Nat) (out : List Nat), i + d = cellsN w h → out.length ≤ i →
  Ev (fun k => spec_Reached.l0 k (ints out) (dlist (cellsN w h) (distN w h n s)) i) (ints (out ++ ((List.range d).map (i + ·)).filter fun c => decide (0 ≤ distN w h n s c)))
 | 0, i, out, hd, ho => by
  refine Ev.step (fun _ => spec_Reached.l0.eq_2 ..) (Ev.ff (by rw [dlist_length]; omega) (Ev.ret ?_))
  simp
 | d + 1, i, out, hd, ho => by
  have h16 := cellsN_le w h
  refine Ev.step (fun _ => spec_Reached.l0.eq_2 ..) (Ev.tt (by rw [dlist_length]; omega) (Ev.tt (by omega) ?_))
  rw [rd_dlist (by omega), wsucc (by omega), List.range_succ_eq_map, List.map_cons, List.map_map, List.filter_cons, Nat.add_zero]
  have hmap : List.map ((fun x => i + x) ∘ Nat.succ) (List.range d) = List.map (fun x => i + 1 + x) (List.range d) := List.map_congr_left fun x _ => by simp only [Function.comp]; omega
  rw [hmap]
  refine Ev.ite (fun h1 => Ev.tt (by rw [ints_length]; omega) ?_) (fun h1 => ?_)
  ·rw [if_pos (by simpa using h1), ← ints_app]
   have := spec_reach_l0 (s := s) d (i + 1) (out ++ [i]) (by omega) (by simp; omega)
   simpa using this
  ·rw [if_neg (by simpa using h1)]
   exact spec_reach_l0 d (i + 1) out (by omega) (by omega)
theorem spec_Reached_ev {s : Nat} (hs : s < cellsN w h) : Ev (fun k => spec_Reached.f k w h n s) (ints (reachN w h n s)) := by
 unfold spec_Reached.f
 refine Ev.bnd0 rfl (Ev.bnd0 (spec_l04Has_eq w h n s) (Ev.tt (by rw [mazeOk_nat hg hn, isCellI_nat hs]; rfl) ?_))
 refine Ev.bind (spec_distances_ev hg hn hs) ?_
 have := spec_reach_l0 (w := w) (h := h) (n := n) (s := s) (cellsN w h) 0 [] (by omega) (by simp)
 have e : ([] ++ ((List.range (cellsN w h)).map (0 + ·)).filter fun c => decide (0 ≤ distN w h n s c)) = reachN w h n s := by
  unfold reachN
  rw [List.nil_append]
  congr 1
  have : ∀ l : List Nat, l.map (0 + ·) = l := fun l => by
   induction l with
   | nil => rfl
   | cons a t ih => simp
  exact this _
 rw [e] at this
 exact this
omit hg hn in
theorem head_is {s : Nat} (hn : n < 2 ^ gapsN w h) (hs : s < cellsN w h) : 0 < ((ints (reachN w h n s)).length : Int) ∧ rd (ints (reachN w h n s)) 0 = labN w h n s := by
 obtain ⟨t, ht⟩ := reachN_head hn hs
 rw [ht]
 exact ⟨by simp [ints], rfl⟩
theorem impl_parts_l0 : ∀ (d c m : Nat), c + d = cellsN w h → m ≤ c → Ev (fun k => impl_CountParts.l0 k m c w h n) (((m + (cnt (fun i => labN w h n i == i) (cellsN w h) - cnt (fun i => labN w h n i == i) c) : Nat)) : Int)
 | 0, c, m, hd, hm => by
  have hcast := cellsN_cast w h
  refine Ev.step (fun _ => impl_CountParts.l0.eq_2 ..) (Ev.bnd0 (impl_isIn_one w h n c) (Ev.ff ?_ (Ev.ret ?_)))
  ·have : isCellI w h c = false := by unfold isCellI; rw [decide_eq_false_iff_not]; omega
   rw [this]; simp
  ·rw [show c = cellsN w h by omega, Nat.sub_self, Nat.add_zero]
 | d + 1, c, m, hd, hm => by
  have h16 := cellsN_le w h
  have hcv : c < cellsN w h := by omega
  obtain ⟨e1, e2⟩ := head_is hn hcv
  refine Ev.step (fun _ => impl_CountParts.l0.eq_2 ..) (Ev.bnd0 (impl_isIn_one w h n c) (Ev.tt (by rw [mazeOk_nat hg hn, isCellI_nat hcv]; rfl) ?_))
  refine Ev.bind (impl_Reached_ev hg hn hcv) (Ev.tt e1 ?_)
  rw [e2, wsucc (by omega), wsucc (by omega)]
  have hle : cnt (fun i => labN w h n i == i) (c + 1) ≤ cnt (fun i => labN w h n i == i) (cellsN w h) := by
   obtain ⟨x, hx⟩ := Nat.exists_eq_add_of_le (show c + 1 ≤ cellsN w h by omega)
   rw [hx]
   have : ∀ x, cnt (fun i => labN w h n i == i) (c + 1) ≤ cnt (fun i => labN w h n i == i) (c + 1 + x) := by
    intro x
    induction x with
    | zero => exact Nat.le_refl _
    | succ x ih => rw [← Nat.add_assoc]; simp only [cnt]; simp only [cnt] at ih; omega
   exact this x
  simp only [cnt] at hle
  refine Ev.ite (fun h1 => ?_) (fun h1 => ?_)
  ·refine Ev.eq (impl_parts_l0 d (c + 1) (m + 1) (by omega) (by omega)) ?_
   have : (labN w h n c == c) = true := by rw [beq_iff_eq]; omega
   simp only [cnt, this, Bool.toNat_true] at hle ⊢
   omega
  ·refine Ev.eq (impl_parts_l0 d (c + 1) m (by omega) (by omega)) ?_
   have : (labN w h n c == c) = false := by rw [beq_eq_false_iff_ne]; omega
   simp only [cnt, this, Bool.toNat_false] at hle ⊢
   omega
theorem impl_CountParts_ev : Ev (fun k => impl_CountParts.f k w h n) (partsN w h n : Int) := by
 unfold impl_CountParts.f
 refine Ev.eq (impl_parts_l0 hg hn (cellsN w h) 0 0 (by omega) (by omega)) ?_
 simp only [cnt, Nat.zero_add, Nat.sub_zero]
 rfl
theorem spec_parts_l0 : ∀ (d c m : Nat), c + d = cellsN w h → m ≤ c → Ev (fun k => spec_CountParts.l0 k m c w h n) (((m + (cnt (fun i => labN w h n i == i) (cellsN w h) - cnt (fun i => labN w h n i == i) c) : Nat)) : Int)
 | 0, c, m, hd, hm => by
  have hcast := cellsN_cast w h
  refine Ev.step (fun _ => spec_CountParts.l0.eq_2 ..) (Ev.bnd0 (spec_CountCells_eq w h) (Ev.ff (by omega) ?_))
  refine Ev.step (fun _ => spec_CountParts.j1.eq_2 ..) (Ev.ff (by decide) (Ev.ret ?_))
  rw [show c = cellsN w h by omega, Nat.sub_self, Nat.add_zero]
 | d + 1, c, m, hd, hm => by
  have h16 := cellsN_le w h
  have hcast := cellsN_cast w h
  have hcv : c < cellsN w h := by omega
  obtain ⟨e1, e2⟩ := head_is hn hcv
  refine Ev.step (fun _ => spec_CountParts.l0.eq_2 ..) (Ev.bnd0 (spec_CountCells_eq w h) (Ev.tt (by omega) (Ev.bnd0 (spec_MazeOk_eq w h n) ?_)))
  rw [mazeOk_nat hg hn]
  refine Ev.step (fun _ => spec_CountParts.j1.eq_2 ..) (Ev.tt rfl ?_)
  refine Ev.bind (spec_Reached_ev hg hn hcv) (Ev.tt e1 ?_)
  rw [e2, wsucc (by omega), wsucc (by omega)]
  have hle : cnt (fun i => labN w h n i == i) (c + 1) ≤ cnt (fun i => labN w h n i == i) (cellsN w h) := by
   obtain ⟨x, hx⟩ := Nat.exists_eq_add_of_le (show c + 1 ≤ cellsN w h by omega)
   rw [hx]
   have : ∀ x, cnt (fun i => labN w h n i == i) (c + 1) ≤ cnt (fun i => labN w h n i == i) (c + 1 + x) := by
    intro x
    induction x with
    | zero => exact Nat.le_refl _
    | succ x ih => rw [← Nat.add_assoc]; simp only [cnt]; simp only [cnt] at ih; omega
   exact this x
  simp only [cnt] at hle
  refine Ev.ite (fun h1 => ?_) (fun h1 => ?_)
  ·refine Ev.eq (spec_parts_l0 d (c + 1) (m + 1) (by omega) (by omega)) ?_
   have : (labN w h n c == c) = true := by rw [beq_iff_eq]; omega
   simp only [cnt, this, Bool.toNat_true] at hle ⊢
   omega
  ·refine Ev.eq (spec_parts_l0 d (c + 1) m (by omega) (by omega)) ?_
   have : (labN w h n c == c) = false := by rw [beq_eq_false_iff_ne]; omega
   simp only [cnt, this, Bool.toNat_false] at hle ⊢
   omega
theorem spec_CountParts_ev : Ev (fun k => spec_CountParts.f k w h n) (partsN w h n : Int) := by
 unfold spec_CountParts.f
 refine Ev.eq (spec_parts_l0 hg hn (cellsN w h) 0 0 (by omega) (by omega)) ?_
 simp only [cnt, Nat.zero_add, Nat.sub_zero]
 rfl
end
theorem impl_CountParts_bad {w h o : Int} (hm : mazeOk w h o = false) : Ev (fun k => impl_CountParts.f k w h o) 0 := by
 unfold impl_CountParts.f
 exact Ev.step (fun _ => impl_CountParts.l0.eq_2 ..) (Ev.bnd0 (impl_isIn_one w h o 0) (Ev.ff (by rw [hm]; simp) (Ev.ret rfl)))
theorem spec_CountParts_bad {w h o : Int} (hm : mazeOk w h o = false) : Ev (fun k => spec_CountParts.f k w h o) 0 := by
 unfold spec_CountParts.f
 have hj : Ev (fun k => spec_CountParts.j1 k 0 0 false w h o) 0 := Ev.step (fun _ => spec_CountParts.j1.eq_2 ..) (Ev.ff (by decide) (Ev.ret rfl))
 refine Ev.step (fun _ => spec_CountParts.l0.eq_2 ..) (Ev.bnd0 (spec_CountCells_eq w h) (Ev.ite (fun _ => Ev.bnd0 (spec_MazeOk_eq w h o) ?_) (fun _ => hj)))
 rw [hm]; exact hj
end Go.Proofs.Ytoohcdfokejkdaa.P
namespace Go.Proofs.Ytoohcdfokejkdaa.P
open Go.RowKit Go.Proofs.YtoohcdfokejkdaaW.PrintWords
set_option linter.unusedVariables false
set_option linter.unusedSimpArgs false

theorem cnt_len (p : Nat → Bool) {a b : Nat} (h : a ≤ b) : cnt p a ≤ cnt p b := by
 obtain ⟨x, rfl⟩ := Nat.exists_eq_add_of_le h
 induction x with
 | zero => exact Nat.le_refl _
 | succ x ih => rw [← Nat.add_assoc]; simp only [cnt]; have := ih (by omega); omega
theorem pop_cnt (n k : Nat) : pop k n = cnt n.testBit k := by
 induction k with
 | zero => rfl
 | succ k ih => simp only [pop, cnt]; rw [ih]
theorem shift_count {p : Nat → Bool} {c v m : Nat} (hc : c < v) : m + (p c).toNat + (cnt p v - cnt p (c + 1)) = m + (cnt p v - cnt p c) := by
 have := cnt_len p (show c + 1 ≤ v by omega)
 simp only [cnt] at this ⊢
 omega
section
variable {w h : Int} {n : Nat} (hg : gridOk w h = true) (hn : n < 2 ^ gapsN w h)
include hg hn
theorem impl_CountPassages_eq : impl_CountPassages.f w h n = some (pop (gapsN w h) n : Int) := by
 have hs := open_small hn
 unfold impl_CountPassages.f
 rw [impl_MazeOk_eq, Option.bind_some, if_pos (mazeOk_nat hg hn), u64_small (by omega), ones_eq' (gapsN_le w h) hn, Option.bind_some]
theorem spec_passages_l0 : ∀ (d c m : Nat), c + d = gapsN w h → m ≤ c → Ev (fun k => spec_CountPassages.l0 k m c w h n) (((m + (cnt n.testBit (gapsN w h) - cnt n.testBit c) : Nat)) : Int)
 | 0, c, m, hd, hm => by
  have hcast := gapsN_cast w h
  refine Ev.step (fun _ => spec_CountPassages.l0.eq_2 ..) (Ev.bnd0 (spec_CountGaps_eq w h) (Ev.ff (by omega) ?_))
  refine Ev.step (fun _ => spec_CountPassages.j1.eq_2 ..) (Ev.ff (by decide) (Ev.ret ?_))
  rw [show c = gapsN w h by omega, Nat.sub_self, Nat.add_zero]
 | d + 1, c, m, hd, hm => by
  have hcast := gapsN_cast w h
  have h24 := gapsN_le w h
  have hs := open_small hn
  refine Ev.step (fun _ => spec_CountPassages.l0.eq_2 ..) (Ev.bnd0 (spec_CountGaps_eq w h) (Ev.tt (by omega) (Ev.bnd0 (spec_MazeOk_eq w h n) ?_)))
  rw [mazeOk_nat hg hn]
  refine Ev.step (fun _ => spec_CountPassages.j1.eq_2 ..) (Ev.tt rfl (Ev.bnd0 (spec_l03Bit_eq hs (by omega)) ?_))
  rw [openI_nat', wsucc (by omega), wsucc (by omega)]
  refine Ev.ite (fun h1 => ?_) (fun h1 => ?_)
  ·refine Ev.eq (spec_passages_l0 d (c + 1) (m + 1) (by omega) (by omega)) ?_
   rw [← shift_count (p := n.testBit) (c := c) (v := gapsN w h) (m := m) (by omega), h1]
   rfl
  ·refine Ev.eq (spec_passages_l0 d (c + 1) m (by omega) (by omega)) ?_
   rw [← shift_count (p := n.testBit) (c := c) (v := gapsN w h) (m := m) (by omega), Bool.eq_false_iff.2 h1]
   rfl
theorem spec_CountPassages_ev : Ev (fun k => spec_CountPassages.f k w h n) (pop (gapsN w h) n : Int) := by
 unfold spec_CountPassages.f
 refine Ev.eq (spec_passages_l0 hg hn (gapsN w h) 0 0 (by omega) (by omega)) ?_
 rw [pop_cnt]
 simp [cnt]
omit hn in
theorem perf_value : (if (decide (((partsN w h n : Nat) : Int) = 1)) = true then decide (((pop (gapsN w h) n : Nat) : Int) = wrap64 (cellsOf w h - 1)) else false) = perfN w h n := by
 have h16 := cellsN_le w h
 have hpos := cells_pos hg
 have hcast := cellsN_cast w h
 have hpop := pop_le (gapsN w h) n
 rw [wrap64_id (by omega) (by omega)]
 unfold perfN perf
 by_cases h1 : partsN w h n = 1
 ·have h1' := h1
  unfold partsN at h1'
  rw [h1, h1']
  simp only [Int.natCast_one, decide_true, if_true, true_and]
  rw [decide_eq_decide]
  omega
 ·have h1' := h1
  unfold partsN at h1'
  rw [if_neg (by simp; omega)]
  symm
  rw [decide_eq_false_iff_not]
  exact fun h2 => h1' h2.1
theorem impl_IsPerfect_ev : Ev (fun k => impl_IsPerfect.f k w h n) (perfN w h n) := by
 unfold impl_IsPerfect.f impl_IsConnected.f
 rw [← perf_value hg]
 refine Ev.bind (Ev.bind (impl_CountParts_ev hg hn) (Ev.ret rfl)) ?_
 refine Ev.ite (fun h1 => Ev.bnd0 (impl_CountPassages_eq hg hn) (Ev.bnd0 (impl_CountCells_eq w h) (Ev.ret ?_))) (fun h1 => Ev.ret ?_)
 ·rw [if_pos (by simpa using h1)]
  rw [Bool.eq_iff_iff]
  simp
 ·rw [if_neg (by simpa using h1)]
theorem spec_IsPerfect_ev : Ev (fun k => spec_IsPerfect.f k w h n) (perfN w h n) := by
 unfold spec_IsPerfect.f spec_IsConnected.f
 rw [← perf_value hg]
 refine Ev.bind (Ev.bind (spec_CountParts_ev hg hn) (Ev.ret rfl)) ?_
 refine Ev.ite (fun h1 => Ev.bind (spec_CountPassages_ev hg hn) (Ev.bnd0 (spec_CountCells_eq w h) (Ev.ret ?_))) (fun h1 => Ev.ret ?_)
 ·rw [if_pos (by simpa using h1)]
  rw [Bool.eq_iff_iff]
  simp
 ·rw [if_neg (by simpa using h1)]
end
def perfI (w h o : Int) : Bool := mazeOk w h o && perfN w h o.toNat
theorem impl_IsPerfect_all (w h o : Int) : Ev (fun k => impl_IsPerfect.f k w h o) (perfI w h o) := by
 unfold perfI
 by_cases hm : mazeOk w h o = true
 ·obtain ⟨hg, n, rfl, hn⟩ := mazeOk_iff.1 hm
  rw [hm]
  exact impl_IsPerfect_ev hg hn
 ·rw [Bool.eq_false_iff.2 hm]
  unfold impl_IsPerfect.f impl_IsConnected.f
  exact Ev.bind (Ev.bind (impl_CountParts_bad (Bool.eq_false_iff.2 hm)) (Ev.ret rfl)) (Ev.ff (by decide) (Ev.ret rfl))
theorem spec_IsPerfect_all (w h o : Int) : Ev (fun k => spec_IsPerfect.f k w h o) (perfI w h o) := by
 unfold perfI
 by_cases hm : mazeOk w h o = true
 ·obtain ⟨hg, n, rfl, hn⟩ := mazeOk_iff.1 hm
  rw [hm]
  exact spec_IsPerfect_ev hg hn
 ·rw [Bool.eq_false_iff.2 hm]
  unfold spec_IsPerfect.f spec_IsConnected.f
  exact Ev.bind (Ev.bind (spec_CountParts_bad (Bool.eq_false_iff.2 hm)) (Ev.ret rfl)) (Ev.ff (by decide) (Ev.ret rfl))
theorem perfI_iff {w h o : Int} : perfI w h o = true ↔ gridOk w h = true ∧ ∃ n : Nat, o = (n : Int) ∧ n < 2 ^ gapsN w h ∧ perfN w h n = true := by
 unfold perfI
 rw [Bool.and_eq_true, mazeOk_iff]
 constructor
 ·rintro ⟨⟨h1, n, rfl, h2⟩, h3⟩; exact ⟨h1, n, rfl, h2, h3⟩
 ·rintro ⟨h1, n, rfl, h2, h3⟩; exact ⟨⟨h1, n, rfl, h2⟩, h3⟩
end Go.Proofs.Ytoohcdfokejkdaa.P
namespace Go.Proofs.Ytoohcdfokejkdaa.P
open Go.RowKit Go.Proofs.YtoohcdfokejkdaaW.PrintWords
set_option linter.unusedVariables false
set_option linter.unusedSimpArgs false

theorem impl_EndsOf_eq (w h g : Int) : impl_EndsOf.f w h g = some (endsI w h g) := by
 unfold impl_EndsOf.f endsI
 rw [impl_isGap_eq, Option.bind_some]
 unfold isGapI
 by_cases hc : 0 ≤ g ∧ g < gapsOf w h
 ·rw [if_pos hc, if_pos (by simpa using hc)]
  obtain ⟨hg, hgw⟩ := gapsOf_valid hc.1 hc.2
  have hgr := gridOk_iff.1 hg
  have hrr := gapsOf_range w h
  have hq0 : 0 ≤ (w - 1) * h := Int.mul_nonneg (by omega) (by omega)
  have hq1 : (w - 1) * h ≤ 3 * 4 := Int.mul_le_mul (by omega) (by omega) (by omega) (by omega)
  have hw1 : w - 1 = 0 → (w - 1) * h = 0 := fun e => by rw [e, Int.zero_mul]
  rw [wrap64_id (x := w - 1) (by omega) (by omega), wrap64_id (x := (w - 1) * h) (by omega) (by omega)]
  by_cases hlt : g < (w - 1) * h
  ·rw [if_pos hlt, if_neg (by omega)]
   have hne : w - 1 ≠ 0 := fun e => by have := hw1 e; omega
   have ha0 : 0 ≤ g / (w - 1) := Int.ediv_nonneg hc.1 (by omega)
   have ha1 : g / (w - 1) ≤ g := Int.ediv_le_self _ hc.1
   have hb0 : 0 ≤ g % (w - 1) := Int.emod_nonneg _ (by omega)
   have hb1 : g % (w - 1) < w - 1 := Int.emod_lt_of_pos _ (by omega)
   have hp0 : 0 ≤ g / (w - 1) * w := Int.mul_nonneg ha0 (by omega)
   have hp1 : g / (w - 1) * w ≤ 23 * 4 := Int.mul_le_mul (by omega) (by omega) (by omega) (by omega)
   rw [if_neg hne, Int.tmod_eq_emod_of_nonneg hc.1, Int.tdiv_eq_ediv_of_nonneg hc.1, wrap64_id (x := g / (w - 1)) (by omega) (by omega), wrap64_id (x := g / (w - 1) * w) (by omega) (by omega), wrap64_id (x := g / (w - 1) * w + g % (w - 1)) (by omega) (by omega), wrap64_id (by omega) (by omega)]
  ·rw [if_neg hlt, if_pos (by omega)]
   rw [wrap64_id (x := g - (w - 1) * h) (by omega) (by omega), wrap64_id (by omega) (by omega)]
 ·rw [if_neg hc, if_neg (by simpa using hc)]
end Go.Proofs.Ytoohcdfokejkdaa.P
namespace Go.Proofs.Ytoohcdfokejkdaa.P
open Go.RowKit Go.Proofs.YtoohcdfokejkdaaW.PrintWords
set_option linter.unusedVariables false
set_option linter.unusedSimpArgs false

def totN (w h : Int) (a b : Nat) : Nat := trees (ends w h) (cellsN w h) (gapsN w h) a b
theorem totN_le (w h : Int) (a b : Nat) : totN w h a b ≤ 16777216 := by
 have h1 := trees_le (e := ends w h) (V := cellsN w h) (E := gapsN w h) a b
 have h2 : 2 ^ gapsN w h ≤ 2 ^ 24 := Nat.pow_le_pow_right (by decide) (gapsN_le w h)
 unfold totN
 omega
def plN (w h : Int) (c x : Nat) : Nat := plc (ends w h) (gapsN w h) c x
def rowsZ (n i : Nat) : List (List Int) := (List.range n).map fun r => if r < i then dlist n (fun _ => 0) else []
theorem rowsZ_len (n i : Nat) : (rowsZ n i).length = n := by simp [rowsZ]
theorem rowsZ_get {n i r : Nat} (h : r < (rowsZ n i).length) : (rowsZ n i)[r] = if r < i then dlist n (fun _ => 0) else [] := by
 have h2 : r < ((List.range n).map fun r => if r < i then dlist n (fun _ => 0) else []).length := h
 show ((List.range n).map fun r => if r < i then dlist n (fun _ => 0) else [])[r] = _
 rw [List.getElem_map, List.getElem_range]
theorem rowsZ_set {n i : Nat} (h : i < n) : (rowsZ n i).set i (dlist n fun _ => 0) = rowsZ n (i + 1) := by
 apply List.ext_getElem
 ·simp [rowsZ_len]
 ·intro r h1 h2
  rw [List.getElem_set, rowsZ_get h2]
  by_cases e : i = r
  ·rw [if_pos e, if_pos (by omega)]
  ·rw [if_neg e, rowsZ_get]
   by_cases e2 : r < i
   ·rw [if_pos e2, if_pos (by omega)]
   ·rw [if_neg e2, if_neg (by omega)]
theorem rowsZ_zero (n : Nat) : List.replicate n ([] : List Int) = rowsZ n 0 := by
 apply List.ext_getElem
 ·simp [rowsZ]
 ·intro i h1 h2
  rw [rowsZ_get h2]
  simp
theorem rowsZ_all (n : Nat) : rowsZ n n = mat n n fun _ _ => 0 := by
 apply List.ext_getElem
 ·simp [rowsZ_len, mat_len]
 ·intro i h1 h2
  have : i < n := by rwa [rowsZ_len] at h1
  rw [rowsZ_get h1, mat_get h2, if_pos this]
theorem mat_four {w h : Int} {c b g n A B V : Nat} {f : Nat → Nat → Int} {R : Int} {P : Nat → Int} (hB : Bd f g) (hg : g ≤ 24) (p1 : A < n) (p2 : B < n)
  (ih : Ev (fun k => impl_CountFixed.l2 k c b (dlist V P) (mat n n (put (put (put (put f A A (f A A + 1)) B B (put f A A (f A A + 1) B B + 1)) A B (put (put f A A (f A A + 1)) B B (put f A A (f A A + 1) B B + 1) A B - 1)) B A
   (put (put (put f A A (f A A + 1)) B B (put f A A (f A A + 1) B B + 1)) A B (put (put f A A (f A A + 1)) B B (put f A A (f A A + 1) B B + 1) A B - 1) B A - 1))) ((g + 1 : Nat) : Int) w h) R) :
  Ev (fun k => if 0 ≤ (A : Int) then if (A : Int) < ((mat n n f).length : Int) then if (A : Int) < ((rd_L2 (mat n n f) (A : Int)).length : Int) then
   (some ((mat n n f).set A ((rd_L2 (mat n n f) (A : Int)).set A (wrap64 (rd (rd_L2 (mat n n f) (A : Int)) (A : Int) + 1))))).bind fun y133 =>
   if 0 ≤ (B : Int) then if (B : Int) < ((mat n n f).length : Int) then if (B : Int) < ((rd_L2 y133 (B : Int)).length : Int) then
   (some (y133.set B ((rd_L2 y133 (B : Int)).set B (wrap64 (rd (rd_L2 y133 (B : Int)) (B : Int) + 1))))).bind fun y138 =>
   if (B : Int) < ((rd_L2 y138 (A : Int)).length : Int) then
   (some (y138.set A ((rd_L2 y138 (A : Int)).set B (wrap64 (rd (rd_L2 y138 (A : Int)) (B : Int) - 1))))).bind fun y143 =>
   if (A : Int) < ((rd_L2 y143 (B : Int)).length : Int) then
    impl_CountFixed.l2 k c b (dlist V P) (y143.set B ((rd_L2 y143 (B : Int)).set A (wrap64 (rd (rd_L2 y143 (B : Int)) (A : Int) - 1)))) ((g + 1 : Nat) : Int) w h
   else none else none else none else none else none else none else none else none) R := by
 have b0 : 0 ≤ (g : Int) := by omega
 have v1 := hB A A
 have hB1 := bd_put (a := A) (b := A) (v := f A A + 1) hB b0 (by omega) (by omega)
 have v2 := hB1 B B
 have hB2 := bd_put (a := B) (b := B) (v := put f A A (f A A + 1) B B + 1) hB1 (by omega) (by omega) (by omega)
 have v3 := hB2 A B
 have hB3 := bd_put (a := A) (b := B) (v := put (put f A A (f A A + 1)) B B (put f A A (f A A + 1) B B + 1) A B - 1) hB2 (by omega) (by omega) (by omega)
 refine Ev.tt (by omega) (Ev.tt (by rw [mat_len]; omega) (Ev.tt (by rw [rd_mat p1, dlist_length]; omega) ?_))
 refine Ev.bnd0 (congrArg some (mat_inc hB (by omega) p1 p1)) ?_
 refine Ev.tt (by omega) (Ev.tt (by rw [mat_len]; omega) (Ev.tt (by rw [rd_mat p2, dlist_length]; omega) ?_))
 refine Ev.bnd0 (congrArg some (mat_inc hB1 (by omega) p2 p2)) ?_
 refine Ev.tt (by rw [rd_mat p1, dlist_length]; omega) ?_
 refine Ev.bnd0 (congrArg some (mat_dec hB2 (by omega) p1 p2)) ?_
 refine Ev.tt (by rw [rd_mat p2, dlist_length]; omega) ?_
 rw [mat_dec hB3 (by omega) p2 p1]
 exact ih
section
variable {w h : Int} {c b : Nat} (hg : gridOk w h = true) (hc : c < 2 ^ gapsN w h) (hb : b < 2 ^ gapsN w h)
include hg hc hb
omit hg hc hb in
theorem plN_lt {x : Nat} (hx : x < cellsN w h) : plN w h c x < partsN w h c := plc_lt hx
omit hg in
theorem cf_l2 {R : Int} (next : Ev (fun k => (impl_without.f k (mat (partsN w h c) (partsN w h c) (pm (ends w h) (gapsN w h) (plN w h c) (und c b))) 0).bind fun t149 => (impl_determinant.f k t149).bind fun t152 => some t152) R) :
  ∀ d g : Nat, g + d = gapsN w h → Ev (fun k => impl_CountFixed.l2 k c b (dlist (cellsN w h) fun x => (plN w h c x : Nat)) (mat (partsN w h c) (partsN w h c) (pm (ends w h) g (plN w h c) (und c b))) g w h) R
 | 0, g, hd => by
  have hcc := gapsN_cast w h
  obtain rfl : g = gapsN w h := by omega
  refine Ev.step (fun _ => impl_CountFixed.l2.eq_2 ..) (Ev.bnd0 (impl_CountGaps_eq w h) (Ev.ff (by omega) next))
 | d + 1, g, hd => by
  have hcc := gapsN_cast w h
  have h24 := gapsN_le w h
  have hgg : g < gapsN w h := by omega
  have hcs := open_small hc
  have hbs := open_small hb
  obtain ⟨e1, e2, e3⟩ := ends_facts hgg
  have hor : (c ||| b) < 2 ^ gapsN w h := Nat.or_lt_two_pow hc hb
  have hos := open_small hor
  have ih := cf_l2 next d (g + 1) (by omega)
  have p1 : plN w h c (ends w h g).1 < partsN w h c := plN_lt (by omega)
  have p2 : plN w h c (ends w h g).2 < partsN w h c := plN_lt e3
  refine Ev.step (fun _ => impl_CountFixed.l2.eq_2 ..) (Ev.bnd0 (impl_CountGaps_eq w h) (Ev.tt (by omega) (Ev.tt (by omega) ?_)))
  rw [bits_or (by omega) (by omega), wsucc (by omega)]
  have hbit : (Go.bits .and .i64 (shr .i64 ((c ||| b : Nat) : Int) (g : Int)) 1 = 1) ↔ (c ||| b).testBit g = true := by
   rw [← bit_one (show (c ||| b) < 4611686018427387904 by omega) g, beq_iff_eq]
  have hun : und c b g = !(c ||| b).testBit g := by unfold und; rw [Nat.testBit_or]; cases c.testBit g <;> cases b.testBit g <;> rfl
  refine Ev.ite (fun e => ?_) (fun e => ?_)
  ·rw [hbit] at e
   rw [pm_succ, if_neg (by rw [hun, e]; simp)] at ih
   exact ih
  ·rw [hbit] at e
   rw [pm_succ, if_pos (by rw [hun, Bool.eq_false_iff.2 e]; rfl)] at ih
   have hB := pm_bd (ends w h) (plN w h c) (und c b) g
   rw [← four_put] at ih
   refine Ev.bnd0 (impl_EndsOf_eq w h g) ?_
   rw [e1]
   refine Ev.tt (by omega) (Ev.tt (by rw [dlist_length]; omega) (Ev.tt (by omega) (Ev.tt (by rw [dlist_length]; omega) ?_)))
   rw [rd_dlist (show (ends w h g).1 < cellsN w h by omega), rd_dlist e3, Int.toNat_natCast, Int.toNat_natCast]
   generalize plN w h c (ends w h g).1 = A at *
   generalize plN w h c (ends w h g).2 = B at *
   generalize pm (ends w h) g (plN w h c) (und c b) = f at *
   generalize partsN w h c = n at *
   exact mat_four hB (by omega) p1 p2 ih
theorem cf_det (hf : pop (gapsN w h) c + partsN w h c = cellsN w h) (hd : ∀ i, c.testBit i = true → b.testBit i = false) : Ev (fun k => (impl_without.f k (mat (partsN w h c) (partsN w h c) (pm (ends w h) (gapsN w h) (plN w h c) (und c b))) 0).bind fun t149 => (impl_determinant.f k t149).bind fun t152 => some t152) ((totN w h c b : Nat) : Int) := by
 have hV := cells_pos hg
 have hp : 0 < partsN w h c := parts_pos hc (by omega)
 have h16 := partsN_le w h c
 have htot := trees_place (gr_grid w h) hV hc hb hd hf
 obtain ⟨n, hn⟩ : ∃ n, partsN w h c = n + 1 := ⟨partsN w h c - 1, by omega⟩
 have hw := without_ev (mat (partsN w h c) (partsN w h c) (pm (ends w h) (gapsN w h) (plN w h c) (und c b))) 0 (by rw [mat_len]; omega) (fun row hr => by
  unfold mat at hr
  obtain ⟨i, _, rfl⟩ := List.mem_map.1 hr
  rw [dlist_length]
  omega)
 refine Ev.bind hw ?_
 rw [hn, minor_mat0]
 have hrow : ∀ r : Nat, r < n → (rd_L2 (mat n n fun i j => pm (ends w h) (gapsN w h) (plN w h c) (und c b) (i + 1) (j + 1)) (r : Nat)).length = n := fun r hr => by rw [rd_mat hr, dlist_length]
 refine Ev.bind (impl_det_ev (m := mat n n fun i j => pm (ends w h) (gapsN w h) (plN w h c) (und c b) (i + 1) (j + 1)) (n := n) (by rw [mat_len]) (by omega) hrow) (Ev.ret ?_)
 rw [Ds_full, dt_congr (B := fun i j => pm (ends w h) (gapsN w h) (plc (ends w h) (gapsN w h) c) (und c b) (i + 1) (j + 1)) (fun i j hi hj => by unfold ent; rw [rd_mat hi, rd_dlist hj]; rfl)]
 have hpn : parts (ends w h) (cellsN w h) (gapsN w h) c - 1 = n := by unfold partsN at hn; omega
 rw [hpn] at htot
 have hle := totN_le w h c b
 unfold totN at hle ⊢
 rw [← htot, wrap64_id (by omega) (by omega)]
omit hg hb hc in
theorem plc_first {x : Nat} (hl : labN w h c x = x) : plN w h c x = cnt (fun z => lab (ends w h) c (gapsN w h) z == z) x := by
 unfold plN plc
 unfold labN at hl
 rw [hl]
omit hg hb hc in
theorem plc_lab (x : Nat) : plN w h c (labN w h c x) = plN w h c x := by
 unfold plN plc labN
 rw [lab_lab]
omit hg hc hb in
theorem cf_l1 {R : Int} (L : List Int) (next : Ev (fun k => impl_CountFixed.l2 k c b L (mat (partsN w h c) (partsN w h c) fun _ _ => 0) 0 w h) R) :
  ∀ d i : Nat, i + d = partsN w h c → Ev (fun k => impl_CountFixed.l1 k c b L (partsN w h c : Nat) (rowsZ (partsN w h c) i) (partsN w h c : Nat) i w h) R
 | 0, i, hd => by
  refine Ev.step (fun _ => impl_CountFixed.l1.eq_2 ..) (Ev.ff (by omega) ?_)
  rw [show i = partsN w h c by omega, rowsZ_all]
  exact next
 | d + 1, i, hd => by
  have h16 := partsN_le w h c
  refine Ev.step (fun _ => impl_CountFixed.l1.eq_2 ..) (Ev.tt (by omega) (Ev.tt (by omega) (Ev.tt (by omega) (Ev.tt (by omega) (Ev.tt (by rw [rowsZ_len]; omega) ?_)))))
  rw [Int.toNat_natCast, Int.toNat_natCast, zeros_dlist, rowsZ_set (by omega), wsucc (by omega)]
  exact cf_l1 L next d (i + 1) (by omega)
omit hb in
theorem cf_l0 {R : Int} (next : Ev (fun k => impl_CountFixed.l1 k c b (dlist (cellsN w h) fun x => (plN w h c x : Nat)) (partsN w h c : Nat) (rowsZ (partsN w h c) 0) (partsN w h c : Nat) 0 w h) R) :
  ∀ d i : Nat, i + d = cellsN w h → Ev (fun k => impl_CountFixed.l0 k c b (dlist (cellsN w h) fun x => if x < i then (plN w h c x : Nat) else 0) (cnt (fun z => lab (ends w h) c (gapsN w h) z == z) i : Nat) (cellsN w h : Nat) i w h w h c) R
 | 0, i, hd => by
  have h16 := partsN_le w h c
  obtain rfl : i = cellsN w h := by omega
  have e1 : (dlist (cellsN w h) fun x => if x < cellsN w h then (plN w h c x : Int) else 0) = dlist (cellsN w h) fun x => (plN w h c x : Nat) := by
   unfold dlist
   exact List.map_congr_left fun x hx => by rw [if_pos (List.mem_range.1 hx)]
  rw [e1]
  have e2 : cnt (fun z => lab (ends w h) c (gapsN w h) z == z) (cellsN w h) = partsN w h c := rfl
  rw [e2]
  refine Ev.step (fun _ => impl_CountFixed.l0.eq_2 ..) (Ev.ff (by omega) (Ev.tt (by omega) (Ev.tt (by omega) ?_)))
  rw [Int.toNat_natCast, rowsZ_zero]
  refine Ev.bnd0 rfl ?_
  rw [rowsZ_len]
  exact next
 | d + 1, i, hd => by
  have h16 := cellsN_le w h
  have hi : i < cellsN w h := by omega
  obtain ⟨e1, e2⟩ := head_is hc hi
  have ih := cf_l0 next d (i + 1) (by omega)
  have hle : labN w h c i ≤ i := lab_le _ _ _ _
  have hcl := cnt_le (fun z => lab (ends w h) c (gapsN w h) z == z) i
  have key : ∀ v : Int, v = (plN w h c i : Int) → (dlist (cellsN w h) fun x => if x < i then (plN w h c x : Int) else 0).set i v = dlist (cellsN w h) fun x => if x < i + 1 then (plN w h c x : Int) else 0 := by
   intro v hv
   rw [dlist_set hi]
   unfold dlist upd
   refine List.map_congr_left fun x _ => ?_
   by_cases q : x = i
   ·subst q; rw [if_pos rfl, if_pos (by omega), hv]
   ·rw [if_neg q]
    show (if x < i then (plN w h c x : Int) else 0) = _
    by_cases q2 : x < i
    ·rw [if_pos q2, if_pos (by omega)]
    ·rw [if_neg q2, if_neg (by omega)]
  refine Ev.step (fun _ => impl_CountFixed.l0.eq_2 ..) (Ev.tt (by omega) (Ev.bind (impl_Reached_ev hg hc hi) (Ev.tt e1 ?_)))
  rw [e2, wsucc (show i < 4611686018427387904 by omega)]
  refine Ev.ite (fun q => ?_) (fun q => ?_)
  ·refine Ev.tt (by omega) (Ev.tt (by rw [dlist_length]; omega) (Ev.tt (by omega) (Ev.tt (by rw [dlist_length]; omega) ?_)))
   rw [rd_dlist (show labN w h c i < cellsN w h by omega), if_pos (show labN w h c i < i by omega), Int.toNat_natCast, key _ (by rw [plc_lab])]
   have : cnt (fun z => lab (ends w h) c (gapsN w h) z == z) (i + 1) = cnt (fun z => lab (ends w h) c (gapsN w h) z == z) i := by
    have hne : (lab (ends w h) c (gapsN w h) i == i) = false := by
     rw [beq_eq_false_iff_ne]
     intro hq
     unfold labN at q
     omega
    show cnt _ i + (lab (ends w h) c (gapsN w h) i == i).toNat = _
    rw [hne]
    rfl
   rw [this] at ih
   exact ih
  ·refine Ev.tt (by omega) (Ev.tt (by rw [dlist_length]; omega) ?_)
   have hl : labN w h c i = i := by omega
   rw [Int.toNat_natCast, key _ (by rw [plc_first hl]), wsucc (by omega)]
   have : cnt (fun z => lab (ends w h) c (gapsN w h) z == z) (i + 1) = cnt (fun z => lab (ends w h) c (gapsN w h) z == z) i + 1 := by
    have heq : (lab (ends w h) c (gapsN w h) i == i) = true := by
     rw [beq_iff_eq]; exact hl
    show cnt _ i + (lab (ends w h) c (gapsN w h) i == i).toNat = _
    rw [heq]
    rfl
   rw [this] at ih
   exact ih
omit hb in
theorem impl_CountLoops_ev : Ev (fun k => impl_CountLoops.f k w h c) (((pop (gapsN w h) c : Nat) : Int) - (cellsN w h : Nat) + (partsN w h c : Nat)) := by
 have h24 := gapsN_le w h
 have hV := cellsN_cast w h
 have h16 := cellsN_le w h
 have hp := partsN_le w h c
 have hpo := pop_le (gapsN w h) c
 unfold impl_CountLoops.f
 refine Ev.bnd0 (impl_MazeOk_eq ..) (Ev.tt (mazeOk_nat hg hc) (Ev.bnd0 (impl_CountPassages_eq hg hc) (Ev.bnd0 (impl_CountCells_eq w h) (Ev.bind (impl_CountParts_ev hg hc) (Ev.ret ?_)))))
 rw [← hV, wrap64_id (x := ((pop (gapsN w h) c : Nat) : Int) - (cellsN w h : Nat)) (by omega) (by omega), wrap64_id (by omega) (by omega)]
theorem cf_j0 (hd : ∀ i, c.testBit i = true → b.testBit i = false) : Ev (fun k => impl_CountFixed.j0 k c b false w h) ((totN w h c b : Nat) : Int) := by
 have hV := cellsN_cast w h
 have h16 := cellsN_le w h
 have hno := loops_nonneg (v := cellsN w h) (gr_grid w h) c hc
 refine Ev.step (fun _ => impl_CountFixed.j0.eq_2 ..) (Ev.ff (by simp) (Ev.bind (impl_CountLoops_ev hg hc) ?_))
 refine Ev.ite (fun e => ?_) (fun e => ?_)
 ·refine Ev.ret ?_
  have := trees_loops (gr_grid w h) (b := b) hc (show ¬ pop (gapsN w h) c + parts (ends w h) (cellsN w h) (gapsN w h) c = cellsN w h by unfold partsN at e; omega)
  unfold totN
  rw [this]
  rfl
 ·have hf : pop (gapsN w h) c + partsN w h c = cellsN w h := by unfold partsN at e ⊢; omega
  refine Ev.bnd0 (impl_CountCells_eq w h) ?_
  rw [← hV]
  refine Ev.tt (by omega) (Ev.tt (by omega) (Ev.bnd0 rfl ?_))
  rw [Int.toNat_natCast, List.length_replicate, zeros_dlist]
  have := cf_l0 hg hc (cf_l1 _ (cf_l2 hc hb (cf_det hg hc hb hf hd) (gapsN w h) 0 (by omega)) (partsN w h c) 0 (by omega)) (cellsN w h) 0 (by omega)
  have e0 : (dlist (cellsN w h) fun x => if x < 0 then (plN w h c x : Int) else 0) = dlist (cellsN w h) fun _ => 0 := by
   unfold dlist
   exact List.map_congr_left fun x _ => by rw [if_neg (by omega)]
  rw [e0] at this
  exact this
end
end Go.Proofs.Ytoohcdfokejkdaa.P
namespace Go.Proofs.Ytoohcdfokejkdaa.P
open Go.RowKit Go.Proofs.YtoohcdfokejkdaaW.PrintWords
set_option linter.unusedVariables false
set_option linter.unusedSimpArgs false

def bd (A : Nat → Nat → Int) (k i j : Nat) : Nat → Nat → Int := fun r c => A (if r < k then r else i) (if c < k then c else j)
def mnB (A : Nat → Nat → Int) (k i j : Nat) : Int := dt (k + 1) (bd A k i j)
theorem mn_zero (A : Nat → Nat → Int) (i j : Nat) : mnB A 0 i j = A i j := by
 simp [mnB, dt, sumTo, bd, sgn]
theorem mn_diag (A : Nat → Nat → Int) (k : Nat) : mnB A k k k = dt (k + 1) A := by
 refine dt_congr fun r c hr hc => ?_
 unfold bd
 rw [show (if r < k then r else k) = r by split <;> omega, show (if c < k then c else k) = c by split <;> omega]
theorem mn_row (A : Nat → Nat → Int) (k i : Nat) : ∃ f : Nat → Int, ∀ j, mnB A k i j = dt k A * A i j + sumTo k (fun l => f l * A l j) := by
 refine ⟨fun l => sgn (k - l) * dt k (er l (bd A k i 0)), fun j => ?_⟩
 unfold mnB
 simp only [dt, sumTo]
 rw [Int.add_comm]
 congr 1
 ·rw [Nat.sub_self, show bd A k i j k k = A i j by simp [bd], show dt k (er k (bd A k i j)) = dt k A from dt_congr fun r c hr hc => by simp [er, bd, hr, hc]]
  simp [sgn, Int.mul_comm]
 ·refine sumTo_congr fun l hl => ?_
  rw [show bd A k i j l k = A l j by simp [bd, hl], show dt k (er l (bd A k i j)) = dt k (er l (bd A k i 0)) from dt_congr fun r c hr hc => by
   by_cases h : r < l <;> simp [er, bd, hc, h]]
  grind
theorem mn_col {A : Nat → Nat → Int} {k i j : Nat} (h : j < k) : mnB A k i j = 0 := by
 unfold mnB
 rw [← dt_tr]
 refine dt_eq _ (i := j) (j := k) (by omega) (by omega) (by omega) fun c => ?_
 simp [tr, bd]
theorem dt_comb {r : Nat} (A : Nat → Nat → Int) {i : Nat} (hi : i < r) (p : Int) (f : Nat → Int) : ∀ m, m ≤ i → dt r (rp A i (fun x => p * A i x + sumTo m (fun l => f l * A l x))) = p * dt r A
 | 0, _ => by
  have h := dt_lin A hi p 0 (A i) (A i)
  rw [rp_self] at h
  rw [show (fun x => p * A i x + sumTo 0 (fun l => f l * A l x)) = fun x => p * A i x + 0 * A i x by funext x; simp [sumTo], h]
  omega
 | m + 1, hm => by
  have h := dt_lin A hi 1 (f m) (fun x => p * A i x + sumTo m (fun l => f l * A l x)) (A m)
  rw [dt_comb A hi p f m (by omega), dt_eq (rp A i (A m)) (i := i) (j := m) (by omega) hi (by omega) (fun c => by rw [rp_same, rp_ne _ (by omega)])] at h
  rw [show (fun x => p * A i x + sumTo (m + 1) (fun l => f l * A l x)) = fun x => 1 * (p * A i x + sumTo m (fun l => f l * A l x)) + f m * A m x by
   funext x; simp only [sumTo]; omega, h]
  omega
theorem syl (A : Nat → Nat → Int) (k i j : Nat) (hp : dt k A ≠ 0) : dt k A * mnB A (k + 1) i j = mnB A k k k * mnB A k i j - mnB A k i k * mnB A k k j := by
 obtain ⟨f, hf⟩ := mn_row A k k
 obtain ⟨g, hg⟩ := mn_row A k i
 have hM : ∀ l, l ≤ k → ∀ x, bd A (k + 1) i j l x = A l (if x < k + 1 then x else j) := fun l hl x => by unfold bd; rw [if_pos (show l < k + 1 by omega)]
 have hL : ∀ x, bd A (k + 1) i j (k + 1) x = A i (if x < k + 1 then x else j) := fun x => by unfold bd; rw [if_neg (show ¬ k + 1 < k + 1 by omega)]
 generalize hMM : bd A (k + 1) i j = M at *
 have e1 := dt_comb (r := k + 2) M (i := k) (by omega) (dt k A) f k (Nat.le_refl k)
 have e1' : (fun x => dt k A * M k x + sumTo k (fun l => f l * M l x)) = fun x => mnB A k k (if x < k + 1 then x else j) := by
  funext x
  rw [hf, hM k (Nat.le_refl k)]
  congr 1
  exact sumTo_congr fun l hl => by rw [hM l (by omega)]
 rw [e1'] at e1
 generalize hN : rp M k (fun x => mnB A k k (if x < k + 1 then x else j)) = N at *
 have e2 := dt_comb (r := k + 2) N (i := k + 1) (by omega) (dt k A) g k (by omega)
 have hNl : ∀ l, l ≠ k → N l = M l := fun l hl => by rw [← hN, rp_ne _ hl]
 have hNk : ∀ x, N k x = mnB A k k (if x < k + 1 then x else j) := fun x => by rw [← hN, rp_same]
 have e2' : (fun x => dt k A * N (k + 1) x + sumTo k (fun l => g l * N l x)) = fun x => mnB A k i (if x < k + 1 then x else j) := by
  funext x
  rw [hg, hNl (k + 1) (by omega), hL]
  congr 1
  exact sumTo_congr fun l hl => by rw [hNl l (by omega), hM l (by omega)]
 rw [e2'] at e2
 generalize hR : rp N (k + 1) (fun x => mnB A k i (if x < k + 1 then x else j)) = R at *
 have hRl : ∀ l, l < k → ∀ x, R l x = A l (if x < k + 1 then x else j) := fun l hl x => by rw [← hR, rp_ne _ (by omega), hNl l (by omega), hM l (by omega)]
 have hRk : ∀ x, R k x = mnB A k k (if x < k + 1 then x else j) := fun x => by rw [← hR, rp_ne _ (by omega), hNk]
 have hRi : ∀ x, R (k + 1) x = mnB A k i (if x < k + 1 then x else j) := fun x => by rw [← hR, rp_same]
 have e3 : dt (k + 2) R = dt k A * (mnB A k k k * mnB A k i j - mnB A k i k * mnB A k k j) := by
  rw [dt_lastvec]
  have z : sumTo (k + 2) (fun c => sgn (k + 1 - c) * R (k + 1) c * dt (k + 1) (ec c R)) = sumTo k (fun c => sgn (k + 1 - c) * R (k + 1) c * dt (k + 1) (ec c R)) + sgn (k + 1 - k) * R (k + 1) k * dt (k + 1) (ec k R) + sgn (k + 1 - (k + 1)) * R (k + 1) (k + 1) * dt (k + 1) (ec (k + 1) R) := rfl
  rw [z, sumTo_zero (fun c hc => by rw [hRi, if_pos (by omega), mn_col hc]; simp)]
  have u1 : dt (k + 1) (ec k R) = mnB A k k j * dt k A := by
   rw [dt_unit (ec k R) (p := k) (q := k) (Nat.le_refl k) (Nat.le_refl k) (fun c hc hne => by
    rw [show ec k R k c = R k c from if_pos (by omega), hRk, if_pos (by omega), mn_col (by omega)])]
   rw [show ec k R k k = R k (k + 1) from if_neg (by omega), hRk, if_neg (by omega), sgn_par (show (k + k) % 2 = 0 % 2 by omega)]
   rw [show dt k (er k (ec k (ec k R))) = dt k A from dt_congr fun r c hr hc => by
    rw [show er k (ec k (ec k R)) r c = R r c by simp [er, ec, hr, hc], hRl r hr, if_pos (by omega)]]
   simp [sgn]
  have u2 : dt (k + 1) (ec (k + 1) R) = mnB A k k k * dt k A := by
   rw [dt_unit (ec (k + 1) R) (p := k) (q := k) (Nat.le_refl k) (Nat.le_refl k) (fun c hc hne => by
    rw [show ec (k + 1) R k c = R k c from if_pos (by omega), hRk, if_pos (by omega), mn_col (by omega)])]
   rw [show ec (k + 1) R k k = R k k from if_pos (by omega), hRk, if_pos (by omega), sgn_par (show (k + k) % 2 = 0 % 2 by omega)]
   rw [show dt k (er k (ec k (ec (k + 1) R))) = dt k A from dt_congr fun r c hr hc => by
    rw [show er k (ec k (ec (k + 1) R)) r c = R r c by simp [er, ec, hr, hc, show c < k + 1 by omega], hRl r hr, if_pos (by omega)]]
   simp [sgn]
  rw [u1, u2, hRi, hRi, if_pos (by omega), if_neg (by omega), show k + 1 - k = 1 by omega, Nat.sub_self, show sgn 1 = -1 from rfl, show sgn 0 = 1 from rfl]
  grind
 rw [e3, e1] at e2
 have e4 : dt k A * (mnB A k k k * mnB A k i j - mnB A k i k * mnB A k k j) = dt k A * (dt k A * mnB A (k + 1) i j) := by
  rw [e2]; unfold mnB; rw [hMM]
 exact (Int.eq_of_mul_eq_mul_left hp e4).symm
def sumFrom (k n : Nat) (f : Nat → Int) : Int := sumTo n fun j => if k ≤ j then f j else 0
structure Heavy (n : Nat) (A : Nat → Nat → Int) : Prop where
 off : ∀ i j, i < n → j < n → i ≠ j → A i j ≤ 0
 row : ∀ i, i < n → 0 ≤ sumTo n (A i)
structure HeavyK (n : Nat) (A : Nat → Nat → Int) (k : Nat) : Prop where
 off : ∀ i j, k ≤ i → k ≤ j → i < n → j < n → i ≠ j → mnB A k i j ≤ 0
 row : ∀ i, k ≤ i → i < n → 0 ≤ sumFrom k n (mnB A k i)
 pos : 0 < dt k A
theorem sumTo_ge {n i : Nat} {f : Nat → Int} (hi : i < n) (h : ∀ j, j < n → j ≠ i → f j ≤ 0) : sumTo n f ≤ f i := by
 induction n with
 | zero => omega
 | succ n ih =>
  simp only [sumTo]
  by_cases e : i = n
  ·subst e
   have : ∀ m, m ≤ i → sumTo m f ≤ 0 := by
    intro m
    induction m with
    | zero => intro _; exact Int.le_refl _
    | succ m ihm => intro hm; simp only [sumTo]; have := ihm (by omega); have := h m (by omega) (by omega); omega
   have := this i (Nat.le_refl i)
   omega
  ·have := ih (by omega) (fun j hj hne => h j (by omega) hne)
   have := h n (by omega) (fun e' => e e'.symm)
   omega
theorem sumTo_ge2 {n i j : Nat} {f : Nat → Int} (hi : i < n) (hj : j < n) (hij : i ≠ j) (h : ∀ j, j < n → j ≠ i → f j ≤ 0) : sumTo n f ≤ f i + f j := by
 have h1 := sumTo_one (f := fun k => if k = j then 0 else f k) (g := f) hj (fun k hk hne => by simp [hne])
 have h2 := sumTo_ge (f := fun k => if k = j then 0 else f k) hi (fun k hk hne => by
  show (if k = j then 0 else f k) ≤ 0
  by_cases e : k = j
  ·rw [if_pos e]; omega
  ·rw [if_neg e]; exact h k hk hne)
 rw [if_pos rfl] at h1
 rw [if_neg hij] at h2
 omega
theorem HeavyK.diag {n k : Nat} {A : Nat → Nat → Int} (H : HeavyK n A k) {i : Nat} (h1 : k ≤ i) (h2 : i < n) : 0 ≤ mnB A k i i := by
 have := H.row i h1 h2
 unfold sumFrom at this
 have h3 := sumTo_ge (f := fun j => if k ≤ j then mnB A k i j else 0) h2 (fun j hj hne => by
  show (if k ≤ j then mnB A k i j else 0) ≤ 0
  split
  ·rename_i hkj; exact H.off i j h1 hkj h2 hj hne.symm
  ·omega)
 simp only [h1, if_true] at h3
 omega
theorem HeavyK.abs {n k : Nat} {A : Nat → Nat → Int} (H : HeavyK n A k) {i j : Nat} (h1 : k ≤ i) (h2 : i < n) (h3 : k ≤ j) (h4 : j < n) (hij : i ≠ j) : -mnB A k i i ≤ mnB A k i j := by
 have := H.row i h1 h2
 unfold sumFrom at this
 have h5 := sumTo_ge2 (f := fun j => if k ≤ j then mnB A k i j else 0) h2 h4 hij (fun j hj hne => by
  show (if k ≤ j then mnB A k i j else 0) ≤ 0
  split
  ·rename_i hkj; exact H.off i j h1 hkj h2 hj hne.symm
  ·omega)
 simp only [h1, h3, if_true] at h5
 omega
theorem HeavyK.start {n : Nat} {A : Nat → Nat → Int} (H : Heavy n A) : HeavyK n A 0 where
 off := fun i j _ _ hi hj hij => by rw [mn_zero]; exact H.off i j hi hj hij
 row := fun i _ hi => by
  unfold sumFrom
  simp only [mn_zero, Nat.zero_le, if_true]
  exact H.row i hi
 pos := by simp [dt]
theorem HeavyK.next {n k : Nat} {A : Nat → Nat → Int} (H : HeavyK n A k) (hk : k < n) (hp : mnB A k k k ≠ 0) : HeavyK n A (k + 1) := by
 have hd := H.diag (Nat.le_refl k) hk
 have hpos := H.pos
 have S := fun i j => syl A k i j (by omega)
 refine { off := fun i j hi hj hin hjn hij => ?_, row := fun i hi hin => ?_, pos := by rw [← mn_diag]; omega }
 ·have h1 := H.off i j (by omega) (by omega) hin hjn hij
  have h2 := H.off i k (by omega) (by omega) hin hk (by omega)
  have h3 := H.off k j (by omega) (by omega) hk hjn (by omega)
  have e := S i j
  have a1 : mnB A k k k * mnB A k i j ≤ 0 := Int.mul_nonpos_of_nonneg_of_nonpos hd h1
  have a2 : 0 ≤ mnB A k i k * mnB A k k j := Int.mul_nonneg_of_nonpos_of_nonpos h2 h3
  rcases Int.lt_or_le 0 (mnB A (k + 1) i j) with hc | hc
  ·have := Int.mul_pos hpos hc
   omega
  ·exact hc
 ·have e : dt k A * sumFrom (k + 1) n (mnB A (k + 1) i) = mnB A k k k * sumFrom k n (mnB A k i) - mnB A k i k * sumFrom k n (mnB A k k) := by
   unfold sumFrom
   rw [← sumTo_mul, ← sumTo_mul, ← sumTo_mul, Int.sub_eq_add_neg, ← sumTo_neg, ← sumTo_add]
   refine sumTo_congr fun j hj => ?_
   by_cases h1 : k + 1 ≤ j
   ·rw [if_pos h1, if_pos (by omega), if_pos (by omega), S i j]; omega
   ·rw [if_neg h1]
    by_cases h2 : k = j
    ·subst h2
     rw [if_pos (Nat.le_refl _), if_pos (Nat.le_refl _), Int.mul_comm (mnB A k i k)]; omega
    ·rw [if_neg (by omega), if_neg (by omega)]; omega
  have h1 := H.row i (by omega) hin
  have h2 := H.row k (Nat.le_refl k) hk
  have h3 := H.off i k (by omega) (by omega) hin hk (by omega)
  have a1 := Int.mul_nonneg hd h1
  have a2 : mnB A k i k * sumFrom k n (mnB A k k) ≤ 0 := Int.mul_nonpos_of_nonpos_of_nonneg h3 h2
  rcases Int.lt_or_le (sumFrom (k + 1) n (mnB A (k + 1) i)) 0 with hc | hc
  ·have := Int.mul_neg_of_pos_of_neg hpos hc
   omega
  ·exact hc
theorem HeavyK.zero {n k : Nat} {A : Nat → Nat → Int} (H : HeavyK n A k) (hk : k < n) (hp : mnB A k k k = 0) : dt n A = 0 := by
 have hpos := H.pos
 have hz : ∀ j, j < n → mnB A k k j = 0 := by
  intro j hj
  by_cases h1 : j < k
  ·exact mn_col h1
  ·by_cases h2 : k = j
   ·rw [← h2]; exact hp
   ·have := H.off k j (Nat.le_refl k) (by omega) hk hj h2
    have := H.abs (Nat.le_refl k) hk (show k ≤ j by omega) hj h2
    omega
 obtain ⟨f, hf⟩ := mn_row A k k
 have h1 := dt_comb A hk (dt k A) f k (Nat.le_refl k)
 rw [dt_zero _ hk (fun c hc => by rw [rp_same, ← hf, hz c hc])] at h1
 rcases Int.mul_eq_zero.1 h1.symm with h | h
 ·omega
 ·exact h
theorem HeavyK.step_le {n k : Nat} {A : Nat → Nat → Int} (H : HeavyK n A k) (hk : k < n) {i : Nat} (hi : k < i) (hin : i < n) : dt k A * mnB A (k + 1) i i ≤ dt (k + 1) A * mnB A k i i := by
 rw [syl A k i i (by have := H.pos; omega), ← mn_diag]
 have := Int.mul_nonneg_of_nonpos_of_nonpos (H.off i k (by omega) (by omega) hin hk (by omega)) (H.off k i (by omega) (by omega) hk hin (by omega))
 omega
/-- The product of the first k numbers of the diagonal. -/
def dprod (A : Nat → Nat → Int) : Nat → Int
  | 0 => 1
  | k + 1 => dprod A k * A k k
theorem Heavy.diag {n : Nat} {A : Nat → Nat → Int} (H : Heavy n A) {i : Nat} (hi : i < n) : 0 ≤ A i i := by
  have := H.row i hi
  have := sumTo_ge (f := A i) hi (fun j hj hne => H.off i j hi hj (Ne.symm hne))
  omega
theorem dprod_nonneg {n : Nat} {A : Nat → Nat → Int} (H : Heavy n A) : ∀ k, k ≤ n → 0 ≤ dprod A k
  | 0, _ => by simp [dprod]
  | k + 1, h => Int.mul_nonneg (dprod_nonneg H k (by omega)) (H.diag (by omega))
/-- What is kept from step to step. -/
structure Stage (n : Nat) (A : Nat → Nat → Int) (k : Nat) : Prop extends HeavyK n A k where
  ple : dt k A ≤ dprod A k
  dle : ∀ i, k ≤ i → i < n → mnB A k i i ≤ dt k A * A i i
theorem Stage.start {n : Nat} {A : Nat → Nat → Int} (H : Heavy n A) : Stage n A 0 :=
  { HeavyK.start H with ple := by simp [dt, dprod], dle := fun i _ _ => by rw [mn_zero]; simp [dt] }
theorem Stage.next {n k : Nat} {A : Nat → Nat → Int} (H : Heavy n A) (K : Stage n A k) (hk : k < n) (hp : mnB A k k k ≠ 0) : Stage n A (k + 1) := by
  have N := K.toHeavyK.next hk hp
  have hpos := K.pos
  refine { N with ple := ?_, dle := fun i hi hin => ?_ }
  · have h1 := K.dle k (Nat.le_refl k) hk
    rw [mn_diag] at h1
    have h2 := Int.mul_le_mul_of_nonneg_right K.ple (H.diag hk)
    exact Int.le_trans h1 h2
  · have h1 := K.toHeavyK.step_le hk (show k < i by omega) hin
    have h2 := K.dle i (by omega) hin
    have h3 := Int.mul_le_mul_of_nonneg_left h2 (Int.le_of_lt N.pos)
    have h4 : dt k A * mnB A (k + 1) i i ≤ dt k A * (dt (k + 1) A * A i i) := by
      refine Int.le_trans h1 (Int.le_trans h3 (Int.le_of_eq ?_))
      rw [← Int.mul_assoc, ← Int.mul_assoc, Int.mul_comm (dt (k + 1) A)]
    exact Int.le_of_mul_le_mul_left h4 hpos
theorem cube_pow : ∀ d : Nat, d ^ 3 ≤ 3 ^ d
  | 0 => by decide
  | 1 => by decide
  | 2 => by decide
  | 3 => by decide
  | d + 4 => by
    have ih := cube_pow (d + 3)
    rw [Nat.pow_succ 3 (d + 3)]
    have : (d + 4) ^ 3 ≤ (d + 3) ^ 3 * 3 := by
      have e1 : (d + 4) ^ 3 = d * d * d + 12 * (d * d) + 48 * d + 64 := by grind
      have e2 : (d + 3) ^ 3 = d * d * d + 9 * (d * d) + 27 * d + 27 := by grind
      rw [e1, e2]
      omega
    omega
theorem cube_le {a b : Nat} (h : a ^ 3 ≤ b ^ 3) : a ≤ b := by
  rcases Nat.lt_or_ge b a with h1 | h1
  · have := Nat.pow_lt_pow_left h1 (show 3 ≠ 0 by decide)
    omega
  · exact h1
theorem dprod_cube {n : Nat} {A : Nat → Nat → Int} (H : Heavy n A) : ∀ k, k ≤ n → ∃ s : Nat, sumTo k (fun l => A l l) = s ∧ (dprod A k).toNat ^ 3 ≤ 3 ^ s
  | 0, _ => ⟨0, rfl, by simp [dprod]⟩
  | k + 1, hk => by
    obtain ⟨s, h1, h2⟩ := dprod_cube H k (by omega)
    have hd := H.diag (show k < n by omega)
    obtain ⟨a, ha⟩ := Int.eq_ofNat_of_zero_le hd
    obtain ⟨p, hp⟩ := Int.eq_ofNat_of_zero_le (dprod_nonneg H k (by omega))
    refine ⟨s + a, by simp only [sumTo]; rw [h1, ha]; rfl, ?_⟩
    simp only [dprod]
    rw [hp] at h2
    rw [ha, hp, ← Int.natCast_mul, Int.toNat_natCast, Nat.mul_pow, Nat.pow_add]
    exact Nat.mul_le_mul (by simpa using h2) (cube_pow a)
theorem sumTo_mono {n m : Nat} {f : Nat → Int} (h : ∀ i, i < m → 0 ≤ f i) (hn : n ≤ m) : sumTo n f ≤ sumTo m f := by
  induction m with
  | zero => rw [Nat.le_zero.1 hn]; exact Int.le_refl _
  | succ m ih =>
    by_cases e : n = m + 1
    · rw [e]; exact Int.le_refl _
    · have := ih (fun i hi => h i (by omega)) (by omega)
      simp only [sumTo]
      have := h m (by omega)
      omega
theorem sumTo_mono1 {n m i : Nat} {f : Nat → Int} (h : ∀ i, i < m → 0 ≤ f i) (hn : n ≤ i) (hi : i < m) : sumTo n f + f i ≤ sumTo m f := by
  have h1 := sumTo_mono (f := f) (fun j hj => h j (by omega)) hn (m := i)
  have h2 := sumTo_mono (f := f) h (show i + 1 ≤ m by omega)
  simp only [sumTo] at h2
  omega
/-- Every bordered minor is small. -/
theorem Stage.small {n k : Nat} {A : Nat → Nat → Int} (H : Heavy n A) (K : Stage n A k) (hs : sumTo n (fun l => A l l) ≤ 48) {i j : Nat} (hi : k ≤ i) (hin : i < n) (hj : k ≤ j) (hjn : j < n) : -43046721 ≤ mnB A k i j ∧ mnB A k i j ≤ 43046721 := by
  have hd := H.diag hin
  have hpn := dprod_nonneg H k (by omega)
  have key : mnB A k i i ≤ 43046721 := by
    have h1 := K.dle i hi hin
    have h2 := Int.mul_le_mul_of_nonneg_right K.ple hd
    have h3 : dprod A k * A i i ≤ 43046721 := by
      obtain ⟨s, e1, e2⟩ := dprod_cube H k (by omega)
      obtain ⟨a, ha⟩ := Int.eq_ofNat_of_zero_le hd
      obtain ⟨p, hp⟩ := Int.eq_ofNat_of_zero_le hpn
      have h4 := sumTo_mono1 (f := fun l => A l l) (fun l hl => H.diag hl) hi hin
      simp only [e1, ha] at h4
      rw [hp] at e2
      have h5 : (p * a) ^ 3 ≤ 43046721 ^ 3 := by
        rw [Nat.mul_pow]
        refine Nat.le_trans (Nat.mul_le_mul (by simpa using e2) (cube_pow a)) ?_
        rw [← Nat.pow_add, show (43046721 : Nat) ^ 3 = 3 ^ 48 by decide]
        exact Nat.pow_le_pow_right (by decide) (by omega)
      have h6 := cube_le h5
      rw [ha, hp, ← Int.natCast_mul]
      omega
    omega
  have h0 := K.toHeavyK.diag hi hin
  by_cases e : i = j
  · subst e; omega
  · have := K.off i j hi hj hin hjn e
    have := K.toHeavyK.abs hi hin hj hjn e
    omega
def pB (e : Nat → Nat × Nat) (E : Nat) (P : Nat → Nat) (U : Nat → Bool) (i j : Nat) : Int := pm e E P U (i + 1) (j + 1)
theorem sumTo_dl (n p : Nat) : sumTo n (fun j => dl (j + 1) p) = if 1 ≤ p ∧ p ≤ n then 1 else 0 := by
 induction n with
 | zero => simp only [sumTo]; rw [if_neg (by omega)]
 | succ n ih =>
  simp only [sumTo]
  rw [ih]
  unfold dl
  by_cases h : n + 1 = p
  ·rw [if_neg (by omega), if_pos h, if_pos (by omega)]; rfl
  ·rw [if_neg h]
   by_cases h2 : 1 ≤ p ∧ p ≤ n
   ·rw [if_pos h2, if_pos (by omega)]; rfl
   ·rw [if_neg h2, if_neg (by omega)]; rfl
theorem sumTo_le {n : Nat} {f g : Nat → Int} (h : ∀ i, i < n → f i ≤ g i) : sumTo n f ≤ sumTo n g := by
 induction n with
 | zero => exact Int.le_refl _
 | succ n ih => simp only [sumTo]; have := ih fun i hi => h i (by omega); have := h n (by omega); omega
theorem sumTo_nonneg {n : Nat} {f : Nat → Int} (h : ∀ i, i < n → 0 ≤ f i) : 0 ≤ sumTo n f := by
 have := sumTo_le (f := fun _ => 0) (g := f) h
 rwa [sumTo_zero fun _ _ => rfl] at this
theorem sumTo_nonpos {n : Nat} {f : Nat → Int} (h : ∀ i, i < n → f i ≤ 0) : sumTo n f ≤ 0 := by
 have := sumTo_le (f := f) (g := fun _ => 0) h
 rwa [sumTo_zero (f := fun _ => 0) fun _ _ => rfl] at this
theorem sumTo_const (n : Nat) (c : Int) : sumTo n (fun _ => c) = n * c := by
 induction n with
 | zero => simp [sumTo]
 | succ n ih => simp only [sumTo]; rw [ih]; grind
theorem pm_heavy {e : Nat → Nat × Nat} {V E n : Nat} {P : Nat → Nat} {U : Nat → Bool} (hP : ∀ x, x < V → P x ≤ n) (hG : Gr e V E) : Heavy n (pB e E P U) where
 off := fun i j _ _ hij => by
  unfold pB pm
  refine sumTo_nonpos fun g _ => ?_
  split
  ·unfold dl
   repeat' split
   all_goals first | omega | decide
  ·omega
 row := fun i hi => by
  unfold pB pm
  rw [sumTo_comm]
  refine sumTo_nonneg fun g hg => ?_
  by_cases hU : U g = true
  ·simp only [hU, if_true]
   rw [sumTo_mul, show (fun j => dl (j + 1) (P (e g).1) - dl (j + 1) (P (e g).2)) = (fun j => dl (j + 1) (P (e g).1) + (-dl (j + 1) (P (e g).2))) from funext fun j => by omega, sumTo_add, sumTo_neg, sumTo_dl, sumTo_dl]
   have h1 := hP _ (hG g hg).1
   have h2 := hP _ (hG g hg).2
   unfold dl
   repeat' split
   all_goals first | omega | decide
  ·simp only [hU]
   exact sumTo_nonneg fun _ _ => Int.le_refl _
theorem pm_trace {e : Nat → Nat × Nat} {E n : Nat} {P : Nat → Nat} {U : Nat → Bool} : sumTo n (fun l => pB e E P U l l) ≤ 2 * E := by
 unfold pB pm
 rw [sumTo_comm]
 have : sumTo E (fun g => sumTo n fun l => if U g then (dl (l + 1) (P (e g).1) - dl (l + 1) (P (e g).2)) * (dl (l + 1) (P (e g).1) - dl (l + 1) (P (e g).2)) else 0) ≤ sumTo E (fun _ => 2) := by
  refine sumTo_le fun g _ => ?_
  have h : sumTo n (fun l => if U g then (dl (l + 1) (P (e g).1) - dl (l + 1) (P (e g).2)) * (dl (l + 1) (P (e g).1) - dl (l + 1) (P (e g).2)) else 0) ≤ sumTo n (fun l => dl (l + 1) (P (e g).1) + dl (l + 1) (P (e g).2)) := by
   refine sumTo_le fun l _ => ?_
   unfold dl
   repeat' split
   all_goals first | omega | decide
  rw [sumTo_add, sumTo_dl, sumTo_dl] at h
  refine Int.le_trans h ?_
  repeat' split
  all_goals omega
 rw [sumTo_const] at this
 omega
end Go.Proofs.Ytoohcdfokejkdaa.P
namespace Go.Proofs.Ytoohcdfokejkdaa.P
open Go.RowKit Go.Proofs.YtoohcdfokejkdaaW.PrintWords
set_option linter.unusedVariables false
set_option linter.unusedSimpArgs false

theorem mul_box {a b : Int} (h1 : -43046721 ≤ a ∧ a ≤ 43046721) (h2 : -43046721 ≤ b ∧ b ≤ 43046721) : -1853020188851841 ≤ a * b ∧ a * b ≤ 1853020188851841 := by
 have e : (a * b).natAbs = a.natAbs * b.natAbs := Int.natAbs_mul a b
 have l : a.natAbs * b.natAbs ≤ 43046721 * 43046721 := Nat.mul_le_mul (by omega) (by omega)
 omega
def gst (A : Nat → Nat → Int) (k i j r s : Nat) : Int := if k < r ∧ k < s ∧ (r < i ∨ (r = i ∧ s < j)) then mnB A (k + 1) r s else mnB A k r s
def Good (n : Nat) (A : Nat → Nat → Int) (k i j : Nat) (F : Nat → Nat → Int) : Prop := ∀ r s, k ≤ r → r < n → k ≤ s → s < n → F r s = gst A k i j r s
section
variable {n : Nat} {A : Nat → Nat → Int} (H : Heavy n A) (htr : sumTo n (fun l => A l l) ≤ 48) (hn : n ≤ 16)
include H htr hn
theorem bar_l3 {k i : Nat} (K : Stage n A k) (hz : mnB A k k k ≠ 0) (hki : k < i) (hin : i < n) {R : Int}
  (next : ∀ F, Good n A k i n F → Ev (fun r => spec_l11Trees.l2 r n (mat n n F) (dt k A) k ((i + 1 : Nat) : Int)) R) :
  ∀ (d j : Nat) (F : Nat → Nat → Int), j + d = n → k < j → Good n A k i j F → Ev (fun r => spec_l11Trees.l3 r n (mat n n F) (dt k A) k i j) R
 | 0, j, F, hd, hkj, hF => by
  refine Ev.step (fun _ => spec_l11Trees.l3.eq_2 ..) (Ev.ff (by omega) ?_)
  rw [wsucc (by omega)]
  rw [show j = n by omega] at hF
  exact next F hF
 | d + 1, j, F, hd, hkj, hF => by
  have hj : j < n := by omega
  have hkn : k < n := by omega
  have hpos := K.pos
  refine Ev.step (fun _ => spec_l11Trees.l3.eq_2 ..) (Ev.tt (by omega) (Ev.tt (by omega) (Ev.tt (by rw [mat_len]; omega) (Ev.tt (by omega) (Ev.tt (by rw [rd_mat hin, dlist_length]; omega)
   (Ev.tt (by omega) (Ev.tt (by rw [mat_len]; omega) (Ev.tt (by rw [rd_mat hkn, dlist_length]; omega) (Ev.tt (by rw [rd_mat hin, dlist_length]; omega) (Ev.tt (by rw [rd_mat hkn, dlist_length]; omega) (Ev.ff (by omega) ?_)))))))))))
  have f1 : F i j = mnB A k i j := by rw [hF i j (by omega) hin (by omega) hj]; exact if_neg (by omega)
  have f2 : F k k = mnB A k k k := by rw [hF k k (by omega) hkn (by omega) hkn]; exact if_neg (by omega)
  have f3 : F i k = mnB A k i k := by rw [hF i k (by omega) hin (by omega) hkn]; exact if_neg (by omega)
  have f4 : F k j = mnB A k k j := by rw [hF k j (by omega) hkn (by omega) hj]; exact if_neg (by omega)
  have b1 := K.small H htr (show k ≤ i by omega) hin (show k ≤ j by omega) hj
  have b2 := K.small H htr (Nat.le_refl k) hkn (Nat.le_refl k) hkn
  have b3 := K.small H htr (show k ≤ i by omega) hin (Nat.le_refl k) hkn
  have b4 := K.small H htr (Nat.le_refl k) hkn (show k ≤ j by omega) hj
  have m1 := mul_box b1 b2
  have m2 := mul_box b3 b4
  have hsyl := syl A k i j (by omega)
  have hval : wrap64 (Int.tdiv (wrap64 ((wrap64 (F i j * F k k)) - (wrap64 (F i k * F k j)))) (dt k A)) = mnB A (k + 1) i j := by
   rw [f1, f2, f3, f4, wrap64_id (x := mnB A k i j * mnB A k k k) (by omega) (by omega), wrap64_id (x := mnB A k i k * mnB A k k j) (by omega) (by omega), wrap64_id (x := mnB A k i j * mnB A k k k - mnB A k i k * mnB A k k j) (by omega) (by omega)]
   have e : mnB A k i j * mnB A k k k - mnB A k i k * mnB A k k j = dt k A * mnB A (k + 1) i j := by rw [hsyl, Int.mul_comm (mnB A k i j)]
   rw [e, Int.mul_tdiv_cancel_left _ (by omega)]
   have K' := Stage.next H K hkn hz
   have b5 := K'.small H htr (show k + 1 ≤ i by omega) hin (show k + 1 ≤ j by omega) hj
   exact wrap64_id (by omega) (by omega)
  have hM : (mat n n F).set i ((rd_L2 (mat n n F) (i : Int)).set j (wrap64 (Int.tdiv (wrap64 ((wrap64 (rd (rd_L2 (mat n n F) (i : Int)) (j : Int) * rd (rd_L2 (mat n n F) (k : Int)) (k : Int))) - (wrap64 (rd (rd_L2 (mat n n F) (i : Int)) (k : Int) * rd (rd_L2 (mat n n F) (k : Int)) (j : Int))))) (dt k A)))) = mat n n (put F i j (mnB A (k + 1) i j)) := by
   rw [mat_put hin hj, rd_mat hin, rd_mat hkn, rd_dlist hj, rd_dlist hkn, rd_dlist hkn, rd_dlist hj, hval]
  rw [Int.toNat_natCast, Int.toNat_natCast, hM, wsucc (by omega)]
  refine bar_l3 K hz hki hin next d (j + 1) _ (by omega) (by omega) ?_
  intro r s h1 h2 h3 h4
  by_cases e : r = i ∧ s = j
  ·obtain ⟨rfl, rfl⟩ := e
   have eg : gst A k r (s + 1) r s = mnB A (k + 1) r s := if_pos ⟨by omega, by omega, .inr ⟨rfl, by omega⟩⟩
   rw [eg]
   unfold put upd
   simp
  ·have e0 : put F i j (mnB A (k + 1) i j) r s = F r s := by
    unfold put upd
    by_cases q : r = i
    ·have : ¬ s = j := fun q2 => e ⟨q, q2⟩
     simp only [q, if_true, this, if_false]
    ·simp only [q, if_false]
   rw [e0, hF r s h1 h2 h3 h4]
   unfold gst
   by_cases c1 : k < r ∧ k < s ∧ (r < i ∨ (r = i ∧ s < j))
   ·rw [if_pos c1, if_pos ⟨c1.1, c1.2.1, by omega⟩]
   ·rw [if_neg c1, if_neg (by omega)]
theorem bar_l2 {k : Nat} (K : Stage n A k) (hz : mnB A k k k ≠ 0) (hkn : k < n) {R : Int}
  (next : ∀ F, Good n A k n (k + 1) F → Ev (fun r => spec_l11Trees.l1 r n (mat n n F) (mnB A k k k) ((k + 1 : Nat) : Int)) R) :
  ∀ (d i : Nat) (F : Nat → Nat → Int), i + d = n → k < i → Good n A k i (k + 1) F → Ev (fun r => spec_l11Trees.l2 r n (mat n n F) (dt k A) k i) R
 | 0, i, F, hd, hki, hF => by
  obtain rfl : i = n := by omega
  refine Ev.step (fun _ => spec_l11Trees.l2.eq_2 ..) (Ev.ff (by omega) (Ev.tt (by omega) (Ev.tt (by rw [mat_len]; omega) (Ev.tt (by rw [rd_mat hkn, dlist_length]; omega) ?_))))
  have f2 : F k k = mnB A k k k := by rw [hF k k (by omega) hkn (by omega) hkn]; exact if_neg (by omega)
  rw [rd_mat hkn, rd_dlist hkn, f2, wsucc (by omega)]
  exact next F hF
 | d + 1, i, F, hd, hki, hF => by
  refine Ev.step (fun _ => spec_l11Trees.l2.eq_2 ..) (Ev.tt (by omega) ?_)
  rw [wsucc (by omega)]
  refine bar_l3 H htr hn K hz hki (by omega) (fun F' hF' => bar_l2 K hz hkn next d (i + 1) F' (by omega) (by omega) ?_) (n - (k + 1)) (k + 1) F (by omega) (by omega) hF
  intro r s h1 h2 h3 h4
  rw [hF' r s h1 h2 h3 h4]
  unfold gst
  by_cases c1 : k < r ∧ k < s ∧ (r < i ∨ (r = i ∧ s < n))
  ·rw [if_pos c1, if_pos (by omega)]
  ·rw [if_neg c1, if_neg (by omega)]
theorem bar_l1 : ∀ (d k : Nat) (F : Nat → Nat → Int), k + d + 1 = n → Stage n A k → Good n A k (k + 1) (k + 1) F → Ev (fun r => spec_l11Trees.l1 r n (mat n n F) (dt k A) k) (dt n A)
 | 0, k, F, hd, K, hF => by
  have hkn : k < n := by omega
  refine Ev.step (fun _ => spec_l11Trees.l1.eq_2 ..) ?_
  rw [wrap64_id (by omega) (by omega), show (n : Int) - 1 = (k : Int) by omega]
  refine Ev.ff (by omega) (Ev.ff (by omega) (Ev.tt (by omega) (Ev.tt (by rw [mat_len]; omega) (Ev.tt (by rw [rd_mat hkn, dlist_length]; omega) (Ev.ret ?_)))))
  rw [rd_mat hkn, rd_dlist hkn, hF k k (by omega) hkn (by omega) hkn]
  unfold gst
  rw [if_neg (by omega), mn_diag, show k + 1 = n by omega]
 | d + 1, k, F, hd, K, hF => by
  have hkn : k < n := by omega
  have f2 : F k k = mnB A k k k := by rw [hF k k (by omega) hkn (by omega) hkn]; exact if_neg (by omega)
  refine Ev.step (fun _ => spec_l11Trees.l1.eq_2 ..) ?_
  rw [wrap64_id (by omega) (by omega)]
  refine Ev.tt (by omega) (Ev.tt (by omega) (Ev.tt (by rw [mat_len]; omega) (Ev.tt (by rw [rd_mat hkn, dlist_length]; omega) ?_)))
  rw [rd_mat hkn, rd_dlist hkn, f2, wsucc (by omega)]
  refine Ev.ite (fun e => Ev.ret (K.toHeavyK.zero hkn e).symm) (fun e => ?_)
  have K' := Stage.next H K hkn e
  refine bar_l2 H htr hn K e hkn (fun F' hF' => ?_) (n - (k + 1)) (k + 1) F (by omega) (by omega) hF
  rw [mn_diag]
  refine bar_l1 d (k + 1) F' (by omega) K' ?_
  intro r s h1 h2 h3 h4
  rw [hF' r s (by omega) h2 (by omega) h4]
  unfold gst
  rw [if_pos ⟨by omega, by omega, .inl h2⟩, if_neg (by omega)]
omit H htr in
theorem bar_l0 {m : List (List Int)} {R : Int} (hm : m.length = n) (hrow : ∀ row ∈ m, row.length ≤ 1000) (next : Ev (fun r => spec_l11Trees.l1 r n m 1 0) R) : ∀ (d i : Nat), i + d = n → Ev (fun r => spec_l11Trees.l0 r m n (m.take i) i) R
 | 0, i, hd => by
  refine Ev.step (fun _ => spec_l11Trees.l0.eq_2 ..) (Ev.ff (by omega) ?_)
  rw [List.take_of_length_le (by omega)]
  exact next
 | d + 1, i, hd => by
  have hi : i < m.length := by omega
  have := hrow _ (List.getElem_mem hi)
  refine Ev.step (fun _ => spec_l11Trees.l0.eq_2 ..) (Ev.tt (by omega) (Ev.bnd0 rfl (Ev.tt (by omega) (Ev.tt (by omega) ?_))))
  rw [rdL_get hi, wsucc (by omega)]
  refine Ev.tt (by simp; omega) (Ev.tt (by rw [List.length_take]; omega) ?_)
  have := bar_l0 hm hrow next d (i + 1) (by omega)
  rw [List.take_succ_eq_append_getElem hi] at this
  rw [List.nil_append]
  exact this
theorem l11_ev : Ev (fun r => spec_l11Trees.f r (mat n n A)) (dt n A) := by
 unfold spec_l11Trees.f
 rw [mat_len]
 have hrow : ∀ row ∈ mat n n A, row.length ≤ 1000 := fun row hr => by
  unfold mat at hr
  obtain ⟨i, _, rfl⟩ := List.mem_map.1 hr
  rw [dlist_length]
  omega
 have := @bar_l0 n hn (mat n n A) (dt n A) (mat_len ..) hrow ?_ n 0 (by omega)
 ·rwa [List.take_zero] at this
 ·rcases Nat.eq_zero_or_pos n with h0 | h0
  ·refine Ev.step (fun _ => spec_l11Trees.l1.eq_2 ..) ?_
   rw [wrap64_id (by omega) (by omega)]
   refine Ev.ff (by omega) (Ev.tt (by omega) (Ev.ret ?_))
   rw [h0]
   rfl
  ·have := bar_l1 H htr hn (n - 1) 0 A (by omega) (Stage.start H) (fun r s _ _ _ _ => by
    unfold gst
    rw [if_neg (by omega), mn_zero])
   exact this
end
end Go.Proofs.Ytoohcdfokejkdaa.P
namespace Go.Proofs.Ytoohcdfokejkdaa.P
open Go.RowKit Go.Proofs.YtoohcdfokejkdaaW.PrintWords
set_option linter.unusedVariables false
set_option linter.unusedSimpArgs false

theorem spec_EndsOf_eq (w h g : Int) : spec_EndsOf.f w h g = some (endsI w h g) := by
 unfold spec_EndsOf.f endsI
 have hr0 := gapsOf_range w h
 rw [spec_CountGaps_eq, Option.bind_some, wrap64_id (x := gapsOf w h - 1) (by omega) (by omega), l01In_eq, Option.bind_some]
 by_cases hc : 0 ≤ g ∧ g < gapsOf w h
 ·rw [if_pos hc, if_pos (by simp; omega)]
  obtain ⟨hg, hgw⟩ := gapsOf_valid hc.1 hc.2
  have hgr := gridOk_iff.1 hg
  have hrr := gapsOf_range w h
  have hq0 : 0 ≤ (w - 1) * h := Int.mul_nonneg (by omega) (by omega)
  have hq1 : (w - 1) * h ≤ 3 * 4 := Int.mul_le_mul (by omega) (by omega) (by omega) (by omega)
  have hw1 : w - 1 = 0 → (w - 1) * h = 0 := fun e => by rw [e, Int.zero_mul]
  rw [spec_l02East_eq hg]
  unfold eastOf
  simp only [Option.bind_some]
  rw [wrap64_id (x := w - 1) (by omega) (by omega)]
  by_cases hlt : g < (w - 1) * h
  ·rw [if_pos hlt, if_pos hlt]
   have hne : w - 1 ≠ 0 := fun e => by have := hw1 e; omega
   have ha0 : 0 ≤ g / (w - 1) := Int.ediv_nonneg hc.1 (by omega)
   have ha1 : g / (w - 1) ≤ g := Int.ediv_le_self _ hc.1
   have hb0 : 0 ≤ g % (w - 1) := Int.emod_nonneg _ (by omega)
   have hb1 : g % (w - 1) < w - 1 := Int.emod_lt_of_pos _ (by omega)
   have hp0 : 0 ≤ g / (w - 1) * w := Int.mul_nonneg ha0 (by omega)
   have hp1 : g / (w - 1) * w ≤ 23 * 4 := Int.mul_le_mul (by omega) (by omega) (by omega) (by omega)
   rw [if_neg hne, Int.tmod_eq_emod_of_nonneg hc.1, Int.tdiv_eq_ediv_of_nonneg hc.1, wrap64_id (x := g / (w - 1)) (by omega) (by omega), wrap64_id (x := g / (w - 1) * w) (by omega) (by omega), wrap64_id (x := g / (w - 1) * w + g % (w - 1)) (by omega) (by omega), wrap64_id (by omega) (by omega)]
  ·rw [if_neg hlt, if_neg hlt]
   rw [wrap64_id (x := g - (w - 1) * h) (by omega) (by omega), wrap64_id (by omega) (by omega)]
 ·rw [if_neg hc, if_neg (by simp; omega)]
end Go.Proofs.Ytoohcdfokejkdaa.P
namespace Go.Proofs.Ytoohcdfokejkdaa.P
open Go.RowKit Go.Proofs.YtoohcdfokejkdaaW.PrintWords
set_option linter.unusedVariables false
set_option linter.unusedSimpArgs false

theorem mat_four2 {g n A B : Nat} {f : Nat → Nat → Int} {R : Int} (G : Nat → List (List Int) → Option Int) (hB : Bd f g) (hg : g ≤ 24) (p1 : A < n) (p2 : B < n)
  (ih : Ev (fun k => G k (mat n n (put (put (put (put f A A (f A A + 1)) B B (put f A A (f A A + 1) B B + 1)) A B (put (put f A A (f A A + 1)) B B (put f A A (f A A + 1) B B + 1) A B - 1)) B A
   (put (put (put f A A (f A A + 1)) B B (put f A A (f A A + 1) B B + 1)) A B (put (put f A A (f A A + 1)) B B (put f A A (f A A + 1) B B + 1) A B - 1) B A - 1)))) R) :
  Ev (fun k => if 0 ≤ (A : Int) then if (A : Int) < ((mat n n f).length : Int) then if (A : Int) < ((rd_L2 (mat n n f) (A : Int)).length : Int) then
   (some ((mat n n f).set A ((rd_L2 (mat n n f) (A : Int)).set A (wrap64 (rd (rd_L2 (mat n n f) (A : Int)) (A : Int) + 1))))).bind fun y133 =>
   if 0 ≤ (B : Int) then if (B : Int) < ((mat n n f).length : Int) then if (B : Int) < ((rd_L2 y133 (B : Int)).length : Int) then
   (some (y133.set B ((rd_L2 y133 (B : Int)).set B (wrap64 (rd (rd_L2 y133 (B : Int)) (B : Int) + 1))))).bind fun y138 =>
   if (B : Int) < ((rd_L2 y138 (A : Int)).length : Int) then
   (some (y138.set A ((rd_L2 y138 (A : Int)).set B (wrap64 (rd (rd_L2 y138 (A : Int)) (B : Int) - 1))))).bind fun y143 =>
   if (A : Int) < ((rd_L2 y143 (B : Int)).length : Int) then
    G k (y143.set B ((rd_L2 y143 (B : Int)).set A (wrap64 (rd (rd_L2 y143 (B : Int)) (A : Int) - 1))))
   else none else none else none else none else none else none else none else none) R := by
 have b0 : 0 ≤ (g : Int) := by omega
 have v1 := hB A A
 have hB1 := bd_put (a := A) (b := A) (v := f A A + 1) hB b0 (by omega) (by omega)
 have v2 := hB1 B B
 have hB2 := bd_put (a := B) (b := B) (v := put f A A (f A A + 1) B B + 1) hB1 (by omega) (by omega) (by omega)
 have v3 := hB2 A B
 have hB3 := bd_put (a := A) (b := B) (v := put (put f A A (f A A + 1)) B B (put f A A (f A A + 1) B B + 1) A B - 1) hB2 (by omega) (by omega) (by omega)
 refine Ev.tt (by omega) (Ev.tt (by rw [mat_len]; omega) (Ev.tt (by rw [rd_mat p1, dlist_length]; omega) ?_))
 refine Ev.bnd0 (congrArg some (mat_inc hB (by omega) p1 p1)) ?_
 refine Ev.tt (by omega) (Ev.tt (by rw [mat_len]; omega) (Ev.tt (by rw [rd_mat p2, dlist_length]; omega) ?_))
 refine Ev.bnd0 (congrArg some (mat_inc hB1 (by omega) p2 p2)) ?_
 refine Ev.tt (by rw [rd_mat p1, dlist_length]; omega) ?_
 refine Ev.bnd0 (congrArg some (mat_dec hB2 (by omega) p1 p2)) ?_
 refine Ev.tt (by rw [rd_mat p2, dlist_length]; omega) ?_
 rw [mat_dec hB3 (by omega) p2 p1]
 exact ih
theorem dlist_drop1 (n : Nat) (D : Nat → Int) : (dlist (n + 1) D).drop 1 = dlist n fun i => D (i + 1) := by
 rw [← dlist_erase0]
 simp
theorem tail_l0 {n : Nat} {M : Nat → Nat → Int} {R : Int} (hn : n ≤ 1000) (next : Ev (fun k => spec_l11Trees.f k (mat n n fun i j => M (i + 1) (j + 1))) R) :
  ∀ d i : Nat, i + d = n → Ev (fun k => spec_l12Tail.l0 k ((n + 1 : Nat) : Int) (mat (n + 1) (n + 1) M) (mat i n fun i j => M (i + 1) (j + 1)) ((i + 1 : Nat) : Int)) R
 | 0, i, hd => by
  obtain rfl : i = n := by omega
  exact Ev.step (fun _ => spec_l12Tail.l0.eq_2 ..) (Ev.ff (by omega) (Ev.bind next (Ev.ret rfl)))
 | d + 1, i, hd => by
  have hi : i + 1 < n + 1 := by omega
  refine Ev.step (fun _ => spec_l12Tail.l0.eq_2 ..) (Ev.tt (by omega) (Ev.tt (by omega) (Ev.tt (by rw [mat_len]; omega) (Ev.tt (by rw [rd_mat hi, dlist_length]; omega) (Ev.tt (by rw [mat_len]; omega) ?_)))))
  rw [rd_mat hi, dlist_drop1, wsucc (by omega)]
  have := tail_l0 hn next d (i + 1) (by omega)
  rw [← mat_app (n := i)] at this
  exact this
section
variable {w h : Int} {c b : Nat} (hg : gridOk w h = true) (hc : c < 2 ^ gapsN w h) (hb : b < 2 ^ gapsN w h)
include hg hc hb
theorem l12_tail (hf : pop (gapsN w h) c + partsN w h c = cellsN w h) (hd : ∀ i, c.testBit i = true → b.testBit i = false) :
  Ev (fun k => spec_l12Tail.f k (mat (partsN w h c) (partsN w h c) (pm (ends w h) (gapsN w h) (plN w h c) (und c b))) (partsN w h c : Nat)) ((totN w h c b : Nat) : Int) := by
 have hV := cells_pos hg
 have hp : 0 < partsN w h c := parts_pos hc (by omega)
 have h16 := partsN_le w h c
 have h24 := gapsN_le w h
 have htot := trees_place (gr_grid w h) hV hc hb hd hf
 obtain ⟨n, hn⟩ : ∃ n, partsN w h c = n + 1 := ⟨partsN w h c - 1, by omega⟩
 have hH : Heavy n (pB (ends w h) (gapsN w h) (plN w h c) (und c b)) := pm_heavy (V := cellsN w h) (fun x hx => by
  have : plN w h c x < partsN w h c := plN_lt hx
  omega) (gr_grid w h)
 have htr := pm_trace (e := ends w h) (E := gapsN w h) (n := n) (P := plN w h c) (U := und c b)
 have h11 := l11_ev hH (by omega) (by omega)
 have hpn : parts (ends w h) (cellsN w h) (gapsN w h) c - 1 = n := by unfold partsN at hn; omega
 rw [hpn] at htot
 have he : dt n (pB (ends w h) (gapsN w h) (plN w h c) (und c b)) = ((totN w h c b : Nat) : Int) := htot.symm
 rw [he] at h11
 rw [hn]
 unfold spec_l12Tail.f
 exact tail_l0 (by omega) h11 n 0 (by omega)
omit hg in
theorem l12_l3 {R : Int} (next : Ev (fun k => spec_l12Tail.f k (mat (partsN w h c) (partsN w h c) (pm (ends w h) (gapsN w h) (plN w h c) (und c b))) (partsN w h c : Nat)) R) :
  ∀ d g : Nat, g + d = gapsN w h → Ev (fun k => spec_l12Trees.l3 k ((c ||| b : Nat) : Int) (dlist (cellsN w h) fun x => (plN w h c x : Nat)) (partsN w h c : Nat) (mat (partsN w h c) (partsN w h c) (pm (ends w h) g (plN w h c) (und c b))) g w h) R
 | 0, g, hd => by
  have hcc := gapsN_cast w h
  obtain rfl : g = gapsN w h := by omega
  exact Ev.step (fun _ => spec_l12Trees.l3.eq_2 ..) (Ev.bnd0 (spec_CountGaps_eq w h) (Ev.ff (by omega) (Ev.bind next (Ev.ret rfl))))
 | d + 1, g, hd => by
  have hcc := gapsN_cast w h
  have h24 := gapsN_le w h
  have hgg : g < gapsN w h := by omega
  obtain ⟨e1, e2, e3⟩ := ends_facts hgg
  have hor : (c ||| b) < 2 ^ gapsN w h := Nat.or_lt_two_pow hc hb
  have hos := open_small hor
  have ih := l12_l3 next d (g + 1) (by omega)
  have p1 : plN w h c (ends w h g).1 < partsN w h c := plN_lt (by omega)
  have p2 : plN w h c (ends w h g).2 < partsN w h c := plN_lt e3
  have hun : und c b g = !(c ||| b).testBit g := by unfold und; rw [Nat.testBit_or]; cases c.testBit g <;> cases b.testBit g <;> rfl
  refine Ev.step (fun _ => spec_l12Trees.l3.eq_2 ..) (Ev.bnd0 (spec_CountGaps_eq w h) (Ev.tt (by omega) (Ev.bnd0 (spec_EndsOf_eq w h g) (Ev.bnd0 (spec_l03Bit_eq hos (by omega)) ?_))))
  rw [openI_nat', wsucc (by omega), e1]
  refine Ev.ite (fun e => ?_) (fun e => ?_)
  ·rw [pm_succ, if_neg (by rw [hun, e]; simp)] at ih
   exact ih
  ·refine Ev.tt (by omega) (Ev.tt (by rw [dlist_length]; omega) (Ev.tt (by omega) (Ev.tt (by rw [dlist_length]; omega) ?_)))
   rw [rd_dlist (show (ends w h g).1 < cellsN w h by omega), rd_dlist e3]
   refine Ev.ite (fun e4 => ?_) (fun e4 => ?_)
   ·rw [pm_same (show plN w h c (ends w h g).1 = plN w h c (ends w h g).2 by omega)] at ih
    exact ih
   ·rw [pm_succ, if_pos (by rw [hun, Bool.eq_false_iff.2 e]; rfl)] at ih
    have hB := pm_bd (ends w h) (plN w h c) (und c b) g
    rw [← four_put] at ih
    rw [Int.toNat_natCast, Int.toNat_natCast]
    generalize hAA : plN w h c (ends w h g).1 = A at *
    generalize hBB : plN w h c (ends w h g).2 = B at *
    generalize pm (ends w h) g (plN w h c) (und c b) = f at *
    exact mat_four2 (fun k M => spec_l12Trees.l3 k ((c ||| b : Nat) : Int) (dlist (cellsN w h) fun x => (plN w h c x : Nat)) (partsN w h c : Nat) M ((g + 1 : Nat) : Int) w h) hB (by omega) p1 p2 ih
omit hg hc hb in
theorem l12_l2 {R : Int} (L : List Int) (next : Ev (fun k => spec_l12Trees.l3 k ((c ||| b : Nat) : Int) L (partsN w h c : Nat) (mat (partsN w h c) (partsN w h c) fun _ _ => 0) 0 w h) R) :
  ∀ d i : Nat, i + d = partsN w h c → Ev (fun k => spec_l12Trees.l2 k ((c ||| b : Nat) : Int) L (partsN w h c : Nat) (mat i (partsN w h c) fun _ _ => 0) i w h) R
 | 0, i, hd => by
  obtain rfl : i = partsN w h c := by omega
  exact Ev.step (fun _ => spec_l12Trees.l2.eq_2 ..) (Ev.ff (by omega) next)
 | d + 1, i, hd => by
  have h16 := partsN_le w h c
  refine Ev.step (fun _ => spec_l12Trees.l2.eq_2 ..) (Ev.tt (by omega) (Ev.tt (by omega) (Ev.tt (by omega) (Ev.tt (by rw [mat_len]; omega) ?_))))
  rw [Int.toNat_natCast, zeros_dlist, wsucc (by omega)]
  have := l12_l2 L next d (i + 1) (by omega)
  rw [← mat_app (n := i)] at this
  exact this
end
section
variable {w h : Int} {c : Nat} (hc : c < 2 ^ gapsN w h) {P : Nat → Int} (hP : ∀ x y, x < cellsN w h → y < cellsN w h → (P x = P y ↔ labN w h c x = labN w h c y))
include hc hP
def plst (w h : Int) (c i j x : Nat) : Int := if x < i then (plN w h c x : Nat) else if x = i then (if labN w h c i < j then (plN w h c i : Nat) else -1) else 0
omit hc in
theorem l12_l1 {X R : Int} {i n : Nat} (hi : i < cellsN w h)
  (next : Ev (fun k => spec_l12Trees.l1 k X (dlist (cellsN w h) P) (dlist (cellsN w h) (plst w h c i i)) n i i w h) R) :
  ∀ d j : Nat, j + d = i → Ev (fun k => spec_l12Trees.l1 k X (dlist (cellsN w h) P) (dlist (cellsN w h) (plst w h c i j)) n i j w h) R
 | 0, j, hd => by
  rw [show j = i by omega]
  exact next
 | d + 1, j, hd => by
  have h16 := cellsN_le w h
  have hj : j < cellsN w h := by omega
  refine Ev.step (fun _ => spec_l12Trees.l1.eq_2 ..) (Ev.tt (by omega) (Ev.tt (by omega) (Ev.tt (by rw [dlist_length]; omega) (Ev.tt (by omega) (Ev.tt (by rw [dlist_length]; omega) ?_)))))
  rw [rd_dlist hj, rd_dlist hi, wsucc (by omega)]
  have ih := l12_l1 hi next d (j + 1) (by omega)
  refine Ev.ite (fun e => Ev.tt (by rw [dlist_length]; omega) (Ev.tt (by rw [dlist_length]; omega) ?_)) (fun e => ?_)
  ·have hl := (hP j i hj hi).1 e
   have hle : labN w h c j ≤ j := lab_le _ _ _ _
   have hpl : plN w h c j = plN w h c i := plc_eq.2 hl
   rw [rd_dlist hj, Int.toNat_natCast, dlist_set hi]
   have e0 : dlist (cellsN w h) (upd (plst w h c i j) i (plst w h c i j j)) = dlist (cellsN w h) (plst w h c i (j + 1)) := by
    unfold dlist upd
    refine List.map_congr_left fun x _ => ?_
    by_cases q : x = i
    ·subst q
     rw [if_pos rfl]
     unfold plst
     rw [if_pos (by omega), if_neg (by omega), if_pos rfl, if_pos (by omega), hpl]
    ·rw [if_neg q]
     unfold plst
     by_cases q2 : x < i
     ·rw [if_pos q2, if_pos q2]
     ·rw [if_neg q2, if_neg q, if_neg q2, if_neg q]
   rw [e0]
   exact ih
  ·have hne : labN w h c i ≠ j := by
    intro q
    apply e
    rw [hP j i hj hi, ← q]
    exact lab_lab _ _ _ _
   have e0 : dlist (cellsN w h) (plst w h c i j) = dlist (cellsN w h) (plst w h c i (j + 1)) := by
    unfold dlist plst
    refine List.map_congr_left fun x _ => ?_
    by_cases q2 : x < i
    ·rw [if_pos q2, if_pos q2]
    ·rw [if_neg q2, if_neg q2]
     by_cases q : x = i
     ·rw [if_pos q, if_pos q]
      by_cases q3 : labN w h c i < j
      ·rw [if_pos q3, if_pos (by omega)]
      ·rw [if_neg q3, if_neg (by omega)]
     ·rw [if_neg q, if_neg q]
   rw [e0]
   exact ih
omit hc in
theorem l12_l0 {X R : Int} (next : Ev (fun k => spec_l12Trees.l2 k X (dlist (cellsN w h) fun x => (plN w h c x : Nat)) (partsN w h c : Nat) [] 0 w h) R) :
  ∀ d i : Nat, i + d = cellsN w h → Ev (fun k => spec_l12Trees.l0 k X (dlist (cellsN w h) P) (dlist (cellsN w h) fun x => if x < i then (plN w h c x : Nat) else 0) (cnt (fun z => lab (ends w h) c (gapsN w h) z == z) i : Nat) i w h) R
 | 0, i, hd => by
  obtain rfl : i = cellsN w h := by omega
  have e1 : (dlist (cellsN w h) fun x => if x < cellsN w h then (plN w h c x : Int) else 0) = dlist (cellsN w h) fun x => (plN w h c x : Nat) := by
   unfold dlist
   exact List.map_congr_left fun x hx => by rw [if_pos (List.mem_range.1 hx)]
  rw [e1]
  exact Ev.step (fun _ => spec_l12Trees.l0.eq_2 ..) (Ev.ff (by rw [dlist_length]; omega) next)
 | d + 1, i, hd => by
  have h16 := cellsN_le w h
  have hi : i < cellsN w h := by omega
  have hle : labN w h c i ≤ i := lab_le _ _ _ _
  have hcl := cnt_le (fun z => lab (ends w h) c (gapsN w h) z == z) i
  have ih := l12_l0 next d (i + 1) (by omega)
  refine Ev.step (fun _ => spec_l12Trees.l0.eq_2 ..) (Ev.tt (by rw [dlist_length]; omega) (Ev.tt (by omega) (Ev.tt (by rw [dlist_length]; omega) ?_)))
  rw [Int.toNat_natCast, dlist_set hi]
  have e0 : dlist (cellsN w h) (upd (fun x => if x < i then (plN w h c x : Int) else 0) i (-1)) = dlist (cellsN w h) (plst w h c i 0) := by
   unfold dlist upd plst
   refine List.map_congr_left fun x _ => ?_
   by_cases q : x = i
   ·subst q; rw [if_pos rfl, if_neg (by omega), if_pos rfl, if_neg (by omega)]
   ·rw [if_neg q]
    show (if x < i then (plN w h c x : Int) else 0) = _
    by_cases q2 : x < i
    ·rw [if_pos q2, if_pos q2]
    ·rw [if_neg q2, if_neg q2, if_neg q]
  rw [e0]
  refine l12_l1 hP hi ?_ i 0 (by omega)
  refine Ev.step (fun _ => spec_l12Trees.l1.eq_2 ..) (Ev.ff (by omega) (Ev.tt (by omega) (Ev.tt (by rw [dlist_length]; omega) ?_)))
  rw [rd_dlist hi, wsucc (show i < 4611686018427387904 by omega)]
  have hv : plst w h c i i i = if labN w h c i < i then (plN w h c i : Int) else -1 := by
   unfold plst
   rw [if_neg (by omega), if_pos rfl]
  rw [hv]
  have key : ∀ v : Int, v = (plN w h c i : Int) → dlist (cellsN w h) (upd (plst w h c i i) i v) = dlist (cellsN w h) fun x => if x < i + 1 then (plN w h c x : Int) else 0 := by
   intro v hv
   unfold dlist upd
   refine List.map_congr_left fun x _ => ?_
   by_cases q : x = i
   ·subst q; rw [if_pos rfl, if_pos (by omega), hv]
   ·rw [if_neg q]
    unfold plst
    by_cases q2 : x < i
    ·rw [if_pos q2, if_pos (by omega)]
    ·rw [if_neg q2, if_neg q, if_neg (by omega)]
  by_cases q : labN w h c i < i
  ·rw [if_pos q]
   refine Ev.ff (by omega) ?_
   have : cnt (fun z => lab (ends w h) c (gapsN w h) z == z) (i + 1) = cnt (fun z => lab (ends w h) c (gapsN w h) z == z) i := by
    have hne : (lab (ends w h) c (gapsN w h) i == i) = false := by
     rw [beq_eq_false_iff_ne]
     intro hq
     unfold labN at q
     omega
    show cnt _ i + (lab (ends w h) c (gapsN w h) i == i).toNat = _
    rw [hne]
    rfl
   rw [this] at ih
   have e5 : dlist (cellsN w h) (plst w h c i i) = dlist (cellsN w h) fun x => if x < i + 1 then (plN w h c x : Int) else 0 := by
    rw [← key _ rfl]
    unfold dlist upd
    refine List.map_congr_left fun x _ => ?_
    by_cases q3 : x = i
    ·subst q3; rw [if_pos rfl, hv, if_pos q]
    ·rw [if_neg q3]
   rw [e5]
   exact ih
  ·rw [if_neg q]
   have hl : labN w h c i = i := by omega
   refine Ev.tt (by omega) ?_
   rw [Int.toNat_natCast, dlist_set hi, key _ (by rw [plc_first hl]), wsucc (by omega)]
   have : cnt (fun z => lab (ends w h) c (gapsN w h) z == z) (i + 1) = cnt (fun z => lab (ends w h) c (gapsN w h) z == z) i + 1 := by
    have heq : (lab (ends w h) c (gapsN w h) i == i) = true := by
     rw [beq_iff_eq]; exact hl
    show cnt _ i + (lab (ends w h) c (gapsN w h) i == i).toNat = _
    rw [heq]
    rfl
   rw [this] at ih
   exact ih
theorem l12_ev {b : Nat} (hg : gridOk w h = true) (hb : b < 2 ^ gapsN w h) (hf : pop (gapsN w h) c + partsN w h c = cellsN w h) (hd : ∀ i, c.testBit i = true → b.testBit i = false) :
  Ev (fun k => spec_l12Trees.f k w h ((c ||| b : Nat) : Int) (dlist (cellsN w h) P)) ((totN w h c b : Nat) : Int) := by
 have h16 := cellsN_le w h
 unfold spec_l12Trees.f
 rw [dlist_length]
 refine Ev.tt (by omega) (Ev.tt (by omega) ?_)
 rw [Int.toNat_natCast, zeros_dlist]
 have := l12_l0 hP (l12_l2 _ (l12_l3 hc hb (l12_tail hg hc hb hf hd) (gapsN w h) 0 (by omega)) (partsN w h c) 0 (by omega)) (cellsN w h) 0 (by omega)
 have e0 : (dlist (cellsN w h) fun x => if x < 0 then (plN w h c x : Int) else 0) = dlist (cellsN w h) fun _ => 0 := by
  unfold dlist
  exact List.map_congr_left fun x _ => by rw [if_neg (by omega)]
 rw [e0] at this
 exact this
end
end Go.Proofs.Ytoohcdfokejkdaa.P
namespace Go.Proofs.Ytoohcdfokejkdaa.P
open Go.RowKit Go.Proofs.YtoohcdfokejkdaaW.PrintWords
set_option linter.unusedVariables false
set_option linter.unusedSimpArgs false

section
variable {e : Nat → Nat × Nat} {V E : Nat}
structure KInv (e : Nat → Nat × Nat) (V E : Nat) (done : Nat → Prop) (P : Nat → Int) (o : Nat) : Prop where
 lt : o < 2 ^ E
 lab : ∀ x y, x < V → y < V → (P x = P y ↔ Cn e o x y)
 fo : pop E o + parts e V E o = V
 dn : ∀ g, g < E → done g → Cn e o (e g).1 (e g).2
theorem pop_zero' (E : Nat) : pop E 0 = 0 := by
 induction E with
 | zero => rfl
 | succ m ih => simp only [pop, Nat.zero_testBit, ih]; rfl
theorem KInv.start {P : Nat → Int} (hP : ∀ x, P x = x) : KInv e V E (fun _ => False) P 0 := by
 refine ⟨Nat.two_pow_pos E, fun x y _ _ => ?_, ?_, fun _ _ h => h.elim⟩
 ·rw [hP, hP, Cn_zero]
  omega
 ·rw [parts_zero, pop_zero', Nat.zero_add]
theorem KInv.skip {done : Nat → Prop} {P : Nat → Int} {o g : Nat} (hG : Gr e V E) (K : KInv e V E done P o) (hg : g < E) (h : P (e g).1 = P (e g).2) : KInv e V E (fun j => done j ∨ j = g) P o :=
 ⟨K.lt, K.lab, K.fo, fun j hj hd => hd.elim (K.dn j hj) (fun h2 => by subst h2; exact (K.lab _ _ (hG j hg).1 (hG j hg).2).1 h)⟩
theorem KInv.join {done : Nat → Prop} {P : Nat → Int} {o g : Nat} (hG : Gr e V E) (K : KInv e V E done P o) (hg : g < E) (h : ¬ P (e g).1 = P (e g).2) :
  KInv e V E (fun j => done j ∨ j = g) (fun x => if P x = P (e g).2 then P (e g).1 else P x) (setB o g true) := by
 obtain ⟨g1, g2⟩ := hG g hg
 have hnc : ¬ Cn e o (e g).1 (e g).2 := fun hc => h ((K.lab _ _ g1 g2).2 hc)
 have hb : o.testBit g = false := by
  cases hb : o.testBit g
  ·rfl
  ·exact absurd (Cn.edge hb) hnc
 refine ⟨setB_lt true K.lt hg, fun x y hx hy => ?_, ?_, fun j hj hd => ?_⟩
 ·rw [Cn_add, ← K.lab x y hx hy, ← K.lab x _ hx g1, ← K.lab _ y g2 hy, ← K.lab x _ hx g2, ← K.lab _ y g1 hy]
  show (if P x = P (e g).2 then P (e g).1 else P x) = (if P y = P (e g).2 then P (e g).1 else P y) ↔ _
  by_cases e1 : P x = P (e g).2 <;> by_cases e2 : P y = P (e g).2
  ·rw [if_pos e1, if_pos e2, e1, e2]; simp
  ·rw [if_pos e1, if_neg e2]
   constructor
   ·intro e3; exact Or.inr (Or.inr ⟨e1, e3⟩)
   ·rintro (e3 | ⟨e3, e4⟩ | ⟨_, e4⟩)
    ·exact absurd (e3.symm.trans e1) e2
    ·exact absurd e4.symm e2
    ·exact e4
  ·rw [if_neg e1, if_pos e2]
   constructor
   ·intro e3; exact Or.inr (Or.inl ⟨e3, e2.symm⟩)
   ·rintro (e3 | ⟨e3, _⟩ | ⟨e3, _⟩)
    ·exact absurd (e3.trans e2) e1
    ·exact e3
    ·exact absurd e3 e1
  ·rw [if_neg e1, if_neg e2]
   constructor
   ·exact Or.inl
   ·rintro (e3 | ⟨_, e4⟩ | ⟨e3, _⟩)
    ·exact e3
    ·exact absurd e4.symm e2
    ·exact absurd e3 e1
 ·have h1 := (parts_add (v := V) K.lt hg g1 g2).2 hnc
  have h2 := K.fo
  rw [pop_setB hg hb]
  omega
 ·rcases hd with hd | rfl
  ·exact Cn.mono (fun i hi => by rw [testBit_setB]; split <;> simp_all) (K.dn j hj hd)
  ·have : (setB o j true).testBit j = true := setB_bit o j true
   exact Cn.edge this
end
end Go.Proofs.Ytoohcdfokejkdaa.P
namespace Go.Proofs.Ytoohcdfokejkdaa.P
open Go.RowKit Go.Proofs.YtoohcdfokejkdaaW.PrintWords
set_option linter.unusedVariables false
set_option linter.unusedSimpArgs false

section
variable {w h : Int} {c b : Nat} (hg : gridOk w h = true) (hc : c < 2 ^ gapsN w h) (hb : b < 2 ^ gapsN w h) (hd : ∀ i, c.testBit i = true → b.testBit i = false)
include hg hc hb hd
omit hg hc hb hd in
theorem join_l2 {E g : Int} {P : Nat → Int} {e1 : Nat} {old : Int} {R : Int} (he : e1 < cellsN w h) (hne : ¬ P e1 = old)
  (next : Ev (fun k => spec_CountFixed.l1 k c b E (dlist (cellsN w h) fun x => if P x = old then P e1 else P x) (wrap64 (g + 1)) w h) R) :
  ∀ d i : Nat, i + d = cellsN w h → Ev (fun k => spec_CountFixed.l2 k c b E (dlist (cellsN w h) fun x => if x < i then (if P x = old then P e1 else P x) else P x) g e1 old i w h) R
 | 0, i, hd => by
  obtain rfl : i = cellsN w h := by omega
  refine Ev.step (fun _ => spec_CountFixed.l2.eq_2 ..) (Ev.ff (by rw [dlist_length]; omega) ?_)
  have e0 : (dlist (cellsN w h) fun x => if x < cellsN w h then (if P x = old then P e1 else P x) else P x) = dlist (cellsN w h) fun x => if P x = old then P e1 else P x := by
   unfold dlist
   exact List.map_congr_left fun x hx => if_pos (List.mem_range.1 hx)
  rw [e0]
  exact next
 | d + 1, i, hd => by
  have h16 := cellsN_le w h
  have hi : i < cellsN w h := by omega
  have ih := join_l2 he hne next d (i + 1) (by omega)
  refine Ev.step (fun _ => spec_CountFixed.l2.eq_2 ..) (Ev.tt (by rw [dlist_length]; omega) (Ev.tt (by omega) ?_))
  rw [rd_dlist hi, wsucc (by omega), if_neg (show ¬ i < i by omega)]
  have step : ∀ v : Int, v = (if P i = old then P e1 else P i) → dlist (cellsN w h) (upd (fun x => if x < i then (if P x = old then P e1 else P x) else P x) i v) = dlist (cellsN w h) fun x => if x < i + 1 then (if P x = old then P e1 else P x) else P x := by
   intro v hv
   unfold dlist upd
   refine List.map_congr_left fun x _ => ?_
   by_cases q : x = i
   ·subst q; rw [if_pos rfl, if_pos (by omega), hv]
   ·rw [if_neg q]
    show (if x < i then (if P x = old then P e1 else P x) else P x) = _
    by_cases q2 : x < i
    ·rw [if_pos q2, if_pos (show x < i + 1 by omega)]
    ·rw [if_neg q2, if_neg (show ¬ x < i + 1 by omega)]
  refine Ev.ite (fun e => Ev.tt (by omega) (Ev.tt (by rw [dlist_length]; omega) ?_)) (fun e => ?_)
  ·rw [rd_dlist he, Int.toNat_natCast, dlist_set hi, step _ (by
    rw [if_pos e]
    by_cases q : e1 < i
    ·rw [if_pos q, if_neg hne]
    ·rw [if_neg q])]
   exact ih
  ·have e0 : (dlist (cellsN w h) fun x => if x < i then (if P x = old then P e1 else P x) else P x) = dlist (cellsN w h) fun x => if x < i + 1 then (if P x = old then P e1 else P x) else P x := by
    rw [← step (P i) (by rw [if_neg e])]
    unfold dlist upd
    refine List.map_congr_left fun x _ => ?_
    by_cases q : x = i
    ·subst q; rw [if_pos rfl, if_neg (by omega)]
    ·rw [if_neg q]
   rw [e0]
   exact ih
theorem fixed_l1 : ∀ (d g : Nat) (P : Nat → Int), g + d = gapsN w h → KInv (ends w h) (cellsN w h) (gapsN w h) (fun _ => False) P (low c g) →
  Ev (fun k => spec_CountFixed.l1 k c b (gapsOf w h) (dlist (cellsN w h) P) g w h) ((totN w h c b : Nat) : Int)
 | 0, g, P, hgd, K => by
  have hcc := gapsN_cast w h
  obtain rfl : g = gapsN w h := by omega
  rw [low_all hc] at K
  have hcs := open_small hc
  have hbs := open_small hb
  refine Ev.step (fun _ => spec_CountFixed.l1.eq_2 ..) (Ev.ff (by omega) ?_)
  rw [bits_or (by omega) (by omega)]
  refine Ev.bind (l12_ev hc (fun x y hx hy => ?_) hg hb K.fo hd) (Ev.ret rfl)
  rw [K.lab x y hx hy]
  exact (lab_iff hc x y).symm
 | d + 1, g, P, hgd, K => by
  have hcc := gapsN_cast w h
  have h24 := gapsN_le w h
  have h16 := cellsN_le w h
  have hgg : g < gapsN w h := by omega
  have hcs := open_small hc
  obtain ⟨e1, e2, e3⟩ := ends_facts hgg
  refine Ev.step (fun _ => spec_CountFixed.l1.eq_2 ..) (Ev.tt (by omega) (Ev.bnd0 (spec_l03Bit_eq hcs (by omega)) ?_))
  rw [openI_nat']
  refine Ev.ite (fun eb => ?_) (fun eb => ?_)
  ·refine Ev.bnd0 (spec_EndsOf_eq w h g) ?_
   rw [e1]
   refine Ev.tt (by omega) (Ev.tt (by rw [dlist_length]; omega) (Ev.tt (by omega) (Ev.tt (by rw [dlist_length]; omega) ?_)))
   rw [rd_dlist (show (ends w h g).1 < cellsN w h by omega), rd_dlist e3]
   refine Ev.ite (fun el => Ev.ret ?_) (fun el => ?_)
   ·have hcn := (K.lab _ _ (by omega) e3).1 el
    have hbg := hd g eb
    have hc' : setB c g false < 2 ^ gapsN w h := setB_lt false hc hgg
    have hu : und (setB c g false) b g = true := by unfold und; rw [setB_bit, hbg]; rfl
    have hmono : Cn (ends w h) (setB c g false) (ends w h g).1 (ends w h g).2 := hcn.mono fun i hi => by
     rw [testBit_low, Bool.and_eq_true, decide_eq_true_eq] at hi
     rw [setB_ne _ (by omega)]
     exact hi.2
    have := trees_loop (gr_grid w h) hc' hgg hu hmono
    rw [setB_off_on eb] at this
    unfold totN
    rw [this]
    rfl
   ·have K' := KInv.join (gr_grid w h) K hgg el
    rw [← low_succ_set eb] at K'
    have K2 : KInv (ends w h) (cellsN w h) (gapsN w h) (fun _ => False) (fun x => if P x = P (ends w h g).2 then P (ends w h g).1 else P x) (low c (g + 1)) := ⟨K'.lt, K'.lab, K'.fo, fun _ _ h => h.elim⟩
    have ih := fixed_l1 d (g + 1) _ (by omega) K2
    have := join_l2 (w := w) (h := h) (c := c) (b := b) (E := gapsOf w h) (g := (g : Int)) (P := P) (e1 := (ends w h g).1) (old := P (ends w h g).2) (R := ((totN w h c b : Nat) : Int)) (by omega) el (by rw [wsucc (by omega)]; exact ih) (cellsN w h) 0 (by omega)
    have e0 : (dlist (cellsN w h) fun x => if x < 0 then (if P x = P (ends w h g).2 then P (ends w h g).1 else P x) else P x) = dlist (cellsN w h) P := by
     unfold dlist
     exact List.map_congr_left fun x _ => if_neg (by omega)
    rw [e0] at this
    exact this
  ·rw [wsucc (by omega)]
   have hl := low_succ_not (n := c) (k := g) (Bool.eq_false_iff.2 eb)
   rw [← hl] at K
   exact fixed_l1 d (g + 1) P (by omega) K
omit hb hd hc hg in
theorem fixed_l0 {E : Int} {R : Int} (next : Ev (fun k => spec_CountFixed.l1 k c b E (dlist (cellsN w h) fun x => (x : Int)) 0 w h) R) :
  ∀ d i : Nat, i + d = cellsN w h → Ev (fun k => spec_CountFixed.l0 k c b E (dlist (cellsN w h) fun x => if x < i then (x : Int) else 0) i w h) R
 | 0, i, hd => by
  obtain rfl : i = cellsN w h := by omega
  refine Ev.step (fun _ => spec_CountFixed.l0.eq_2 ..) (Ev.ff (by rw [dlist_length]; omega) ?_)
  have e0 : (dlist (cellsN w h) fun x => if x < cellsN w h then (x : Int) else 0) = dlist (cellsN w h) fun x => (x : Int) := by
   unfold dlist
   exact List.map_congr_left fun x hx => if_pos (List.mem_range.1 hx)
  rw [e0]
  exact next
 | d + 1, i, hd => by
  have h16 := cellsN_le w h
  have hi : i < cellsN w h := by omega
  refine Ev.step (fun _ => spec_CountFixed.l0.eq_2 ..) (Ev.tt (by rw [dlist_length]; omega) (Ev.tt (by omega) ?_))
  rw [Int.toNat_natCast, dlist_set hi, wsucc (by omega)]
  have e0 : dlist (cellsN w h) (upd (fun x => if x < i then (x : Int) else 0) i (i : Int)) = dlist (cellsN w h) fun x => if x < i + 1 then (x : Int) else 0 := by
   unfold dlist upd
   refine List.map_congr_left fun x _ => ?_
   by_cases q : x = i
   ·subst q; rw [if_pos rfl, if_pos (by omega)]
   ·rw [if_neg q]
    show (if x < i then (x : Int) else 0) = _
    by_cases q2 : x < i
    ·rw [if_pos q2, if_pos (by omega)]
    ·rw [if_neg q2, if_neg (by omega)]
  rw [e0]
  exact fixed_l0 next d (i + 1) (by omega)
theorem sf_j0 : Ev (fun k => spec_CountFixed.j0 k c b (gapsOf w h) false w h) ((totN w h c b : Nat) : Int) := by
 have hV := cellsN_cast w h
 have h16 := cellsN_le w h
 refine Ev.step (fun _ => spec_CountFixed.j0.eq_2 ..) (Ev.ff (by simp) (Ev.bnd0 (spec_CountCells_eq w h) ?_))
 rw [← hV]
 refine Ev.tt (by omega) (Ev.tt (by omega) ?_)
 rw [Int.toNat_natCast, zeros_dlist]
 have K0 : KInv (ends w h) (cellsN w h) (gapsN w h) (fun _ => False) (fun x => (x : Int)) (low c 0) := by
  rw [show low c 0 = 0 by unfold low; omega]
  exact KInv.start fun x => rfl
 have := fixed_l0 (fixed_l1 hg hc hb hd (gapsN w h) 0 _ (by omega) K0) (cellsN w h) 0 (by omega)
 have e0 : (dlist (cellsN w h) fun x => if x < 0 then (x : Int) else 0) = dlist (cellsN w h) fun _ => 0 := by
  unfold dlist
  exact List.map_congr_left fun x _ => if_neg (by omega)
 rw [e0] at this
 exact this
end
def cfI (w h a b : Int) : Int := if gridOk w h = true ∧ (0 ≤ a ∧ a < 2 ^ gapsN w h) ∧ (0 ≤ b ∧ b < 2 ^ gapsN w h) ∧ a.toNat &&& b.toNat = 0 then (totN w h a.toNat b.toNat : Nat) else 0
theorem cfI_nat {w h : Int} {a b : Nat} (hg : gridOk w h = true) (ha : a < 2 ^ gapsN w h) (hb : b < 2 ^ gapsN w h) (hd : ∀ i, a.testBit i = true → b.testBit i = false) : cfI w h a b = (totN w h a b : Nat) := by
 have e : a &&& b = 0 := by
  apply Nat.eq_of_testBit_eq
  intro i
  rw [Nat.testBit_and, Nat.zero_testBit]
  cases q : a.testBit i
  ·rfl
  ·rw [hd i q]; rfl
 unfold cfI
 have ha' : (a : Int) < 2 ^ gapsN w h := by exact_mod_cast ha
 have hb' : (b : Int) < 2 ^ gapsN w h := by exact_mod_cast hb
 rw [if_pos ⟨hg, ⟨by omega, ha'⟩, ⟨by omega, hb'⟩, by rw [Int.toNat_natCast, Int.toNat_natCast]; exact e⟩, Int.toNat_natCast, Int.toNat_natCast]
theorem and_zero {a b : Nat} (h : a &&& b = 0) (i : Nat) (hi : a.testBit i = true) : b.testBit i = false := by
 have := Nat.testBit_and a b i
 rw [h, Nat.zero_testBit, hi] at this
 simpa using this.symm
theorem cfI_range (w h a b : Int) : 0 ≤ cfI w h a b ∧ cfI w h a b ≤ 16777216 := by
 unfold cfI
 split
 ·have := totN_le w h a.toNat b.toNat; omega
 ·omega
theorem impl_CountFixed_ev (w h a b : Int) : Ev (fun k => impl_CountFixed.f k w h a b) (cfI w h a b) := by
 have hgr := gapsOf_range w h
 have h24 := gapsN_le w h
 have hcast := gapsN_cast w h
 have hS : wrap64 (shl .i64 1 (gapsOf w h) - 1) = 2 ^ gapsN w h - 1 := by
  have hp : (2 : Int) ^ gapsN w h = ((2 ^ gapsN w h : Nat) : Int) := by norm_cast
  have h2 : 2 ^ gapsN w h ≤ 2 ^ 24 := Nat.pow_le_pow_right (by decide) h24
  have h3 := Nat.two_pow_pos (gapsN w h)
  rw [shl_one hgr.1 hgr.2]
  have : (gapsOf w h).toNat = gapsN w h := rfl
  rw [this, hp, wrap64_id (by omega) (by omega)]
 have hp : (2 : Int) ^ gapsN w h = ((2 ^ gapsN w h : Nat) : Int) := by norm_cast
 have bad : ¬ (gridOk w h = true ∧ (0 ≤ a ∧ a < 2 ^ gapsN w h) ∧ (0 ≤ b ∧ b < 2 ^ gapsN w h) ∧ a.toNat &&& b.toNat = 0) → Ev (fun k => impl_CountFixed.j0 k a b true w h) (cfI w h a b) := by
  intro hc
  unfold cfI
  rw [if_neg hc]
  exact Ev.step (fun _ => impl_CountFixed.j0.eq_2 ..) (Ev.tt rfl (Ev.ret rfl))
 unfold impl_CountFixed.f
 refine Ev.bnd0 (impl_CountGaps_eq w h) (Ev.tt hgr.1 (Ev.bnd0 (impl_GridOk_eq w h) ?_))
 rw [hS]
 refine Ev.ite (fun hg => ?_) (fun hg => bad fun hc => hg hc.1)
 refine Ev.ite (fun q => bad fun hc => by omega) (fun q1 => Ev.ite (fun q => bad fun hc => by omega) (fun q2 => Ev.ite (fun q => bad fun hc => by omega) (fun q3 => Ev.ite (fun q => bad fun hc => by omega) (fun q4 => ?_))))
 obtain ⟨c, rfl⟩ := Int.eq_ofNat_of_zero_le (show 0 ≤ a by omega)
 obtain ⟨d, rfl⟩ := Int.eq_ofNat_of_zero_le (show 0 ≤ b by omega)
 have hc : c < 2 ^ gapsN w h := by omega
 have hd : d < 2 ^ gapsN w h := by omega
 have hcs := open_small hc
 have hds := open_small hd
 rw [bits_and (by omega) (by omega)]
 by_cases e : c &&& d = 0
 ·rw [e, cfI_nat hg hc hd (and_zero e)]
  exact cf_j0 hg hc hd (and_zero e)
 ·have : (((c &&& d : Nat) : Int) != 0) = true := by
   rw [bne_iff_ne]
   omega
  rw [this]
  exact bad fun hx => e (by have := hx.2.2.2; rwa [Int.toNat_natCast, Int.toNat_natCast] at this)
theorem spec_CountFixed_ev (w h a b : Int) : Ev (fun k => spec_CountFixed.f k w h a b) (cfI w h a b) := by
 have hgr := gapsOf_range w h
 have h24 := gapsN_le w h
 have hcast := gapsN_cast w h
 have hS : wrap64 (shl .i64 1 (gapsOf w h) - 1) = 2 ^ gapsN w h - 1 := by
  have hp : (2 : Int) ^ gapsN w h = ((2 ^ gapsN w h : Nat) : Int) := by norm_cast
  have h2 : 2 ^ gapsN w h ≤ 2 ^ 24 := Nat.pow_le_pow_right (by decide) h24
  have h3 := Nat.two_pow_pos (gapsN w h)
  rw [shl_one hgr.1 hgr.2]
  have : (gapsOf w h).toNat = gapsN w h := rfl
  rw [this, hp, wrap64_id (by omega) (by omega)]
 have hp : (2 : Int) ^ gapsN w h = ((2 ^ gapsN w h : Nat) : Int) := by norm_cast
 have bad : ¬ (gridOk w h = true ∧ (0 ≤ a ∧ a < 2 ^ gapsN w h) ∧ (0 ≤ b ∧ b < 2 ^ gapsN w h) ∧ a.toNat &&& b.toNat = 0) → Ev (fun k => spec_CountFixed.j0 k a b (gapsOf w h) true w h) (cfI w h a b) := by
  intro hc
  unfold cfI
  rw [if_neg hc]
  exact Ev.step (fun _ => spec_CountFixed.j0.eq_2 ..) (Ev.tt rfl (Ev.ret rfl))
 unfold spec_CountFixed.f
 refine Ev.bnd0 (spec_CountGaps_eq w h) (Ev.bnd0 (spec_GridOk_eq w h) ?_)
 refine Ev.ite (fun hg => Ev.tt hgr.1 ?_) (fun hg => bad fun hc => hg hc.1)
 rw [hS]
 refine Ev.bnd0 (l01In_eq _ _ _) (Ev.ite (fun q1 => Ev.bnd0 (l01In_eq _ _ _) (Ev.ite (fun q2 => ?_) (fun q2 => bad fun hc => q2 (decide_eq_true (by omega))))) (fun q1 => bad fun hc => q1 (decide_eq_true (by omega))))
 rw [decide_eq_true_eq] at q1 q2
 obtain ⟨c, rfl⟩ := Int.eq_ofNat_of_zero_le (show 0 ≤ a by omega)
 obtain ⟨d, rfl⟩ := Int.eq_ofNat_of_zero_le (show 0 ≤ b by omega)
 have hc : c < 2 ^ gapsN w h := by omega
 have hd : d < 2 ^ gapsN w h := by omega
 have hcs := open_small hc
 have hds := open_small hd
 rw [bits_and (by omega) (by omega)]
 by_cases e : c &&& d = 0
 ·rw [e, cfI_nat hg hc hd (and_zero e)]
  exact sf_j0 hg hc hd (and_zero e)
 ·have : (((c &&& d : Nat) : Int) != 0) = true := by
   rw [bne_iff_ne]
   omega
  rw [this]
  exact bad fun hx => e (by have := hx.2.2.2; rwa [Int.toNat_natCast, Int.toNat_natCast] at this)
end Go.Proofs.Ytoohcdfokejkdaa.P
namespace Go.Proofs.Ytoohcdfokejkdaa.P
open Go.RowKit Go.Proofs.YtoohcdfokejkdaaW.PrintWords
set_option linter.unusedVariables false
set_option linter.unusedSimpArgs false

theorem impl_CountAll_ev (w h : Int) : Ev (fun k => impl_CountAll.f k w h) (cfI w h 0 0) := Ev.bind (impl_CountFixed_ev ..) (Ev.ret rfl)
theorem spec_CountAll_ev (w h : Int) : Ev (fun k => spec_CountAll.f k w h) (cfI w h 0 0) := Ev.bind (spec_CountFixed_ev ..) (Ev.ret rfl)
def numI (w h : Int) (o : Nat) : Nat → Nat → Int → Nat → Nat → Int
 | 0, _, s, _, _ => s
 | d + 1, i, s, c, b => if o.testBit i = true then numI w h o d (i + 1) (s + cfI w h c (b ||| 2 ^ i : Nat)) (c ||| 2 ^ i) b else numI w h o d (i + 1) s c (b ||| 2 ^ i)
theorem numI_range (w h : Int) (o : Nat) : ∀ (d i : Nat) (s : Int) (c b : Nat), 0 ≤ s → s ≤ 16777216 * (i : Int) → 0 ≤ numI w h o d i s c b ∧ numI w h o d i s c b ≤ 16777216 * ((i + d : Nat) : Int)
 | 0, i, s, c, b, h0, h1 => ⟨h0, h1⟩
 | d + 1, i, s, c, b, h0, h1 => by
  have hr := cfI_range w h c (b ||| 2 ^ i : Nat)
  unfold numI
  split
  ·have := numI_range w h o d (i + 1) (s + cfI w h c (b ||| 2 ^ i : Nat)) (c ||| 2 ^ i) b (by omega) (by omega)
   omega
  ·have := numI_range w h o d (i + 1) s c (b ||| 2 ^ i) (by omega) (by omega)
   omega
theorem pow24 {i : Nat} (h : i < 24) : shl .i64 1 (i : Int) = ((2 ^ i : Nat) : Int) := by
 rw [shl_one (by omega) (by omega), Int.toNat_natCast]
 norm_cast
theorem or_small {c i : Nat} (hc : c < 16777216) (hi : i < 24) : c ||| 2 ^ i < 16777216 := by
 have h1 : 2 ^ i < 2 ^ 24 := Nat.pow_lt_pow_right (by decide) hi
 have := Nat.or_lt_two_pow (n := 24) (show c < 2 ^ 24 by omega) h1
 omega
theorem or_bits {c i : Nat} (hc : c < 16777216) (hi : i < 24) : Go.bits .or .i64 (c : Int) (shl .i64 1 (i : Int)) = ((c ||| 2 ^ i : Nat) : Int) := by
 have h1 : 2 ^ i < 2 ^ 24 := Nat.pow_lt_pow_right (by decide) hi
 rw [pow24 hi, bits_or (by omega) (by omega)]
theorem impl_num_l0 {w h : Int} {o : Nat} (ho : o < 2 ^ gapsN w h) : ∀ (d i : Nat) (s : Int) (c b : Nat), i + d = gapsN w h → 0 ≤ s → s ≤ 16777216 * (i : Int) → c < 16777216 → b < 16777216 →
  Ev (fun k => impl_NumberOf.l0 k s c b i w h o) (numI w h o d i s c b)
 | 0, i, s, c, b, hd, h0, h1, hc, hb => by
  have hcc := gapsN_cast w h
  exact Ev.step (fun _ => impl_NumberOf.l0.eq_2 ..) (Ev.bnd0 (impl_CountGaps_eq w h) (Ev.ff (by omega) (Ev.ret rfl)))
 | d + 1, i, s, c, b, hd, h0, h1, hc, hb => by
  have hcc := gapsN_cast w h
  have h24 := gapsN_le w h
  have hr := cfI_range w h c (b ||| 2 ^ i : Nat)
  have hcb := or_small hc (show i < 24 by omega)
  have hbb := or_small hb (show i < 24 by omega)
  refine Ev.step (fun _ => impl_NumberOf.l0.eq_2 ..) (Ev.bnd0 (impl_CountGaps_eq w h) (Ev.tt (by omega) (Ev.bnd0 (impl_isOpen_eq w h (open_small ho) i) ?_)))
  rw [openI_nat', or_bits hc (by omega), or_bits hb (by omega), wsucc (by omega)]
  unfold numI
  refine Ev.ite (fun e => Ev.tt (by omega) (Ev.bind (impl_CountFixed_ev ..) ?_)) (fun e => Ev.tt (by omega) ?_)
  ·rw [if_pos e, wrap64_id (by omega) (by omega)]
   exact impl_num_l0 ho d (i + 1) _ _ _ (by omega) (by omega) (by omega) hcb hb
  ·rw [if_neg e]
   exact impl_num_l0 ho d (i + 1) _ _ _ (by omega) (by omega) (by omega) hc hbb
theorem spec_num_l0 {w h : Int} {o : Nat} (ho : o < 2 ^ gapsN w h) : ∀ (d i : Nat) (s : Int) (c b : Nat), i + d = gapsN w h → 0 ≤ s → s ≤ 16777216 * (i : Int) → c < 16777216 → b < 16777216 →
  Ev (fun k => spec_NumberOf.l0 k s c b i w h o) (numI w h o d i s c b)
 | 0, i, s, c, b, hd, h0, h1, hc, hb => by
  have hcc := gapsN_cast w h
  exact Ev.step (fun _ => spec_NumberOf.l0.eq_2 ..) (Ev.bnd0 (spec_CountGaps_eq w h) (Ev.ff (by omega) (Ev.ret rfl)))
 | d + 1, i, s, c, b, hd, h0, h1, hc, hb => by
  have hcc := gapsN_cast w h
  have h24 := gapsN_le w h
  have hr := cfI_range w h c (b ||| 2 ^ i : Nat)
  have hcb := or_small hc (show i < 24 by omega)
  have hbb := or_small hb (show i < 24 by omega)
  refine Ev.step (fun _ => spec_NumberOf.l0.eq_2 ..) (Ev.bnd0 (spec_CountGaps_eq w h) (Ev.tt (by omega) (Ev.bnd0 (spec_l03Bit_eq (open_small ho) (by omega)) ?_)))
  rw [openI_nat', or_bits hc (by omega), or_bits hb (by omega), wsucc (by omega)]
  unfold numI
  refine Ev.ite (fun e => Ev.tt (by omega) (Ev.bind (spec_CountFixed_ev ..) ?_)) (fun e => Ev.tt (by omega) ?_)
  ·rw [if_pos e, wrap64_id (by omega) (by omega)]
   exact spec_num_l0 ho d (i + 1) _ _ _ (by omega) (by omega) (by omega) hcb hb
  ·rw [if_neg e]
   exact spec_num_l0 ho d (i + 1) _ _ _ (by omega) (by omega) (by omega) hc hbb
def numOf (w h o : Int) : Int := if perfI w h o = true then numI w h o.toNat (gapsN w h) 0 0 0 0 else -1
theorem numOf_range (w h o : Int) : -1 ≤ numOf w h o ∧ numOf w h o ≤ 402653184 ∧ (numOf w h o < 0 ↔ perfI w h o = false) := by
 unfold numOf
 have h24 := gapsN_le w h
 by_cases e : perfI w h o = true
 ·have := numI_range w h o.toNat (gapsN w h) 0 0 0 0 (by omega) (by omega)
  rw [if_pos e, e]
  exact ⟨by omega, by omega, fun q => by omega, fun q => by simp at q⟩
 ·rw [if_neg e]
  exact ⟨by omega, by omega, fun _ => Bool.eq_false_iff.2 e, fun _ => by omega⟩
theorem impl_NumberOf_ev (w h o : Int) : Ev (fun k => impl_NumberOf.f k w h o) (numOf w h o) := by
 unfold impl_NumberOf.f numOf
 refine Ev.bind (impl_IsPerfect_all w h o) (Ev.ite (fun e => ?_) (fun e => ?_))
 ·obtain ⟨hg, n, rfl, hn, hp⟩ := perfI_iff.1 e
  rw [if_pos e, Int.toNat_natCast]
  exact impl_num_l0 hn (gapsN w h) 0 0 0 0 (by omega) (by omega) (by omega) (by omega) (by omega)
 ·rw [if_neg e]; exact Ev.ret rfl
theorem spec_NumberOf_ev (w h o : Int) : Ev (fun k => spec_NumberOf.f k w h o) (numOf w h o) := by
 unfold spec_NumberOf.f numOf
 refine Ev.bind (spec_IsPerfect_all w h o) (Ev.ite (fun e => ?_) (fun e => ?_))
 ·obtain ⟨hg, n, rfl, hn, hp⟩ := perfI_iff.1 e
  rw [if_pos e, Int.toNat_natCast]
  exact spec_num_l0 hn (gapsN w h) 0 0 0 0 (by omega) (by omega) (by omega) (by omega) (by omega)
 ·rw [if_neg e]; exact Ev.ret rfl
def atI (w h : Int) : Nat → Nat → Int → Nat → Nat → Nat
 | 0, _, _, c, _ => c
 | d + 1, i, n, c, b => if cfI w h c (b ||| 2 ^ i : Nat) ≤ n then atI w h d (i + 1) (n - cfI w h c (b ||| 2 ^ i : Nat)) (c ||| 2 ^ i) b else atI w h d (i + 1) n c (b ||| 2 ^ i)
theorem impl_at_l0 {w h : Int} : ∀ (d i : Nat) (n : Int) (c b : Nat), i + d = gapsN w h → 0 ≤ n → n ≤ 16777216 → c < 16777216 → b < 16777216 →
  Ev (fun k => impl_MazeAt.l0 k n c b i w h) (w, h, (atI w h d i n c b : Nat), true)
 | 0, i, n, c, b, hd, h0, h1, hc, hb => by
  have hcc := gapsN_cast w h
  exact Ev.step (fun _ => impl_MazeAt.l0.eq_2 ..) (Ev.bnd0 (impl_CountGaps_eq w h) (Ev.ff (by omega) (Ev.ret rfl)))
 | d + 1, i, n, c, b, hd, h0, h1, hc, hb => by
  have hcc := gapsN_cast w h
  have h24 := gapsN_le w h
  have hr := cfI_range w h c (b ||| 2 ^ i : Nat)
  have hcb := or_small hc (show i < 24 by omega)
  have hbb := or_small hb (show i < 24 by omega)
  refine Ev.step (fun _ => impl_MazeAt.l0.eq_2 ..) (Ev.bnd0 (impl_CountGaps_eq w h) (Ev.tt (by omega) (Ev.tt (by omega) ?_)))
  rw [or_bits hc (by omega), or_bits hb (by omega), wsucc (by omega)]
  refine Ev.bind (impl_CountFixed_ev ..) ?_
  unfold atI
  refine Ev.ite (fun e => ?_) (fun e => ?_)
  ·rw [if_pos (by omega), wrap64_id (by omega) (by omega)]
   exact impl_at_l0 d (i + 1) _ _ _ (by omega) (by omega) (by omega) hcb hb
  ·rw [if_neg (by omega)]
   exact impl_at_l0 d (i + 1) _ _ _ (by omega) (by omega) (by omega) hc hbb
theorem spec_at_l0 {w h : Int} : ∀ (d i : Nat) (n : Int) (c b : Nat), i + d = gapsN w h → 0 ≤ n → n ≤ 16777216 → c < 16777216 → b < 16777216 →
  Ev (fun k => spec_MazeAt.l0 k n c b i w h) (w, h, (atI w h d i n c b : Nat), true)
 | 0, i, n, c, b, hd, h0, h1, hc, hb => by
  have hcc := gapsN_cast w h
  exact Ev.step (fun _ => spec_MazeAt.l0.eq_2 ..) (Ev.bnd0 (spec_CountGaps_eq w h) (Ev.ff (by omega) (Ev.ret rfl)))
 | d + 1, i, n, c, b, hd, h0, h1, hc, hb => by
  have hcc := gapsN_cast w h
  have h24 := gapsN_le w h
  have hr := cfI_range w h c (b ||| 2 ^ i : Nat)
  have hcb := or_small hc (show i < 24 by omega)
  have hbb := or_small hb (show i < 24 by omega)
  refine Ev.step (fun _ => spec_MazeAt.l0.eq_2 ..) (Ev.bnd0 (spec_CountGaps_eq w h) (Ev.tt (by omega) (Ev.tt (by omega) ?_)))
  rw [or_bits hc (by omega), or_bits hb (by omega), wsucc (by omega)]
  refine Ev.bind (spec_CountFixed_ev ..) ?_
  unfold atI
  refine Ev.ite (fun e => ?_) (fun e => ?_)
  ·rw [if_neg (by omega)]
   exact spec_at_l0 d (i + 1) _ _ _ (by omega) (by omega) (by omega) hc hbb
  ·rw [if_pos (by omega), wrap64_id (by omega) (by omega)]
   exact spec_at_l0 d (i + 1) _ _ _ (by omega) (by omega) (by omega) hcb hb
def atOf (w h n : Int) : Int × Int × Int × Bool := if 0 ≤ n ∧ n < cfI w h 0 0 then (w, h, (atI w h (gapsN w h) 0 n 0 0 : Nat), true) else (0, 0, 0, false)
theorem impl_MazeAt_ev (w h n : Int) : Ev (fun k => impl_MazeAt.f k w h n) (atOf w h n) := by
 have hr := cfI_range w h 0 0
 unfold impl_MazeAt.f atOf
 refine Ev.ite (fun e => ?_) (fun e => Ev.bind (impl_CountAll_ev w h) ?_)
 ·rw [if_neg (by omega)]
  exact Ev.step (fun _ => impl_MazeAt.j0.eq_2 ..) (Ev.tt rfl (Ev.ret rfl))
 ·by_cases e2 : n ≥ cfI w h 0 0
  ·rw [if_neg (by omega), decide_eq_true e2]
   exact Ev.step (fun _ => impl_MazeAt.j0.eq_2 ..) (Ev.tt rfl (Ev.ret rfl))
  ·rw [if_pos (by omega), decide_eq_false e2]
   exact Ev.step (fun _ => impl_MazeAt.j0.eq_2 ..) (Ev.ff (by simp) (impl_at_l0 (gapsN w h) 0 n 0 0 (by omega) (by omega) (by omega) (by omega) (by omega)))
theorem spec_MazeAt_ev (w h n : Int) : Ev (fun k => spec_MazeAt.f k w h n) (atOf w h n) := by
 have hr := cfI_range w h 0 0
 unfold spec_MazeAt.f atOf
 refine Ev.bind (spec_CountAll_ev w h) ?_
 rw [wrap64_id (by omega) (by omega)]
 refine Ev.bnd0 (l01In_eq _ _ _) (Ev.ite (fun e => ?_) (fun e => ?_))
 ·rw [decide_eq_true_eq] at e
  rw [if_pos (by omega)]
  exact spec_at_l0 (gapsN w h) 0 n 0 0 (by omega) (by omega) (by omega) (by omega) (by omega)
 ·rw [decide_eq_true_eq] at e
  rw [if_neg (by omega)]
  exact Ev.ret rfl
def nextOf (w h o : Int) : Int × Int × Int × Bool := if perfI w h o = true ∧ (atOf w h (numOf w h o + 1)).2.2.2 = true then ((atOf w h (numOf w h o + 1)).1, (atOf w h (numOf w h o + 1)).2.1, (atOf w h (numOf w h o + 1)).2.2.1, true) else (w, h, o, false)
theorem impl_NextMaze_ev (w h o : Int) : Ev (fun k => impl_NextMaze.f k w h o) (nextOf w h o) := by
 have hn := numOf_range w h o
 unfold impl_NextMaze.f nextOf
 refine Ev.bind (impl_IsPerfect_all w h o) (Ev.ite (fun e => Ev.bind (impl_NumberOf_ev w h o) ?_) (fun e => ?_))
 ·rw [wrap64_id (by omega) (by omega)]
  refine Ev.bind (impl_MazeAt_ev w h _) (Ev.ite (fun e2 => ?_) (fun e2 => ?_))
  ·rw [if_pos ⟨e, e2⟩]; exact Ev.ret rfl
  ·rw [if_neg fun q => e2 q.2]; exact Ev.ret rfl
 ·rw [if_neg fun q => e q.1]; exact Ev.ret rfl
theorem spec_NextMaze_ev (w h o : Int) : Ev (fun k => spec_NextMaze.f k w h o) (nextOf w h o) := by
 have hn := numOf_range w h o
 unfold spec_NextMaze.f nextOf
 refine Ev.bind (spec_NumberOf_ev w h o) (Ev.ite (fun e => ?_) (fun e => ?_))
 ·rw [if_neg fun q => by rw [hn.2.2.1 e] at q; exact absurd q.1 (by simp)]
  exact Ev.ret rfl
 ·have hp : perfI w h o = true := by
   cases q : perfI w h o
   ·exact absurd (hn.2.2.2 q) e
   ·rfl
  rw [wrap64_id (by omega) (by omega)]
  refine Ev.bind (spec_MazeAt_ev w h _) (Ev.ite (fun e2 => ?_) (fun e2 => ?_))
  ·rw [if_pos ⟨hp, e2⟩]; exact Ev.ret rfl
  ·rw [if_neg fun q => e2 q.2]; exact Ev.ret rfl
end Go.Proofs.Ytoohcdfokejkdaa.P
namespace Go.Proofs.Ytoohcdfokejkdaa.P
open Go.RowKit Go.Proofs.YtoohcdfokejkdaaW.PrintWords Go.Proofs.Ytoohcdfokejkdaa.Sup
set_option linter.unusedVariables false
set_option linter.unusedSimpArgs false

theorem eqMaze_self (a b c : Int) : laws_eqMaze.f a b c a b c = some true := by
 unfold laws_eqMaze.f laws_eqGrid.f
 simp
theorem FnExactNextMaze_pure (a0_0 a0_1 a0_2 : Int) (w0_0 : InR a0_0) (w0_1 : InR a0_1) (w0_2 : InR a0_2) : ∃ k, laws_FnExactNextMaze.f k a0_0 a0_1 a0_2 = some true := by
 refine Ev.rounds ?_
 unfold laws_FnExactNextMaze.f
 have ht : laws_toMaze.f a0_0 a0_1 a0_2 = some (a0_0, a0_1, a0_2) := rfl
 exact Ev.bnd0 ht (Ev.bind (spec_NextMaze_ev ..) (Ev.bnd0 ht (Ev.bind (impl_NextMaze_ev ..) (Ev.bnd0 (eqMaze_self _ _ _) (Ev.tt rfl (Ev.ff (by simp) (Ev.ret rfl)))))))
end Go.Proofs.Ytoohcdfokejkdaa.P
namespace Go.Proofs.Ytoohcdfokejkdaa.fnExactNextMaze
open Go.ChangeShapes Go.WideShapes Go.ChangeAt Go.RowKit Go.Proofs.YtoohcdfokejkdaaW.PrintWords Go.Proofs.Ytoohcdfokejkdaa.Sup
open Go.ChangeMaps (open_string shut_string)
set_option linter.unusedVariables false
theorem own : ownKnob Try.prog.godebug = none := by kernel_rfl
theorem laidOut : laidOutB Try.prog = true := by kernel_rfl
set_option maxRecDepth 100000 in
theorem lifted (os : Os) (started : os.Started) (H : Type) (enc : TypeId × Value → H) :
    ReturnsInHanded {} Try.checked os 15 .any (Rows.fnExactNextMazeSpec.pre6 enc Try.prog Try.f15 Rows.fnExactNextMazeRow.domain false) (Rows.fnExactNextMazeSpec.post enc Try.prog Try.f15 false true false false) := by
  refine returnsInHanded_of_change_sized (C := Try.checked) own started (by kernel_rfl) Try.func15
    (ChangeSpec.witness6 (enc := enc) (C := Try.checked) false ⟨#[], #[.agg #[.int .i64 0, .int .i64 0, .int .i64 0]], []⟩ 8 (by kernel_rfl) (by kernel_rfl) (by kernel_rfl) (by kernel_rfl)) ?_
  intro W base args ds gs before hval0 hW hcnd hsz0 _
  have hsz : (DataW.weightsEach Try.prog (Try.f15.params.toList ++ Rows.fnExactNextMazeSpec.plain.varTypes Try.prog) (ds ++ gs)).all (· ≤ reachBytes) = true := hsz0
  have hval : ∀ (j : Nat) t v, Try.f15.params[j]? = some t → args[j]? = some v → Value.okWide Try.prog W .any base t v := hval0
  have hW' := hW
  obtain ⟨p, q, hA0, hV, rfl, hfz, hnd⟩ := hW
  have hA : DataW.TrodAll enc Try.prog W 0 (fun _ => true) true Try.f15.params.toList args.toList ds p := hA0
  rw [Try.params15] at hA hval hsz
  obtain ⟨v0, vs0, d0, ds0, p0, q0, hargs, rfl, rfl, h0, r0⟩ := trodAll_cons hA
  obtain ⟨rfl, rfl, rfl⟩ := trodAll_nil r0
  obtain rfl : args = #[v0] := by cases args; simp_all
  obtain ⟨rfl, rfl⟩ := trodVars_none hV
  have k0 := h0
  have lt0 : ∀ x ∈ p0, x.block < W.heap.size := by obtain ⟨m, hm⟩ := k0; exact DataW.trod_lt m _ _ _ hm
  obtain ⟨a0_0, a0_1, a0_2, rfl, w0_0, w0_1, w0_2⟩ := open3 Try.underlying38 Try.underlying36 (by kernel_rfl) (by kernel_rfl) (by kernel_rfl) rfl rfl rfl rfl (by kernel_rfl) (by kernel_rfl) (by kernel_rfl) (by kernel_rfl) (by kernel_rfl) (hval 0 38 v0 rfl rfl) h0
  clear hA0 hval0 hsz0 hsz
  obtain ⟨k, hf⟩ := P.FnExactNextMaze_pure a0_0 a0_1 a0_2 w0_0 w0_1 w0_2
  refine (P.laws_FnExactNextMaze.calls k a0_0 a0_1 a0_2 true W  hf).mono fun e W' ⟨he, bel0⟩ => ?_
  have bel : Below W.heap.size W W' := bel0
  subst he
  exact ⟨_, rfl, _, _, _, [], _, [], hW', trodAll_mk1 (shut_bool Try.underlying4 _), (trodAll_cons_mk (Below.trod laidOut (by kernel_rfl) (of_decide_eq_true (by kernel_rfl)) k0 bel lt0) trodAll_mk0), rfl, bel.frame _, fun h => by cases h⟩
theorem over : Rows.fnExactNextMazeRow.holds Try.pinned (OpenSpec.ofChange Rows.fnExactNextMazeSpec) :=
  OpenClaim.holds_of_wide 15 Try.f15 rfl rfl rfl rfl rfl rfl rfl ⟨rfl, rfl, rfl, rfl, rfl⟩ rfl rfl rfl rfl rfl (by kernel_rfl) Try.func15 (by kernel_rfl)
    (of_decide_eq_true (by kernel_rfl)) (by unfold Func.isWrapper; first | (rw [if_pos (by decide +kernel)]; kernel_rfl) | (rw [if_neg (by decide +kernel)]; exact ⟨rfl, rfl⟩))
    (fun os started H enc _ => lifted os started H enc)
theorem proved : Rows.FnExactNextMazeSaid := over
end Go.Proofs.Ytoohcdfokejkdaa.fnExactNextMaze
namespace Go.Proofs.Ytoohcdfokejkdaa
/-- The row, under a short name, for the claim. -/
theorem fnExactNextMaze_holds : Rows.FnExactNextMazeSaid := fnExactNextMaze.proved
#print axioms fnExactNextMaze_holds
end Go.Proofs.Ytoohcdfokejkdaa
