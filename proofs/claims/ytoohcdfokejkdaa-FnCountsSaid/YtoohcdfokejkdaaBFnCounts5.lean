/- The statement FnCounts of the seat, out of its plain form (FnCounts_pure) and the walk of its Go function. Part 5 of 6: each Go function's walk, then the plain lemmas, then the row. No condition: it holds for every input. -/
import Derived.Test.YtoohcdfokejkdaaBFnCounts4
import Derived.ChangeSlices
import Derived.SizedLaws
namespace Go.Proofs.Ytoohcdfokejkdaa.P
open Go.RowKit Go.Proofs.YtoohcdfokejkdaaW.PrintWords
set_option linter.unusedVariables false
set_option linter.unusedSimpArgs false

theorem sumTo_add (n : Nat) (f g : Nat → Int) : sumTo n (fun i => f i + g i) = sumTo n f + sumTo n g := by
  induction n with
  | zero => rfl
  | succ n ih => simp only [sumTo]; rw [ih]; omega
theorem sumTo_mul (n : Nat) (c : Int) (f : Nat → Int) : sumTo n (fun i => c * f i) = c * sumTo n f := by
  induction n with
  | zero => simp [sumTo]
  | succ n ih => simp only [sumTo]; rw [ih, Int.mul_add]
theorem sumTo_neg (n : Nat) (f : Nat → Int) : sumTo n (fun i => -f i) = -sumTo n f := by
  induction n with
  | zero => rfl
  | succ n ih => simp only [sumTo]; rw [ih]; omega
theorem sumTo_comm (m n : Nat) (f : Nat → Nat → Int) : sumTo m (fun i => sumTo n (fun j => f i j)) = sumTo n (fun j => sumTo m (fun i => f i j)) := by
  induction m with
  | zero => simp only [sumTo]; exact (sumTo_zero fun _ _ => rfl).symm
  | succ m ih => simp only [sumTo]; rw [ih, ← sumTo_add]
/-- A sum with two places set apart. -/
theorem sumTo_two {n i : Nat} {f g : Nat → Int} (h1 : i + 1 < n) (hs : g i + g (i + 1) = -(f i + f (i + 1))) (h : ∀ k, k < n → k ≠ i → k ≠ i + 1 → g k = -f k) : sumTo n g = -sumTo n f := by
  have e1 : sumTo n (fun k => g k + f k) = 0 := by
    have : ∀ m, m ≤ n → sumTo m (fun k => g k + f k) = if m = i + 1 then g i + f i else 0 := by
      intro m
      induction m with
      | zero => intro _; simp [sumTo]
      | succ m ih =>
        intro hm
        simp only [sumTo]
        rw [ih (by omega)]
        by_cases a : m = i
        · subst a; simp
        · by_cases b : m = i + 1
          · subst b; simp; omega
          · have := h m (by omega) a b
            simp [a, b]; omega
    rw [this n (Nat.le_refl n), if_neg (by omega)]
  rw [sumTo_add] at e1
  omega
theorem sgn_par {a b : Nat} (h : a % 2 = b % 2) : sgn a = sgn b := by unfold sgn; rw [h]
/-- Without the vector i. -/
def er (i : Nat) (A : Nat → Nat → Int) : Nat → Nat → Int := fun j => if j < i then A j else A (j + 1)
/-- Without the coordinate c. -/
def ec (c : Nat) (A : Nat → Nat → Int) : Nat → Nat → Int := fun j d => if d < c then A j d else A j (d + 1)
/-- With another vector at i. -/
def rp (A : Nat → Nat → Int) (i : Nat) (v : Nat → Int) : Nat → Nat → Int := fun j => if j = i then v else A j
def swp (A : Nat → Nat → Int) (i j : Nat) : Nat → Nat → Int := fun k => if k = i then A j else if k = j then A i else A k
/-- The determinant of r vectors, along the last coordinate. -/
def dt : Nat → (Nat → Nat → Int) → Int
  | 0, _ => 1
  | r + 1, A => sumTo (r + 1) fun i => sgn (r - i) * A i r * dt r (er i A)
theorem dt_congr : ∀ {r : Nat} {A B : Nat → Nat → Int}, (∀ i c, i < r → c < r → A i c = B i c) → dt r A = dt r B
  | 0, _, _, _ => rfl
  | r + 1, A, B, h => by
    simp only [dt]
    refine sumTo_congr fun i hi => ?_
    rw [h i r hi (by omega), dt_congr (A := er i A) (B := er i B)]
    intro j c hj hc
    unfold er
    split
    · exact h j c (by omega) (by omega)
    · exact h (j + 1) c (by omega) (by omega)
theorem er_rp_same (A : Nat → Nat → Int) (i : Nat) (v : Nat → Int) : er i (rp A i v) = er i A := by
  funext j
  unfold er rp
  split
  · rw [if_neg (by omega)]
  · rw [if_neg (by omega)]
theorem er_rp (A : Nat → Nat → Int) {k i : Nat} (h : k ≠ i) (v : Nat → Int) : er k (rp A i v) = rp (er k A) (if i < k then i else i - 1) v := by
  funext j
  simp only [er, rp]
  by_cases hk : i < k
  · rw [if_pos hk]
    repeat' split
    all_goals first | rfl | omega
  · rw [if_neg hk]
    repeat' split
    all_goals first | rfl | omega
theorem rp_same (A : Nat → Nat → Int) (i : Nat) (v : Nat → Int) : rp A i v i = v := if_pos rfl
theorem rp_ne (A : Nat → Nat → Int) {i j : Nat} (h : j ≠ i) (v : Nat → Int) : rp A i v j = A j := if_neg h
theorem dt_lin : ∀ {r : Nat} (A : Nat → Nat → Int) {i : Nat} (hi : i < r) (c d : Int) (u v : Nat → Int), dt r (rp A i (fun x => c * u x + d * v x)) = c * dt r (rp A i u) + d * dt r (rp A i v)
  | 0, _, _, hi, _, _, _, _ => by omega
  | r + 1, A, i, hi, c, d, u, v => by
    simp only [dt]
    rw [← sumTo_mul, ← sumTo_mul, ← sumTo_add]
    refine sumTo_congr fun k hk => ?_
    by_cases e : k = i
    · subst e
      simp only [rp_same, er_rp_same]
      grind
    · simp only [rp_ne _ e, er_rp _ e]
      rw [dt_lin (er k A) (by split <;> omega)]
      grind
theorem dt_adj : ∀ {r : Nat} (A : Nat → Nat → Int) {i : Nat} (hi : i + 1 < r), dt r (swp A i (i + 1)) = -dt r A
  | 0, _, _, hi => by omega
  | r + 1, A, i, hi => by
    simp only [dt]
    have h1 : er i (swp A i (i + 1)) = er (i + 1) A := by
      funext j; unfold er swp
      repeat' split
      all_goals first | rfl | omega | (congr 1; omega)
    have h2 : er (i + 1) (swp A i (i + 1)) = er i A := by
      funext j; unfold er swp
      repeat' split
      all_goals first | rfl | omega | (congr 1; omega)
    refine sumTo_two (i := i) hi ?_ ?_
    · rw [h1, h2, show swp A i (i + 1) i = A (i + 1) from if_pos rfl, show swp A i (i + 1) (i + 1) = A i by unfold swp; rw [if_neg (by omega), if_pos rfl], show r - i = (r - (i + 1)) + 1 by omega, sgn_succ]
      grind
    · intro k hk n1 n2
      have h3 : er k (swp A i (i + 1)) = swp (er k A) (if i < k then i else i - 1) ((if i < k then i else i - 1) + 1) := by
        funext j; simp only [er, swp]
        by_cases hk : i < k
        · rw [if_pos hk]
          repeat' split
          all_goals first | rfl | omega | (congr 1; omega)
        · rw [if_neg hk]
          repeat' split
          all_goals first | rfl | omega | (congr 1; omega)
      rw [h3, dt_adj (er k A) (by split <;> omega), show swp A i (i + 1) k = A k by unfold swp; rw [if_neg n1, if_neg n2]]
      grind
theorem dt_same : ∀ (d : Nat) {r : Nat} (A : Nat → Nat → Int) {i : Nat}, i + 1 + d < r → (∀ c, A i c = A (i + 1 + d) c) → dt r A = 0
  | 0, r, A, i, hj, h => by
    have h1 := dt_adj A (i := i) hj
    have h2 : swp A i (i + 1) = A := by
      funext k c; unfold swp
      split
      · rename_i e; subst e; exact (h c).symm
      · split
        · rename_i e; subst e; exact h c
        · rfl
    rw [h2] at h1
    omega
  | d + 1, r, A, i, hj, h => by
    have h1 := dt_adj A (i := i + 1 + d) (by omega)
    have h2 := dt_same d (r := r) (swp A (i + 1 + d) (i + 1 + d + 1)) (i := i) (by omega) (fun c => by
      unfold swp
      rw [if_neg (by omega), if_neg (by omega), if_pos rfl]
      exact h c)
    omega
theorem dt_eq {r : Nat} (A : Nat → Nat → Int) {i j : Nat} (hij : i ≠ j) (hi : i < r) (hj : j < r) (h : ∀ c, A i c = A j c) : dt r A = 0 := by
  rcases Nat.lt_or_gt_of_ne hij with hl | hl
  · exact dt_same (j - i - 1) A (i := i) (by omega) (fun c => by rw [show i + 1 + (j - i - 1) = j by omega]; exact h c)
  · exact dt_same (i - j - 1) A (i := j) (by omega) (fun c => by rw [show j + 1 + (i - j - 1) = i by omega]; exact (h c).symm)
theorem rp_self (A : Nat → Nat → Int) (i : Nat) : rp A i (A i) = A := by
  funext j; unfold rp; split
  · rename_i e; rw [e]
  · rfl
/-- A multiple of another vector added. -/
theorem dt_addrow {r : Nat} (A : Nat → Nat → Int) {i j : Nat} (hij : i ≠ j) (hi : i < r) (hj : j < r) (d : Int) : dt r (rp A i (fun x => A i x + d * A j x)) = dt r A := by
  have h := dt_lin A hi 1 d (A i) (A j)
  rw [rp_self, dt_eq (rp A i (A j)) hij hi hj (fun c => by rw [rp_same, rp_ne _ (Ne.symm hij)])] at h
  simp only [Int.one_mul, Int.mul_zero, Int.add_zero] at h
  exact h
theorem er_ec (A : Nat → Nat → Int) (i c : Nat) : er i (ec c A) = ec c (er i A) := by
  funext j d
  by_cases h : j < i <;> by_cases h2 : d < c <;> simp [er, ec, h, h2]
/-- Along the last vector. -/
theorem dt_lastvec : ∀ (r : Nat) (A : Nat → Nat → Int), dt (r + 1) A = sumTo (r + 1) fun c => sgn (r - c) * A r c * dt r (ec c A)
  | 0, A => rfl
  | r + 1, A => by
    have L : dt (r + 2) A = sumTo (r + 1) (fun i => sgn (r + 1 - i) * A i (r + 1) * dt (r + 1) (er i A)) + sgn (r + 1 - (r + 1)) * A (r + 1) (r + 1) * dt (r + 1) (er (r + 1) A) := rfl
    rw [L]
    show _ = sumTo (r + 1) (fun c => sgn (r + 1 - c) * A (r + 1) c * dt (r + 1) (ec c A)) + sgn (r + 1 - (r + 1)) * A (r + 1) (r + 1) * dt (r + 1) (ec (r + 1) A)
    have e1 : dt (r + 1) (er (r + 1) A) = dt (r + 1) (ec (r + 1) A) := dt_congr fun i c hi hc => by unfold er ec; rw [if_pos hi, if_pos hc]
    rw [e1]
    congr 1
    have e2 : sumTo (r + 1) (fun i => sgn (r + 1 - i) * A i (r + 1) * dt (r + 1) (er i A)) = sumTo (r + 1) (fun i => sumTo (r + 1) fun c => sgn (r + 1 - i) * sgn (r - c) * (A i (r + 1) * A (r + 1) c) * dt r (ec c (er i A))) := by
      refine sumTo_congr fun i hi => ?_
      rw [dt_lastvec r (er i A), ← sumTo_mul]
      refine sumTo_congr fun c hc => ?_
      rw [show er i A r = A (r + 1) from if_neg (by omega)]
      grind
    have e3 : sumTo (r + 1) (fun c => sgn (r + 1 - c) * A (r + 1) c * dt (r + 1) (ec c A)) = sumTo (r + 1) (fun c => sumTo (r + 1) fun i => sgn (r + 1 - i) * sgn (r - c) * (A i (r + 1) * A (r + 1) c) * dt r (ec c (er i A))) := by
      refine sumTo_congr fun c hc => ?_
      show _ * dt (r + 1) (ec c A) = _
      simp only [dt]
      rw [← sumTo_mul]
      refine sumTo_congr fun i hi => ?_
      rw [show ec c A i r = A i (r + 1) from if_neg (by omega), er_ec, show r + 1 - c = (r - c) + 1 by omega, show r + 1 - i = (r - i) + 1 by omega, sgn_succ, sgn_succ]
      grind
    rw [e2, e3, sumTo_comm]
def tr (A : Nat → Nat → Int) : Nat → Nat → Int := fun i c => A c i
theorem dt_tr : ∀ (r : Nat) (A : Nat → Nat → Int), dt r (tr A) = dt r A
  | 0, A => rfl
  | r + 1, A => by
    rw [dt_lastvec r A]
    simp only [dt]
    refine sumTo_congr fun i hi => ?_
    have : er i (tr A) = tr (ec i A) := by
      funext j c; simp only [er, tr, ec]
      split <;> rfl
    rw [this, dt_tr r (ec i A)]
    rfl
/-- Along any vector. -/
theorem dt_vec {r : Nat} : ∀ (d p : Nat) (A : Nat → Nat → Int), p + d = r → dt (r + 1) A = sumTo (r + 1) fun c => sgn (p + c) * A p c * dt r (er p (ec c A))
  | 0, p, A, h => by
    have : p = r := by omega
    subst this
    rw [dt_lastvec]
    refine sumTo_congr fun c hc => ?_
    rw [sgn_par (show (p - c) % 2 = (p + c) % 2 by omega)]
    congr 1
    exact dt_congr fun i c' hi hc' => by unfold er; rw [if_pos hi]
  | d + 1, p, A, h => by
    have h1 := dt_adj A (i := p) (r := r + 1) (by omega)
    have h2 := dt_vec (r := r) d (p + 1) (swp A p (p + 1)) (by omega)
    rw [h2] at h1
    have h3 : sumTo (r + 1) (fun c => sgn (p + 1 + c) * swp A p (p + 1) (p + 1) c * dt r (er (p + 1) (ec c (swp A p (p + 1))))) = -sumTo (r + 1) fun c => sgn (p + c) * A p c * dt r (er p (ec c A)) := by
      rw [← sumTo_neg]
      refine sumTo_congr fun c hc => ?_
      have h4 : er (p + 1) (ec c (swp A p (p + 1))) = er p (ec c A) := by
        funext j d
        have h4 : er (p + 1) (swp A p (p + 1)) = er p A := by
          funext j; simp only [er, swp]
          repeat' split
          all_goals first | rfl | omega | (congr 1; omega)
        rw [er_ec, h4, er_ec]
      rw [h4, show swp A p (p + 1) (p + 1) = A p by unfold swp; rw [if_neg (by omega), if_pos rfl], show p + 1 + c = p + c + 1 by omega, sgn_succ]
      grind
    omega
theorem sumTo_single {n q : Nat} {f : Nat → Int} (hq : q < n) (h : ∀ i, i < n → i ≠ q → f i = 0) : sumTo n f = f q := by
  have := sumTo_one (f := fun _ => 0) (g := f) hq (fun i hi hne => h i hi hne)
  rw [sumTo_zero (f := fun _ => 0) (fun _ _ => rfl)] at this
  omega
/-- Along a vector with one entry. -/
theorem dt_unit {r : Nat} (A : Nat → Nat → Int) {p q : Nat} (hp : p ≤ r) (hq : q ≤ r) (h : ∀ c, c ≤ r → c ≠ q → A p c = 0) : dt (r + 1) A = sgn (p + q) * A p q * dt r (er p (ec q A)) := by
  rw [dt_vec (r - p) p A (by omega)]
  refine sumTo_single (f := fun c => sgn (p + c) * A p c * dt r (er p (ec c A))) (by omega) fun c hc hne => ?_
  rw [h c (by omega) hne]
  simp
theorem dt_zero {r : Nat} (A : Nat → Nat → Int) {i : Nat} (hi : i < r) (h : ∀ c, c < r → A i c = 0) : dt r A = 0 := by
  have := dt_lin A hi 0 0 (A i) (A i)
  rw [show dt r (rp A i fun x => 0 * A i x + 0 * A i x) = dt r A from dt_congr fun j c hj hc => by
    unfold rp; split
    · rename_i e; subst e; rw [h c hc]; simp
    · rfl] at this
  simpa using this
end Go.Proofs.Ytoohcdfokejkdaa.P
namespace Go.Proofs.Ytoohcdfokejkdaa.P
open Go.RowKit Go.Proofs.YtoohcdfokejkdaaW.PrintWords
set_option linter.unusedVariables false
set_option linter.unusedSimpArgs false

def dl (x y : Nat) : Int := if x = y then 1 else 0
theorem dl_self (x : Nat) : dl x x = 1 := if_pos rfl
theorem dl_ne {x y : Nat} (h : x ≠ y) : dl x y = 0 := if_neg h
/-- An edge as a vector over the vertices that stand for their parts, without the root. -/
def vg (l : Nat → Nat) (r : Nat) (e : Nat × Nat) (x : Nat) : Int := if x = r then 0 else dl x (l e.1) - dl x (l e.2)
/-- The matrix over all vertices: 1 at the root and at vertices that do not stand for a part. -/
def dg (l : Nat → Nat) (r x y : Nat) : Int := if x = y ∧ (l x ≠ x ∨ x = r) then 1 else 0
def sg (e : Nat → Nat × Nat) (E : Nat) (l : Nat → Nat) (r : Nat) (U : Nat → Bool) (x y : Nat) : Int := sumTo E fun g => if U g then vg l r (e g) x * vg l r (e g) y else 0
def big (e : Nat → Nat × Nat) (E : Nat) (l : Nat → Nat) (r : Nat) (U : Nat → Bool) (x y : Nat) : Int := dg l r x y + sg e E l r U x y
theorem unit_row {r : Nat} {A : Nat → Nat → Int} {t : Nat} (ht : t ≤ r) (h : ∀ c, c ≤ r → A t c = dl t c) : dt (r + 1) A = dt r (er t (ec t A)) := by
  rw [dt_unit A ht ht (fun c hc hne => by rw [h c hc, dl_ne (Ne.symm hne)]), h t ht, dl_self, sgn_par (show (t + t) % 2 = 0 % 2 by omega)]
  simp [sgn]
theorem minor_congr {r : Nat} {A B : Nat → Nat → Int} {t : Nat} (ht : t ≤ r) (h : ∀ x y, x ≤ r → y ≤ r → x ≠ t → y ≠ t → A x y = B x y) : dt r (er t (ec t A)) = dt r (er t (ec t B)) := by
  refine dt_congr fun i c hi hc => ?_
  by_cases h1 : i < t <;> by_cases h2 : c < t <;> simp only [er, ec, h1, h2, if_true, if_false] <;> exact h _ _ (by omega) (by omega) (by omega) (by omega)
section
variable {e : Nat → Nat × Nat} {E : Nat} {l : Nat → Nat} {r : Nat} {U : Nat → Bool} {g P Q : Nat}
def lq (l : Nat → Nat) (P Q : Nat) : Nat → Nat := fun x => if l x = Q then P else l x
def uq (U : Nat → Bool) (g : Nat) : Nat → Bool := fun h => U h && decide (h ≠ g)
theorem sg_split (hg : g < E) (hU : U g = true) (x y : Nat) : sg e E l r U x y = sg e E l r (uq U g) x y + vg l r (e g) x * vg l r (e g) y := by
  unfold sg
  rw [sumTo_one hg (f := fun h => if uq U g h then vg l r (e h) x * vg l r (e h) y else 0) (g := fun h => if U h then vg l r (e h) x * vg l r (e h) y else 0) (fun i hi hne => by simp [uq, hne])]
  simp [uq, hU]
theorem lq_ne (hPQ : P ≠ Q) (x : Nat) : lq l P Q x ≠ Q := by
  unfold lq; split
  · exact hPQ
  · assumption
theorem dl_lq (hPQ : P ≠ Q) {x : Nat} (hx : x ≠ Q) (a : Nat) : dl x (lq l P Q a) = dl x (l a) + if x = P then dl Q (l a) else 0 := by
  unfold lq dl
  by_cases h : l a = Q
  · rw [if_pos h, h, if_neg hx, if_pos rfl]; simp
  · rw [if_neg h, if_neg (show ¬ Q = l a from fun e => h e.symm)]; simp
variable (hl : ∀ x, l (l x) = l x) (hr : l r = r) (hg : g < E) (hU : U g = true) (hP : P = l (e g).1 ∧ Q = l (e g).2 ∨ P = l (e g).2 ∧ Q = l (e g).1) (hPQ : P ≠ Q)
include hl hr hg hU hP hPQ
omit hr hg hU hPQ in
theorem lP : l P = P := by rcases hP with ⟨h, _⟩ | ⟨h, _⟩ <;> rw [h, hl]
omit hr hg hU hPQ in
theorem lQ : l Q = Q := by rcases hP with ⟨_, h⟩ | ⟨_, h⟩ <;> rw [h, hl]
omit hl hr hPQ in
theorem sg_w (x y : Nat) : sg e E l r U x y = sg e E l r (uq U g) x y + (if x = r then 0 else dl x P - dl x Q) * (if y = r then 0 else dl y P - dl y Q) := by
  rw [sg_split hg hU]
  congr 1
  unfold vg
  rcases hP with ⟨h1, h2⟩ | ⟨h1, h2⟩
  · rw [h1, h2]
  · rw [h1, h2]
    split <;> split <;> grind
omit hr hg hU in
theorem dg_lq {x : Nat} (hx : x ≠ Q) (y : Nat) : dg (lq l P Q) r x y = dg l r x y := by
  have h1 := lP hl hP
  unfold dg lq
  by_cases h : l x = Q
  · rw [if_pos h]
    have : x ≠ P := by rintro rfl; exact hPQ (h1.symm.trans h)
    simp [h, Ne.symm hx, Ne.symm this]
  · rw [if_neg h]
omit hr in
/-- The root is elsewhere. -/
theorem big_join_far {v : Nat} (hPv : P < v) (hQv : Q < v) (h1 : r ≠ P) (h2 : r ≠ Q) : dt v (big e E l r U) = dt v (big e E l r (uq U g)) + dt v (big e E (lq l P Q) r (uq U g)) := by
  obtain ⟨v, rfl⟩ : ∃ u, v = u + 1 := ⟨v - 1, by omega⟩
  have l1 := lP hl hP
  have l2 := lQ hl hP
  generalize hB : big e E l r (uq U g) = B
  generalize hw : (fun x => if x = r then (0 : Int) else dl x P - dl x Q) = w
  have hwP : w P = 1 := by rw [← hw]; simp [h1.symm, dl, hPQ]
  have hwQ : w Q = -1 := by rw [← hw]; simp [h2.symm, dl, hPQ.symm]
  have hw0 : ∀ x, x ≠ P → x ≠ Q → w x = 0 := fun x a b => by rw [← hw]; simp [dl, a, b]
  have hM : ∀ x y, big e E l r U x y = B x y + w x * w y := by
    intro x y
    rw [← hB, ← hw]
    unfold big
    rw [sg_w hg hU hP x y, ← Int.add_assoc]
  generalize hMM : big e E l r U = M at *
  have a1 := dt_addrow M (i := P) (j := Q) hPQ hPv hQv 1
  have a2 : (fun c => M P c + 1 * M Q c) = fun c => B P c + B Q c := by
    funext c
    rw [hM, hM, hwP, hwQ]; omega
  rw [a2] at a1
  have a3 : rp M P (fun c => B P c + B Q c) = rp (rp B P (fun c => B P c + 1 * B Q c)) Q (fun c => 1 * B Q c + (-1) * w c) := by
    funext x c
    unfold rp
    by_cases x1 : x = P
    · subst x1; simp [hPQ]
    · by_cases x2 : x = Q
      · subst x2; rw [if_neg x1, if_pos rfl, hM, hwQ]; omega
      · rw [if_neg x1, if_neg x2, if_neg x1, hM, hw0 x x1 x2]; omega
  rw [a3, dt_lin _ hQv, show rp (rp B P (fun c => B P c + 1 * B Q c)) Q (B Q) = rp B P (fun c => B P c + 1 * B Q c) by
    funext x; unfold rp
    by_cases x2 : x = Q
    · subst x2; rw [if_pos rfl, if_neg hPQ.symm]
    · rw [if_neg x2], dt_addrow B hPQ hPv hQv 1] at a1
  -- the second one
  generalize hG : rp (rp B P (fun c => B P c + 1 * B Q c)) Q w = G at *
  have b1 := dt_addrow (tr G) (i := P) (j := Q) hPQ hPv hQv 1
  rw [dt_tr, ← dt_tr] at b1
  generalize hG' : tr (rp (tr G) P (fun x => tr G P x + 1 * tr G Q x)) = G' at *
  have c1 : ∀ x y, G' x y = if y = P then G x P + G x Q else G x y := by
    intro x y
    rw [← hG']
    unfold tr rp
    split <;> simp
  have gQ : ∀ y, G Q y = w y := fun y => by rw [← hG, rp_same]
  have b2 : dt (v + 1) G' = -dt v (er Q (ec Q G')) := by
    rw [dt_unit G' (p := Q) (q := Q) (by omega) (by omega) (fun c hc hne => by
      rw [c1]
      by_cases x1 : c = P
      · rw [if_pos x1, gQ, gQ, hwP, hwQ]; rfl
      · rw [if_neg x1, gQ, hw0 c x1 hne]), c1, if_neg hPQ.symm, gQ, hwQ, sgn_par (show (Q + Q) % 2 = 0 % 2 by omega)]
    simp [sgn]
  have b3 : dt (v + 1) (big e E (lq l P Q) r (uq U g)) = dt v (er Q (ec Q (big e E (lq l P Q) r (uq U g)))) := by
    refine unit_row (by omega) fun c hc => ?_
    have z : ∀ h, vg (lq l P Q) r (e h) Q = 0 := fun h => by
      unfold vg
      rw [dl_ne (Ne.symm (lq_ne hPQ _)), dl_ne (Ne.symm (lq_ne hPQ _))]; simp
    unfold big sg dg
    rw [sumTo_zero fun i hi => by rw [z]; simp]
    have : lq l P Q Q ≠ Q := lq_ne hPQ _
    simp [this, dl]
  have b4 : dt v (er Q (ec Q (big e E (lq l P Q) r (uq U g)))) = dt v (er Q (ec Q G')) := by
    refine minor_congr (by omega) fun x y hx hy hxQ hyQ => ?_
    have vx : ∀ x, x ≠ Q → ∀ h, vg (lq l P Q) r (e h) x = vg l r (e h) x + if x = P then vg l r (e h) Q else 0 := by
      intro x hxQ h
      unfold vg
      rw [dl_lq hPQ hxQ, dl_lq hPQ hxQ, if_neg h2.symm]
      by_cases x1 : x = P
      · rw [if_pos x1, if_neg (by rw [x1]; exact h1.symm), if_pos x1, if_pos x1]; rw [if_neg (by rw [x1]; exact h1.symm)]; omega
      · rw [if_neg x1, if_neg x1, if_neg x1]; simp
    have sgP : ∀ y, B P y = sg e E l r (uq U g) P y := fun y => by
      rw [← hB]; unfold big dg
      rw [if_neg (fun hh => hh.2.elim (fun h => h l1) (fun h => h1 h.symm))]; omega
    have sgQ : ∀ y, B Q y = sg e E l r (uq U g) Q y := fun y => by
      rw [← hB]; unfold big dg
      rw [if_neg (fun hh => hh.2.elim (fun h => h l2) (fun h => h2 h.symm))]; omega
    have sgx : ∀ x, x ≠ Q → B x Q = sg e E l r (uq U g) x Q := fun x hxQ => by
      rw [← hB]; unfold big dg
      rw [if_neg (by rintro ⟨h, _⟩; exact hxQ h)]; omega
    have sgxP : ∀ x, x ≠ P → B x P = sg e E l r (uq U g) x P := fun x hxQ => by
      rw [← hB]; unfold big dg
      rw [if_neg (by rintro ⟨h, _⟩; exact hxQ h)]; omega
    have dP : ∀ y, dg l r P y = 0 := fun y => by unfold dg; rw [if_neg (fun hh => hh.2.elim (fun h => h l1) (fun h => h1 h.symm))]
    have dP' : ∀ x, x ≠ P → dg l r x P = 0 := fun x hx => by unfold dg; rw [if_neg (by rintro ⟨h, _⟩; exact hx h)]
    have gP : ∀ y, G P y = B P y + B Q y := fun y => by rw [← hG, rp_ne _ hPQ, rp_same]; omega
    have gx : ∀ x, x ≠ P → x ≠ Q → G x = B x := fun x a b => by rw [← hG, rp_ne _ b, rp_ne _ a]
    have key : big e E (lq l P Q) r (uq U g) x y = dg l r x y + (sg e E l r (uq U g) x y + (if x = P then sg e E l r (uq U g) Q y else 0) + (if y = P then sg e E l r (uq U g) x Q else 0) + (if x = P ∧ y = P then sg e E l r (uq U g) Q Q else 0)) := by
      unfold big
      rw [dg_lq hl hP hPQ hxQ]
      congr 1
      unfold sg
      simp only [vx x hxQ, vx y hyQ]
      by_cases x1 : x = P <;> by_cases y1 : y = P <;> simp only [x1, y1, if_true, if_false, and_self, and_true, and_false, false_and, true_and, Int.add_zero]
      · rw [← sumTo_add, ← sumTo_add, ← sumTo_add]
        refine sumTo_congr fun i hi => ?_
        split <;> grind
      · rw [← sumTo_add]
        refine sumTo_congr fun i hi => ?_
        split <;> grind
      · rw [← sumTo_add]
        refine sumTo_congr fun i hi => ?_
        split <;> grind
    rw [key, c1]
    by_cases x1 : x = P
    · subst x1
      by_cases y1 : y = x
      · subst y1
        simp only [if_true, and_self]
        rw [gP, gP, sgP, sgP, sgQ, sgQ, dP]; omega
      · simp only [if_true, y1, if_false, and_false]
        rw [gP, sgP, sgQ, dP]; omega
    · rw [gx x x1 hxQ]
      simp only [x1, false_and, if_false]
      by_cases y1 : y = P
      · subst y1
        rw [if_pos rfl, if_pos rfl, sgxP x x1, sgx x hxQ, dP' x x1]; omega
      · rw [if_neg y1, if_neg y1, ← hB]
        unfold big; omega
  rw [b3, b4]
  omega
omit hr in
/-- The root is one of the two. -/
theorem big_join_near {v : Nat} (hPv : P < v) (hQv : Q < v) (h : r = P ∨ r = Q) : dt v (big e E l r U) = dt v (big e E l r (uq U g)) + dt v (big e E (lq l P Q) P (uq U g)) := by
  obtain ⟨v, rfl⟩ : ∃ u, v = u + 1 := ⟨v - 1, by omega⟩
  have l1 := lP hl hP
  have l2 := lQ hl hP
  obtain ⟨t, htv, htr, ht⟩ : ∃ t, t < v + 1 ∧ t ≠ r ∧ (r = P ∧ t = Q ∨ r = Q ∧ t = P) := by
    rcases h with h | h
    · exact ⟨Q, hQv, by rw [h]; exact hPQ.symm, .inl ⟨h, rfl⟩⟩
    · exact ⟨P, hPv, by rw [h]; exact hPQ, .inr ⟨h, rfl⟩⟩
  generalize hB : big e E l r (uq U g) = B
  have hM : ∀ x y, big e E l r U x y = B x y + dl x t * dl y t := by
    intro x y
    rw [← hB]
    unfold big
    rw [sg_w hg hU hP x y, ← Int.add_assoc]
    congr 1
    rcases ht with ⟨e1, e2⟩ | ⟨e1, e2⟩
    · rw [e1, e2]
      unfold dl
      by_cases a : x = P <;> by_cases b : y = P <;> by_cases c : x = Q <;> by_cases d : y = Q <;> simp_all
    · rw [e1, e2]
      unfold dl
      by_cases a : x = P <;> by_cases b : y = P <;> by_cases c : x = Q <;> by_cases d : y = Q <;> simp_all
  have a1 : big e E l r U = rp B t (fun c => 1 * B t c + 1 * dl t c) := by
    funext x c
    rw [hM]
    unfold rp
    by_cases e1 : x = t
    · subst e1
      rw [if_pos rfl, dl_self, show dl c x = dl x c by unfold dl; simp [eq_comm]]; omega
    · rw [if_neg e1, dl_ne e1]; omega
  rw [a1, dt_lin _ htv, rp_self]
  have b1 : dt (v + 1) (rp B t (dl t)) = dt v (er t (ec t (rp B t (dl t)))) := unit_row (by omega) fun c hc => by rw [rp_same]
  have b3 : dt (v + 1) (big e E (lq l P Q) P (uq U g)) = dt v (er t (ec t (big e E (lq l P Q) P (uq U g)))) := by
    refine unit_row (by omega) fun c hc => ?_
    have z : ∀ h, vg (lq l P Q) P (e h) t = 0 := fun h => by
      unfold vg
      rcases ht with ⟨e1, e2⟩ | ⟨e1, e2⟩
      · rw [e2, dl_ne (Ne.symm (lq_ne hPQ _)), dl_ne (Ne.symm (lq_ne hPQ _))]; simp
      · rw [if_pos e2]
    unfold big sg dg
    rw [sumTo_zero fun i hi => by rw [z]; simp]
    have : lq l P Q t ≠ t ∨ t = P := by
      rcases ht with ⟨e1, e2⟩ | ⟨e1, e2⟩
      · left; rw [e2]; exact lq_ne hPQ _
      · right; exact e2
    simp [this, dl]
  have b4 : dt v (er t (ec t (big e E (lq l P Q) P (uq U g)))) = dt v (er t (ec t (rp B t (dl t)))) := by
    refine minor_congr (by omega) fun x y hx hy hxt hyt => ?_
    rw [rp_ne _ hxt, ← hB]
    unfold big
    have vx : ∀ x, x ≠ t → ∀ h, vg (lq l P Q) P (e h) x = vg l r (e h) x := by
      intro x hxt h
      unfold vg
      rcases ht with ⟨e1, e2⟩ | ⟨e1, e2⟩
      · rw [e2] at hxt
        rw [e1]
        by_cases x1 : x = P
        · rw [if_pos x1, if_pos x1]
        · rw [if_neg x1, if_neg x1, dl_lq hPQ hxt, dl_lq hPQ hxt, if_neg x1, if_neg x1]; omega
      · rw [e2] at hxt
        rw [e1, if_neg hxt]
        by_cases x1 : x = Q
        · rw [if_pos x1, x1, dl_ne (Ne.symm (lq_ne hPQ _)), dl_ne (Ne.symm (lq_ne hPQ _))]; rfl
        · rw [if_neg x1, dl_lq hPQ x1, dl_lq hPQ x1, if_neg hxt, if_neg hxt]; omega
    congr 1
    · rcases ht with ⟨e1, e2⟩ | ⟨e1, e2⟩
      · rw [e2] at hxt
        have := dg_lq (r := r) hl hP hPQ hxt y
        rwa [e1] at this ⊢
      · rw [e2] at hxt
        by_cases x1 : x = Q
        · have := lq_ne (l := l) hPQ Q
          rw [x1, e1]
          unfold dg
          simp [this]
        · rw [show dg (lq l P Q) P x y = dg (lq l P Q) r x y by unfold dg; rw [e1]; simp [hxt, x1]]
          exact dg_lq hl hP hPQ x1 y
    · unfold sg
      simp only [vx x hxt, vx y hyt]
  rw [b1, b3, b4]
  omega
end
end Go.Proofs.Ytoohcdfokejkdaa.P
namespace Go.Proofs.Ytoohcdfokejkdaa.P
open Go.RowKit Go.Proofs.YtoohcdfokejkdaaW.PrintWords
set_option linter.unusedVariables false
set_option linter.unusedSimpArgs false

theorem cnt_add {p q r : Nat → Bool} {v : Nat} (h : ∀ i, i < v → (p i).toNat = (q i).toNat + (r i).toNat) : cnt p v = cnt q v + cnt r v := by
  induction v with
  | zero => rfl
  | succ n ih => simp only [cnt]; rw [ih (fun i hi => h i (by omega)), h n (by omega)]; omega
theorem cnt_single {p : Nat → Bool} {v m : Nat} (hm : m < v) (h : ∀ i, i < v → i ≠ m → p i = false) : cnt p v = (p m).toNat := by
  cases hp : p m with
  | false => rw [cnt_zero_iff.2 fun i hi => by by_cases e : i = m; · rw [e, hp]
                                               · exact h i hi e]; rfl
  | true =>
    rw [cnt_one (q := fun _ => false) hm hp rfl (fun i hi hne => h i hi hne), cnt_zero_iff.2 (fun _ _ => rfl)]
    rfl
theorem cnt_pos {p : Nat → Bool} {v m : Nat} (hm : m < v) (hp : p m = true) : 0 < cnt p v := by
  rcases Nat.eq_zero_or_pos (cnt p v) with h | h
  · rw [cnt_zero_iff.1 h m hm] at hp; cases hp
  · exact h
/-- Neither chosen nor banned. -/
def und (c b : Nat) : Nat → Bool := fun g => !c.testBit g && !b.testBit g
/-- One part, and no loop. -/
def perf (e : Nat → Nat × Nat) (V E t : Nat) : Bool := decide (parts e V E t = 1 ∧ pop E t + 1 = V)
def sup (E c b t : Nat) : Bool := decide (∀ i, i < E → (c.testBit i = true → t.testBit i = true) ∧ (b.testBit i = true → t.testBit i = false))
/-- How many perfect ones have all that is chosen and nothing that is banned. -/
def trees (e : Nat → Nat × Nat) (V E c b : Nat) : Nat := cnt (fun t => sup E c b t && perf e V E t) (2 ^ E)
theorem sup_iff {E c b t : Nat} : sup E c b t = true ↔ ∀ i, i < E → (c.testBit i = true → t.testBit i = true) ∧ (b.testBit i = true → t.testBit i = false) := by unfold sup; rw [decide_eq_true_eq]
theorem sup_split {E c b g t : Nat} (hg : g < E) (hu : und c b g = true) : (sup E c b t).toNat = (sup E (setB c g true) b t).toNat + (sup E c (setB b g true) t).toNat := by
  simp only [und, Bool.and_eq_true, Bool.not_eq_true'] at hu
  have h1 : sup E (setB c g true) b t = (sup E c b t && t.testBit g) := by
    rw [Bool.eq_iff_iff, Bool.and_eq_true, sup_iff, sup_iff]
    simp only [testBit_setB]
    constructor
    · intro h
      refine ⟨fun i hi => ⟨fun hc => (h i hi).1 (by split <;> simp [hc]), (h i hi).2⟩, (h g hg).1 (by simp)⟩
    · rintro ⟨h, h2⟩ i hi
      refine ⟨fun hc => ?_, (h i hi).2⟩
      split at hc
      · rename_i e; rw [e]; exact h2
      · exact (h i hi).1 hc
  have h2 : sup E c (setB b g true) t = (sup E c b t && !t.testBit g) := by
    rw [Bool.eq_iff_iff, Bool.and_eq_true, sup_iff, sup_iff]
    simp only [testBit_setB, Bool.not_eq_true']
    constructor
    · intro h
      refine ⟨fun i hi => ⟨(h i hi).1, fun hc => (h i hi).2 (by split <;> simp [hc])⟩, (h g hg).2 (by simp)⟩
    · rintro ⟨h, h2⟩ i hi
      refine ⟨(h i hi).1, fun hc => ?_⟩
      split at hc
      · rename_i e; rw [e]; exact h2
      · exact (h i hi).2 hc
  rw [h1, h2]
  cases sup E c b t <;> cases t.testBit g <;> rfl
theorem trees_split {e : Nat → Nat × Nat} {V E c b g : Nat} (hg : g < E) (hu : und c b g = true) : trees e V E c b = trees e V E (setB c g true) b + trees e V E c (setB b g true) := by
  unfold trees
  refine cnt_add fun t ht => ?_
  have := sup_split (t := t) hg hu
  cases h1 : perf e V E t
  · simp
  · simpa using this
theorem perf_iff {e : Nat → Nat × Nat} {V E t : Nat} : perf e V E t = true ↔ parts e V E t = 1 ∧ pop E t + 1 = V := by unfold perf; rw [decide_eq_true_eq]
theorem perf_bridge {e : Nat → Nat × Nat} {V E t j : Nat} (hg : Gr e V E) (ht : t < 2 ^ E) (hp : perf e V E t = true) (hb : t.testBit j = true) : ¬ Cn e (setB t j false) (e j).1 (e j).2 := by
  rw [perf_iff] at hp
  exact bridge_of_forest hg ht (by omega) hb
/-- No tree holds a loop. -/
theorem trees_loop {e : Nat → Nat × Nat} {V E c b g : Nat} (hG : Gr e V E) (hc : c < 2 ^ E) (hg : g < E) (hu : und c b g = true) (hl : Cn e c (e g).1 (e g).2) : trees e V E (setB c g true) b = 0 := by
  simp only [und, Bool.and_eq_true, Bool.not_eq_true'] at hu
  unfold trees
  rw [cnt_zero_iff]
  intro t ht
  rw [Bool.and_eq_false_iff]
  cases hp : perf e V E t
  · exact .inr rfl
  · left
    rw [Bool.eq_false_iff]
    intro hs
    rw [sup_iff] at hs
    have hb : t.testBit g = true := (hs g hg).1 (setB_bit ..)
    refine perf_bridge hG ht hp hb (hl.mono fun i hi => ?_)
    have hne : i ≠ g := by rintro rfl; rw [hu.1] at hi; cases hi
    rw [setB_ne _ hne]
    exact (hs i (lt_of_testBit hc hi)).1 (by rw [setB_ne _ hne]; exact hi)
theorem dt_one : ∀ {r : Nat} {A : Nat → Nat → Int}, (∀ x y, x < r → y < r → A x y = dl x y) → dt r A = 1
  | 0, _, _ => rfl
  | r + 1, A, h => by
    rw [unit_row (t := r) (Nat.le_refl r) (fun c hc => h r c (by omega) (by omega))]
    refine dt_one fun x y hx hy => ?_
    simp only [er, ec, hx, hy, if_true]
    exact h x y (by omega) (by omega)
theorem lab_join {e : Nat → Nat × Nat} {E c g : Nat} (hc : c < 2 ^ E) (hg : g < E) (x : Nat) :
    lab e (setB c g true) E x = lq (lab e c E) (min (lab e c E (e g).1) (lab e c E (e g).2)) (max (lab e c E (e g).1) (lab e c E (e g).2)) x := by
  have hc' : setB c g true < 2 ^ E := setB_lt true hc hg
  have m : ∀ {x y}, Cn e c x y → Cn e (setB c g true) x y := fun h => h.mono fun i hi => by rw [testBit_setB]; split <;> simp [hi]
  have hk : Cn e (setB c g true) (e g).1 (e g).2 := Cn.edge (setB_bit ..)
  have c1 := m (lab_cn (e := e) hc (e g).1)
  have c2 := m (lab_cn (e := e) hc (e g).2)
  have cx := m (lab_cn (e := e) hc x)
  have hcn : Cn e (setB c g true) x (lq (lab e c E) (min (lab e c E (e g).1) (lab e c E (e g).2)) (max (lab e c E (e g).1) (lab e c E (e g).2)) x) := by
    unfold lq
    split
    · rename_i h
      rcases Nat.le_total (lab e c E (e g).1) (lab e c E (e g).2) with hle | hle
      · rw [Nat.max_eq_right hle] at h
        rw [Nat.min_eq_left hle]
        rw [h] at cx
        exact ((cx.trans c2.symm).trans hk.symm).trans c1
      · rw [Nat.max_eq_left hle] at h
        rw [Nat.min_eq_right hle]
        rw [h] at cx
        exact ((cx.trans c1.symm).trans hk).trans c2
    · exact cx
  have hle : ∀ z, Cn e (setB c g true) x z → lq (lab e c E) (min (lab e c E (e g).1) (lab e c E (e g).2)) (max (lab e c E (e g).1) (lab e c E (e g).2)) x ≤ z := by
    intro z hz
    rw [Cn_add] at hz
    unfold lq
    rcases hz with h | ⟨h1, h2⟩ | ⟨h1, h2⟩
    · have := lab_least hc h
      split
      · rename_i e1; omega
      · exact this
    · have e1 := (lab_iff hc _ _).2 h1
      have e2 := lab_least hc h2
      split
      · omega
      · rename_i e3; omega
    · have e1 := (lab_iff hc _ _).2 h1
      have e2 := lab_least hc h2
      split
      · omega
      · rename_i e3; omega
  have a := lab_least hc' hcn
  have b := hle _ (lab_cn hc' x)
  omega
/-- The matrix with all that is neither chosen nor banned. -/
def treeM (e : Nat → Nat × Nat) (E c b k : Nat) : Nat → Nat → Int := big e E (lab e c E) (lab e c E k) (und c b)
theorem und_ban (c b g : Nat) : und c (setB b g true) = uq (und c b) g := by
  funext h
  simp only [und, uq, testBit_setB]
  by_cases e : h = g
  · simp [e]
  · simp [e]
theorem und_choose (c b g : Nat) : und (setB c g true) b = uq (und c b) g := by
  funext h
  simp only [und, uq, testBit_setB]
  by_cases e : h = g
  · simp [e]
  · simp [e]
theorem treeM_split {e : Nat → Nat × Nat} {V E c b g k : Nat} (hG : Gr e V E) (hc : c < 2 ^ E) (hg : g < E) (hu : und c b g = true) (hk : k < V) (hl : ¬ Cn e c (e g).1 (e g).2) :
    dt V (treeM e E c b k) = dt V (treeM e E c (setB b g true) k) + dt V (treeM e E (setB c g true) b k) := by
  have hne : lab e c E (e g).1 ≠ lab e c E (e g).2 := fun h => hl ((lab_iff hc _ _).1 h)
  have q1 := lab_le e c E (e g).1
  have q2 := lab_le e c E (e g).2
  have q3 := (hG g hg).1
  have q4 := (hG g hg).2
  have hPQ : min (lab e c E (e g).1) (lab e c E (e g).2) ≠ max (lab e c E (e g).1) (lab e c E (e g).2) := by omega
  have hPP : min (lab e c E (e g).1) (lab e c E (e g).2) = lab e c E (e g).1 ∧ max (lab e c E (e g).1) (lab e c E (e g).2) = lab e c E (e g).2 ∨ min (lab e c E (e g).1) (lab e c E (e g).2) = lab e c E (e g).2 ∧ max (lab e c E (e g).1) (lab e c E (e g).2) = lab e c E (e g).1 := by omega
  have hlf : lab e (setB c g true) E = lq (lab e c E) (min (lab e c E (e g).1) (lab e c E (e g).2)) (max (lab e c E (e g).1) (lab e c E (e g).2)) := funext fun x => lab_join hc hg x
  unfold treeM
  rw [und_ban, und_choose, hlf]
  by_cases hr : lab e c E k = min (lab e c E (e g).1) (lab e c E (e g).2) ∨ lab e c E k = max (lab e c E (e g).1) (lab e c E (e g).2)
  · have hr' : lq (lab e c E) (min (lab e c E (e g).1) (lab e c E (e g).2)) (max (lab e c E (e g).1) (lab e c E (e g).2)) k = min (lab e c E (e g).1) (lab e c E (e g).2) := by
      unfold lq
      split
      · rfl
      · rcases hr with h | h
        · exact h
        · contradiction
    rw [hr']
    exact big_join_near (fun x => lab_lab e c E x) hg hu hPP hPQ (by omega) (by omega) hr
  · have hr' : lq (lab e c E) (min (lab e c E (e g).1) (lab e c E (e g).2)) (max (lab e c E (e g).1) (lab e c E (e g).2)) k = lab e c E k := by
      unfold lq
      rw [if_neg fun h => hr (.inr h)]
    rw [hr']
    exact big_join_far (fun x => lab_lab e c E x) hg hu hPP hPQ (by omega) (by omega) (fun h => hr (.inl h)) (fun h => hr (.inr h))
theorem treeM_loop {e : Nat → Nat × Nat} {V E c b g k : Nat} (hc : c < 2 ^ E) (hl : Cn e c (e g).1 (e g).2) : dt V (treeM e E c b k) = dt V (treeM e E c (setB b g true) k) := by
  refine dt_congr fun x y hx hy => ?_
  unfold treeM big sg
  congr 1
  refine sumTo_congr fun h hh => ?_
  rw [und_ban]
  unfold uq
  by_cases e1 : h = g
  · subst e1
    have : vg (lab e c E) (lab e c E k) (e h) x = 0 := by unfold vg; rw [(lab_iff hc _ _).2 hl]; split <;> omega
    rw [this]; simp
  · simp [e1]
theorem trees_det {e : Nat → Nat × Nat} {V E k : Nat} (hG : Gr e V E) (hk : k < V) : ∀ d c b, c < 2 ^ E → b < 2 ^ E → (∀ i, c.testBit i = true → b.testBit i = false) → pop E c + parts e V E c = V → cnt (und c b) E = d →
    dt V (treeM e E c b k) = (trees e V E c b : Int)
  | 0, c, b, hc, hb, hd, hf, h0 => by
    rw [cnt_zero_iff] at h0
    have hM : ∀ x y, treeM e E c b k x y = dg (lab e c E) (lab e c E k) x y := fun x y => by
      unfold treeM big sg
      rw [sumTo_zero fun i hi => by rw [h0 i hi]; rfl]; omega
    have hcb : ∀ i, i < E → (b.testBit i = !c.testBit i) := fun i hi => by
      have h1 := h0 i hi
      have h2 := hd i
      unfold und at h1
      cases a : c.testBit i <;> cases a2 : b.testBit i <;> simp_all
    have hN : trees e V E c b = (perf e V E c).toNat := by
      unfold trees
      rw [cnt_single hc (fun t ht hne => by
        rw [Bool.and_eq_false_iff]; left
        rw [Bool.eq_false_iff]
        intro hs
        rw [sup_iff] at hs
        apply hne
        apply Nat.eq_of_testBit_eq
        intro i
        by_cases hi : i < E
        · have := hs i hi
          have := hcb i hi
          cases a : c.testBit i <;> simp_all
        · rw [Nat.testBit_lt_two_pow (Nat.lt_of_lt_of_le ht (Nat.pow_le_pow_right (by decide) (by omega))), Nat.testBit_lt_two_pow (Nat.lt_of_lt_of_le hc (Nat.pow_le_pow_right (by decide) (by omega)))])]
      rw [show sup E c b c = true from sup_iff.2 fun i hi => ⟨id, fun h => by
        have := hcb i hi; rw [h] at this
        cases a : c.testBit i
        · rfl
        · rw [a] at this; exact absurd this (by decide)⟩, Bool.true_and]
    rw [hN]
    have hp : perf e V E c = decide (parts e V E c = 1) := by
      unfold perf
      rw [decide_eq_decide]
      omega
    have hkl := lab_le e c E k
    have hkk := lab_lab e c E k
    rw [hp]
    by_cases h1 : ∀ x, x < V → lab e c E x ≠ x ∨ x = lab e c E k
    · have : parts e V E c = 1 := by
        unfold parts
        rw [cnt_single (m := lab e c E k) (by omega) (fun x hx hne => by
          rcases h1 x hx with h | h
          · simpa using h
          · exact absurd h hne)]
        simp [hkk]
      rw [this, dt_one fun x y hx hy => by
        rw [hM]; unfold dg dl
        by_cases e1 : x = y
        · rw [if_pos ⟨e1, h1 x hx⟩, if_pos e1]
        · rw [if_neg (fun h => e1 h.1), if_neg e1]]
      rfl
    · have ⟨x, hx⟩ := Classical.not_forall.1 h1
      rw [Classical.not_imp, not_or, Classical.not_not] at hx
      obtain ⟨hxV, hx1, hx2⟩ := hx
      rw [dt_zero _ hxV fun y hy => by rw [hM]; unfold dg; exact if_neg fun h => h.2.elim (fun h => h hx1) hx2]
      have : parts e V E c ≠ 1 := by
        intro h
        unfold parts at h
        have h2 := cnt_one (p := fun x => lab e c E x == x) (q := fun z => (lab e c E z == z) && decide (z ≠ x)) hxV (by simp [hx1]) (by simp) (fun i hi hne => by simp [hne])
        have h3 := cnt_pos (p := fun z => (lab e c E z == z) && decide (z ≠ x)) (v := V) (m := lab e c E k) (by omega) (by simp [hkk, Ne.symm hx2])
        omega
      simp [this]
  | d + 1, c, b, hc, hb, hd, hf, h0 => by
    obtain ⟨g, hg, hu⟩ : ∃ g, g < E ∧ und c b g = true := by
      apply Classical.byContradiction
      intro h
      have : cnt (und c b) E = 0 := cnt_zero_iff.2 fun i hi => by
        rw [Bool.eq_false_iff]
        intro h2
        exact h ⟨i, hi, h2⟩
      omega
    have hu' := hu
    simp only [und, Bool.and_eq_true, Bool.not_eq_true'] at hu'
    have hcd : cnt (uq (und c b) g) E = d := by
      have := cnt_one (p := und c b) (q := uq (und c b) g) hg hu (by simp [uq]) (fun i hi hne => by simp [uq, hne])
      omega
    have hB := trees_det hG hk d c (setB b g true) hc (setB_lt true hb hg) (fun i hi => by
      rw [testBit_setB]
      split
      · rename_i e1; rw [e1, hu'.1] at hi; cases hi
      · exact hd i hi) hf (by rw [und_ban]; exact hcd)
    rw [trees_split hg hu]
    have hpa := parts_add (e := e) hc hg (hG g hg).1 (hG g hg).2
    by_cases hl : Cn e c (e g).1 (e g).2
    · rw [treeM_loop hc hl, hB, trees_loop hG hc hg hu hl, Nat.zero_add]
    · have hC := trees_det hG hk d (setB c g true) b (setB_lt true hc hg) hb (fun i hi => by
        rw [testBit_setB] at hi
        split at hi
        · rename_i e1; rw [e1]; exact hu'.2
        · exact hd i hi) (by rw [pop_setB hg hu'.1]; have := hpa.2 hl; omega) (by rw [und_choose]; exact hcd)
      rw [treeM_split hG hc hg hu hk hl, hB, hC]
      omega
theorem cnt_all {p : Nat → Bool} {n : Nat} (h : ∀ i, i < n → p i = true) : cnt p n = n := by
  induction n with
  | zero => rfl
  | succ n ih => simp only [cnt]; rw [ih fun i hi => h i (by omega), h n (by omega)]; rfl
theorem cnt_shift (p : Nat → Bool) (t : Nat) (ht : p t = false) : ∀ x, cnt (fun i => if i < t then p i else p (i + 1)) x = cnt p (if x < t then x else x + 1)
  | 0 => by
    by_cases h : 0 < t
    · rw [if_pos h]; rfl
    · have : t = 0 := by omega
      subst this
      simp [cnt, ht]
  | x + 1 => by
    simp only [cnt]
    rw [cnt_shift p t ht x]
    by_cases h : x + 1 < t
    · rw [if_pos (by omega), if_pos (by omega), if_pos h]; rfl
    · rw [if_neg h]
      by_cases e : x < t
      · have e1 : t = x + 1 := by omega
        subst e1
        rw [if_pos e, if_pos e]
        simp only [cnt, ht]
        rfl
      · rw [if_neg e, if_neg e]; rfl
theorem dt_comp : ∀ (d V : Nat) (p : Nat → Bool) (A B : Nat → Nat → Int), cnt p V + d = V → (∀ x y, x < V → y < V → p x = false → A x y = dl x y) → (∀ x y, x < V → y < V → p x = true → p y = true → B (cnt p x) (cnt p y) = A x y) → dt V A = dt (cnt p V) B
  | 0, V, p, A, B, hc, hu, hB => by
    have hall : ∀ i, i < V → p i = true := by
      intro i hi
      cases hp : p i
      · have := cnt_one (p := fun j => p j || decide (j = i)) (q := p) hi (by simp) hp (fun j _ hne => by simp [hne])
        have := cnt_le (fun j => p j || decide (j = i)) V
        omega
      · rfl
    rw [cnt_all hall]
    refine dt_congr fun x y hx hy => ?_
    have := hB x y hx hy (hall x hx) (hall y hy)
    rw [cnt_all fun i hi => hall i (by omega), cnt_all fun i hi => hall i (by omega)] at this
    exact this.symm
  | d + 1, V, p, A, B, hc, hu, hB => by
    obtain ⟨t, ht, hpt⟩ : ∃ t, t < V ∧ p t = false := by
      apply Classical.byContradiction
      intro h
      have := cnt_all (p := p) (n := V) fun i hi => by
        cases hp : p i
        · exact absurd ⟨i, hi, hp⟩ h
        · rfl
      omega
    obtain ⟨r, rfl⟩ : ∃ r, V = r + 1 := ⟨V - 1, by omega⟩
    rw [unit_row (show t ≤ r by omega) fun c hc => hu t c ht (by omega) hpt]
    have hs : ∀ x, cnt (fun i => if i < t then p i else p (i + 1)) x = cnt p (if x < t then x else x + 1) := cnt_shift p t hpt
    have hr := hs r
    rw [if_neg (by omega)] at hr
    have hA : ∀ x y, er t (ec t A) x y = A (if x < t then x else x + 1) (if y < t then y else y + 1) := fun x y => by
      unfold er ec
      by_cases h1 : x < t <;> by_cases h2 : y < t <;> simp [h1, h2]
    rw [dt_comp d r (fun i => if i < t then p i else p (i + 1)) (er t (ec t A)) B (by omega) ?_ ?_, hr]
    · intro x y hx hy hp
      rw [hA]
      by_cases h1 : x < t <;> by_cases h2 : y < t <;> simp only [h1, h2, if_true, if_false] at hp ⊢
      · exact hu _ _ (by omega) (by omega) hp
      · rw [hu _ _ (by omega) (by omega) hp, dl_ne (by omega), dl_ne (by omega)]
      · rw [hu _ _ (by omega) (by omega) hp, dl_ne (by omega), dl_ne (by omega)]
      · rw [hu _ _ (by omega) (by omega) hp]; unfold dl; by_cases e : x = y
        · rw [if_pos (by omega), if_pos e]
        · rw [if_neg (by omega), if_neg e]
    · intro x y hx hy hpx hpy
      rw [hs, hs, hA]
      refine hB _ _ (by split <;> omega) (by split <;> omega) ?_ ?_
      · by_cases h1 : x < t
        · simpa only [h1, if_true] using hpx
        · simpa only [h1, if_false] using hpx
      · by_cases h1 : y < t
        · simpa only [h1, if_true] using hpy
        · simpa only [h1, if_false] using hpy
end Go.Proofs.Ytoohcdfokejkdaa.P
namespace Go.Proofs.Ytoohcdfokejkdaa.P
open Go.RowKit Go.Proofs.YtoohcdfokejkdaaW.PrintWords
set_option linter.unusedVariables false
set_option linter.unusedSimpArgs false

/-- The place of a vertex's part among the parts. -/
def plc (e : Nat → Nat × Nat) (E c x : Nat) : Nat := cnt (fun z => lab e c E z == z) (lab e c E x)
def pm (e : Nat → Nat × Nat) (E : Nat) (P : Nat → Nat) (U : Nat → Bool) (i j : Nat) : Int := sumTo E fun g => if U g then (dl i (P (e g).1) - dl i (P (e g).2)) * (dl j (P (e g).1) - dl j (P (e g).2)) else 0
theorem cnt_lt {p : Nat → Bool} {m n : Nat} (h : m < n) (hp : p m = true) : cnt p m < cnt p n := by
  obtain ⟨d, rfl⟩ := Nat.exists_eq_add_of_lt h
  induction d with
  | zero => simp only [Nat.add_zero, cnt, hp]; simp
  | succ d ih =>
    have := ih (by omega)
    have e : cnt p (m + (d + 1) + 1) = cnt p (m + d + 1) + (p (m + d + 1)).toNat := rfl
    omega
theorem cnt_inj {p : Nat → Bool} {m n : Nat} (hm : p m = true) (hn : p n = true) (h : cnt p m = cnt p n) : m = n := by
  rcases Nat.lt_trichotomy m n with h1 | h1 | h1
  · have := cnt_lt h1 hm; omega
  · exact h1
  · have := cnt_lt h1 hn; omega
section
variable {e : Nat → Nat × Nat} {V E c b : Nat}
theorem lab_rep (x : Nat) : (lab e c E (lab e c E x) == lab e c E x) = true := by rw [lab_lab]; simp
theorem plc_lt {x : Nat} (hx : x < V) : plc e E c x < parts e V E c := cnt_lt (Nat.lt_of_le_of_lt (lab_le e c E x) hx) (lab_rep x)
theorem plc_eq {x y : Nat} : plc e E c x = plc e E c y ↔ lab e c E x = lab e c E y :=
  ⟨fun h => cnt_inj (p := fun z => lab e c E z == z) (lab_rep x) (lab_rep y) h, fun h => by unfold plc; rw [h]⟩
theorem lab_zero : lab e c E 0 = 0 := Nat.le_zero.1 (lab_le e c E 0)
theorem cnt_drop0 (q : Nat → Bool) (h0 : q 0 = true) : ∀ x, cnt (fun z => q z && decide (z ≠ 0)) x = cnt q x - 1
  | 0 => rfl
  | 1 => by simp [cnt, h0]
  | x + 2 => by
    have ih := cnt_drop0 q h0 (x + 1)
    have h1 : 0 < cnt q (x + 1) := cnt_pos (m := 0) (by omega) h0
    have e1 : cnt (fun z => q z && decide (z ≠ 0)) (x + 2) = cnt (fun z => q z && decide (z ≠ 0)) (x + 1) + (q (x + 1) && decide (x + 1 ≠ 0)).toNat := rfl
    have e2 : cnt q (x + 2) = cnt q (x + 1) + (q (x + 1)).toNat := rfl
    rw [e1, e2, ih]
    simp
    omega
theorem trees_place (hG : Gr e V E) (hV : 0 < V) (hc : c < 2 ^ E) (hb : b < 2 ^ E) (hd : ∀ i, c.testBit i = true → b.testBit i = false) (hf : pop E c + parts e V E c = V) :
    (trees e V E c b : Int) = dt (parts e V E c - 1) (fun i j => pm e E (plc e E c) (und c b) (i + 1) (j + 1)) := by
  rw [← trees_det hG hV _ c b hc hb hd hf rfl]
  have hq0 : (fun z => lab e c E z == z) 0 = true := by simp [lab_zero]
  have hcn := cnt_drop0 (fun z => lab e c E z == z) hq0
  have hpos : 0 < parts e V E c := parts_pos hc hV
  have hcV : cnt (fun z => (lab e c E z == z) && decide (z ≠ 0)) V = parts e V E c - 1 := hcn V
  rw [dt_comp (V - (parts e V E c - 1)) V (fun z => (lab e c E z == z) && decide (z ≠ 0)) (treeM e E c b 0) (fun i j => pm e E (plc e E c) (und c b) (i + 1) (j + 1)) (by rw [hcV]; have := cnt_le (fun z => lab e c E z == z) V; unfold parts; omega), hcV]
  · intro x y hx hy hp
    have hr : lab e c E x ≠ x ∨ x = 0 := by
      simp only [Bool.and_eq_false_iff, decide_eq_false_iff_not, beq_eq_false_iff_ne, ne_eq, Classical.not_not] at hp
      exact hp
    unfold treeM big
    rw [lab_zero]
    have hv : ∀ g, vg (lab e c E) 0 (e g) x = 0 := fun g => by
      unfold vg
      rcases hr with h | h
      · have : ∀ a, dl x (lab e c E a) = 0 := fun a => dl_ne fun h' => h (by rw [h', lab_lab])
        rw [this, this]; simp
      · rw [if_pos h]
    have : sg e E (lab e c E) 0 (und c b) x y = 0 := by
      unfold sg
      exact sumTo_zero fun g _ => by rw [hv]; simp
    rw [this]
    unfold dg dl
    by_cases e1 : x = y
    · rw [if_pos ⟨e1, hr⟩, if_pos e1]; rfl
    · rw [if_neg fun h => e1 h.1, if_neg e1]; rfl
  · intro x y hx hy hpx hpy
    simp only [Bool.and_eq_true, beq_iff_eq, decide_eq_true_eq] at hpx hpy
    rw [hcn, hcn]
    have hx1 : 0 < cnt (fun z => lab e c E z == z) x := cnt_pos (m := 0) (by omega) hq0
    have hy1 : 0 < cnt (fun z => lab e c E z == z) y := cnt_pos (m := 0) (by omega) hq0
    have hk : ∀ z, lab e c E z = z → ∀ a, dl (cnt (fun z => lab e c E z == z) z) (plc e E c a) = dl z (lab e c E a) := fun z hz a => by
      have e1 : cnt (fun z => lab e c E z == z) z = plc e E c z := by unfold plc; rw [hz]
      unfold dl
      rw [e1]
      by_cases h : z = lab e c E a
      · rw [if_pos h, if_pos (plc_eq.2 (by rw [hz, h]))]
      · rw [if_neg h, if_neg fun h' => h (by rw [← plc_eq.1 h', hz])]
    unfold treeM big pm
    rw [lab_zero, Nat.sub_add_cancel hx1, Nat.sub_add_cancel hy1]
    have : dg (lab e c E) 0 x y = 0 := by
      unfold dg
      exact if_neg fun h => h.2.elim (fun h => h hpx.1) (fun h => hpx.2 h)
    rw [this, Int.zero_add]
    unfold sg
    refine sumTo_congr fun g _ => ?_
    unfold vg
    rw [if_neg hpx.2, if_neg hpy.2, hk x hpx.1, hk x hpx.1, hk y hpy.1, hk y hpy.1]
end
end Go.Proofs.Ytoohcdfokejkdaa.P
namespace Go.Proofs.Ytoohcdfokejkdaa.P
open Go.RowKit Go.Proofs.YtoohcdfokejkdaaW.PrintWords
set_option linter.unusedVariables false
set_option linter.unusedSimpArgs false

/-- The first k rows and columns, bordered by the row i and the column j. -/
def bd (A : Nat → Nat → Int) (k i j : Nat) : Nat → Nat → Int := fun r c => A (if r < k then r else i) (if c < k then c else j)
def mnB (A : Nat → Nat → Int) (k i j : Nat) : Int := dt (k + 1) (bd A k i j)
theorem mn_zero (A : Nat → Nat → Int) (i j : Nat) : mnB A 0 i j = A i j := by
  simp [mnB, dt, sumTo, bd, sgn]
theorem mn_diag (A : Nat → Nat → Int) (k : Nat) : mnB A k k k = dt (k + 1) A := by
  refine dt_congr fun r c hr hc => ?_
  unfold bd
  rw [show (if r < k then r else k) = r by split <;> omega, show (if c < k then c else k) = c by split <;> omega]
theorem mn_row (A : Nat → Nat → Int) (k i : Nat) : ∃ f : Nat → Int, ∀ j, mnB A k i j = dt k A * A i j + sumTo k (fun l => f l * A l j) := by
  refine ⟨fun l => sgn (k - l) * dt k (er l (bd A k i 0)), fun j => ?_⟩
  unfold mnB
  simp only [dt, sumTo]
  rw [Int.add_comm]
  congr 1
  · rw [Nat.sub_self, show bd A k i j k k = A i j by simp [bd], show dt k (er k (bd A k i j)) = dt k A from dt_congr fun r c hr hc => by simp [er, bd, hr, hc]]
    simp [sgn, Int.mul_comm]
  · refine sumTo_congr fun l hl => ?_
    rw [show bd A k i j l k = A l j by simp [bd, hl], show dt k (er l (bd A k i j)) = dt k (er l (bd A k i 0)) from dt_congr fun r c hr hc => by
      by_cases h : r < l <;> simp [er, bd, hc, h]]
    grind
theorem mn_col {A : Nat → Nat → Int} {k i j : Nat} (h : j < k) : mnB A k i j = 0 := by
  unfold mnB
  rw [← dt_tr]
  refine dt_eq _ (i := j) (j := k) (by omega) (by omega) (by omega) fun c => ?_
  simp [tr, bd]
theorem dt_comb {r : Nat} (A : Nat → Nat → Int) {i : Nat} (hi : i < r) (p : Int) (f : Nat → Int) : ∀ m, m ≤ i → dt r (rp A i (fun x => p * A i x + sumTo m (fun l => f l * A l x))) = p * dt r A
  | 0, _ => by
    have h := dt_lin A hi p 0 (A i) (A i)
    rw [rp_self] at h
    rw [show (fun x => p * A i x + sumTo 0 (fun l => f l * A l x)) = fun x => p * A i x + 0 * A i x by funext x; simp [sumTo], h]
    omega
  | m + 1, hm => by
    have h := dt_lin A hi 1 (f m) (fun x => p * A i x + sumTo m (fun l => f l * A l x)) (A m)
    rw [dt_comb A hi p f m (by omega), dt_eq (rp A i (A m)) (i := i) (j := m) (by omega) hi (by omega) (fun c => by rw [rp_same, rp_ne _ (by omega)])] at h
    rw [show (fun x => p * A i x + sumTo (m + 1) (fun l => f l * A l x)) = fun x => 1 * (p * A i x + sumTo m (fun l => f l * A l x)) + f m * A m x by
      funext x; simp only [sumTo]; omega, h]
    omega
theorem syl (A : Nat → Nat → Int) (k i j : Nat) (hp : dt k A ≠ 0) : dt k A * mnB A (k + 1) i j = mnB A k k k * mnB A k i j - mnB A k i k * mnB A k k j := by
  obtain ⟨f, hf⟩ := mn_row A k k
  obtain ⟨g, hg⟩ := mn_row A k i
  have hM : ∀ l, l ≤ k → ∀ x, bd A (k + 1) i j l x = A l (if x < k + 1 then x else j) := fun l hl x => by unfold bd; rw [if_pos (show l < k + 1 by omega)]
  have hL : ∀ x, bd A (k + 1) i j (k + 1) x = A i (if x < k + 1 then x else j) := fun x => by unfold bd; rw [if_neg (show ¬ k + 1 < k + 1 by omega)]
  generalize hMM : bd A (k + 1) i j = M at *
  have e1 := dt_comb (r := k + 2) M (i := k) (by omega) (dt k A) f k (Nat.le_refl k)
  have e1' : (fun x => dt k A * M k x + sumTo k (fun l => f l * M l x)) = fun x => mnB A k k (if x < k + 1 then x else j) := by
    funext x
    rw [hf, hM k (Nat.le_refl k)]
    congr 1
    exact sumTo_congr fun l hl => by rw [hM l (by omega)]
  rw [e1'] at e1
  generalize hN : rp M k (fun x => mnB A k k (if x < k + 1 then x else j)) = N at *
  have e2 := dt_comb (r := k + 2) N (i := k + 1) (by omega) (dt k A) g k (by omega)
  have hNl : ∀ l, l ≠ k → N l = M l := fun l hl => by rw [← hN, rp_ne _ hl]
  have hNk : ∀ x, N k x = mnB A k k (if x < k + 1 then x else j) := fun x => by rw [← hN, rp_same]
  have e2' : (fun x => dt k A * N (k + 1) x + sumTo k (fun l => g l * N l x)) = fun x => mnB A k i (if x < k + 1 then x else j) := by
    funext x
    rw [hg, hNl (k + 1) (by omega), hL]
    congr 1
    exact sumTo_congr fun l hl => by rw [hNl l (by omega), hM l (by omega)]
  rw [e2'] at e2
  generalize hR : rp N (k + 1) (fun x => mnB A k i (if x < k + 1 then x else j)) = R at *
  have hRl : ∀ l, l < k → ∀ x, R l x = A l (if x < k + 1 then x else j) := fun l hl x => by rw [← hR, rp_ne _ (by omega), hNl l (by omega), hM l (by omega)]
  have hRk : ∀ x, R k x = mnB A k k (if x < k + 1 then x else j) := fun x => by rw [← hR, rp_ne _ (by omega), hNk]
  have hRi : ∀ x, R (k + 1) x = mnB A k i (if x < k + 1 then x else j) := fun x => by rw [← hR, rp_same]
  have e3 : dt (k + 2) R = dt k A * (mnB A k k k * mnB A k i j - mnB A k i k * mnB A k k j) := by
    rw [dt_lastvec]
    have z : sumTo (k + 2) (fun c => sgn (k + 1 - c) * R (k + 1) c * dt (k + 1) (ec c R)) = sumTo k (fun c => sgn (k + 1 - c) * R (k + 1) c * dt (k + 1) (ec c R)) + sgn (k + 1 - k) * R (k + 1) k * dt (k + 1) (ec k R) + sgn (k + 1 - (k + 1)) * R (k + 1) (k + 1) * dt (k + 1) (ec (k + 1) R) := rfl
    rw [z, sumTo_zero (fun c hc => by rw [hRi, if_pos (by omega), mn_col hc]; simp)]
    have u1 : dt (k + 1) (ec k R) = mnB A k k j * dt k A := by
      rw [dt_unit (ec k R) (p := k) (q := k) (Nat.le_refl k) (Nat.le_refl k) (fun c hc hne => by
        rw [show ec k R k c = R k c from if_pos (by omega), hRk, if_pos (by omega), mn_col (by omega)])]
      rw [show ec k R k k = R k (k + 1) from if_neg (by omega), hRk, if_neg (by omega), sgn_par (show (k + k) % 2 = 0 % 2 by omega)]
      rw [show dt k (er k (ec k (ec k R))) = dt k A from dt_congr fun r c hr hc => by
        rw [show er k (ec k (ec k R)) r c = R r c by simp [er, ec, hr, hc], hRl r hr, if_pos (by omega)]]
      simp [sgn]
    have u2 : dt (k + 1) (ec (k + 1) R) = mnB A k k k * dt k A := by
      rw [dt_unit (ec (k + 1) R) (p := k) (q := k) (Nat.le_refl k) (Nat.le_refl k) (fun c hc hne => by
        rw [show ec (k + 1) R k c = R k c from if_pos (by omega), hRk, if_pos (by omega), mn_col (by omega)])]
      rw [show ec (k + 1) R k k = R k k from if_pos (by omega), hRk, if_pos (by omega), sgn_par (show (k + k) % 2 = 0 % 2 by omega)]
      rw [show dt k (er k (ec k (ec (k + 1) R))) = dt k A from dt_congr fun r c hr hc => by
        rw [show er k (ec k (ec (k + 1) R)) r c = R r c by simp [er, ec, hr, hc, show c < k + 1 by omega], hRl r hr, if_pos (by omega)]]
      simp [sgn]
    rw [u1, u2, hRi, hRi, if_pos (by omega), if_neg (by omega), show k + 1 - k = 1 by omega, Nat.sub_self, show sgn 1 = -1 from rfl, show sgn 0 = 1 from rfl]
    grind
  rw [e3, e1] at e2
  have e4 : dt k A * (mnB A k k k * mnB A k i j - mnB A k i k * mnB A k k j) = dt k A * (dt k A * mnB A (k + 1) i j) := by
    rw [e2]; unfold mnB; rw [hMM]
  exact (Int.eq_of_mul_eq_mul_left hp e4).symm
/-- A sum from k on. -/
def sumFrom (k n : Nat) (f : Nat → Int) : Int := sumTo n fun j => if k ≤ j then f j else 0
/-- Off the diagonal no entry is positive, and no row sums to less than 0. -/
structure Heavy (n : Nat) (A : Nat → Nat → Int) : Prop where
  off : ∀ i j, i < n → j < n → i ≠ j → A i j ≤ 0
  row : ∀ i, i < n → 0 ≤ sumTo n (A i)
structure HeavyK (n : Nat) (A : Nat → Nat → Int) (k : Nat) : Prop where
  off : ∀ i j, k ≤ i → k ≤ j → i < n → j < n → i ≠ j → mnB A k i j ≤ 0
  row : ∀ i, k ≤ i → i < n → 0 ≤ sumFrom k n (mnB A k i)
  pos : 0 < dt k A
theorem sumTo_ge {n i : Nat} {f : Nat → Int} (hi : i < n) (h : ∀ j, j < n → j ≠ i → f j ≤ 0) : sumTo n f ≤ f i := by
  induction n with
  | zero => omega
  | succ n ih =>
    simp only [sumTo]
    by_cases e : i = n
    · subst e
      have : ∀ m, m ≤ i → sumTo m f ≤ 0 := by
        intro m
        induction m with
        | zero => intro _; exact Int.le_refl _
        | succ m ihm => intro hm; simp only [sumTo]; have := ihm (by omega); have := h m (by omega) (by omega); omega
      have := this i (Nat.le_refl i)
      omega
    · have := ih (by omega) (fun j hj hne => h j (by omega) hne)
      have := h n (by omega) (fun e' => e e'.symm)
      omega
theorem sumTo_ge2 {n i j : Nat} {f : Nat → Int} (hi : i < n) (hj : j < n) (hij : i ≠ j) (h : ∀ j, j < n → j ≠ i → f j ≤ 0) : sumTo n f ≤ f i + f j := by
  have h1 := sumTo_one (f := fun k => if k = j then 0 else f k) (g := f) hj (fun k hk hne => by simp [hne])
  have h2 := sumTo_ge (f := fun k => if k = j then 0 else f k) hi (fun k hk hne => by
    show (if k = j then 0 else f k) ≤ 0
    by_cases e : k = j
    · rw [if_pos e]; omega
    · rw [if_neg e]; exact h k hk hne)
  rw [if_pos rfl] at h1
  rw [if_neg hij] at h2
  omega
theorem HeavyK.diag {n k : Nat} {A : Nat → Nat → Int} (H : HeavyK n A k) {i : Nat} (h1 : k ≤ i) (h2 : i < n) : 0 ≤ mnB A k i i := by
  have := H.row i h1 h2
  unfold sumFrom at this
  have h3 := sumTo_ge (f := fun j => if k ≤ j then mnB A k i j else 0) h2 (fun j hj hne => by
    show (if k ≤ j then mnB A k i j else 0) ≤ 0
    split
    · rename_i hkj; exact H.off i j h1 hkj h2 hj hne.symm
    · omega)
  simp only [h1, if_true] at h3
  omega
theorem HeavyK.abs {n k : Nat} {A : Nat → Nat → Int} (H : HeavyK n A k) {i j : Nat} (h1 : k ≤ i) (h2 : i < n) (h3 : k ≤ j) (h4 : j < n) (hij : i ≠ j) : -mnB A k i i ≤ mnB A k i j := by
  have := H.row i h1 h2
  unfold sumFrom at this
  have h5 := sumTo_ge2 (f := fun j => if k ≤ j then mnB A k i j else 0) h2 h4 hij (fun j hj hne => by
    show (if k ≤ j then mnB A k i j else 0) ≤ 0
    split
    · rename_i hkj; exact H.off i j h1 hkj h2 hj hne.symm
    · omega)
  simp only [h1, h3, if_true] at h5
  omega
theorem HeavyK.start {n : Nat} {A : Nat → Nat → Int} (H : Heavy n A) : HeavyK n A 0 where
  off := fun i j _ _ hi hj hij => by rw [mn_zero]; exact H.off i j hi hj hij
  row := fun i _ hi => by
    unfold sumFrom
    simp only [mn_zero, Nat.zero_le, if_true]
    exact H.row i hi
  pos := by simp [dt]
theorem HeavyK.next {n k : Nat} {A : Nat → Nat → Int} (H : HeavyK n A k) (hk : k < n) (hp : mnB A k k k ≠ 0) : HeavyK n A (k + 1) := by
  have hd := H.diag (Nat.le_refl k) hk
  have hpos := H.pos
  have S := fun i j => syl A k i j (by omega)
  refine { off := fun i j hi hj hin hjn hij => ?_, row := fun i hi hin => ?_, pos := by rw [← mn_diag]; omega }
  · have h1 := H.off i j (by omega) (by omega) hin hjn hij
    have h2 := H.off i k (by omega) (by omega) hin hk (by omega)
    have h3 := H.off k j (by omega) (by omega) hk hjn (by omega)
    have e := S i j
    have a1 : mnB A k k k * mnB A k i j ≤ 0 := Int.mul_nonpos_of_nonneg_of_nonpos hd h1
    have a2 : 0 ≤ mnB A k i k * mnB A k k j := Int.mul_nonneg_of_nonpos_of_nonpos h2 h3
    rcases Int.lt_or_le 0 (mnB A (k + 1) i j) with hc | hc
    · have := Int.mul_pos hpos hc
      omega
    · exact hc
  · have e : dt k A * sumFrom (k + 1) n (mnB A (k + 1) i) = mnB A k k k * sumFrom k n (mnB A k i) - mnB A k i k * sumFrom k n (mnB A k k) := by
      unfold sumFrom
      rw [← sumTo_mul, ← sumTo_mul, ← sumTo_mul, Int.sub_eq_add_neg, ← sumTo_neg, ← sumTo_add]
      refine sumTo_congr fun j hj => ?_
      by_cases h1 : k + 1 ≤ j
      · rw [if_pos h1, if_pos (by omega), if_pos (by omega), S i j]; omega
      · rw [if_neg h1]
        by_cases h2 : k = j
        · subst h2
          rw [if_pos (Nat.le_refl _), if_pos (Nat.le_refl _), Int.mul_comm (mnB A k i k)]; omega
        · rw [if_neg (by omega), if_neg (by omega)]; omega
    have h1 := H.row i (by omega) hin
    have h2 := H.row k (Nat.le_refl k) hk
    have h3 := H.off i k (by omega) (by omega) hin hk (by omega)
    have a1 := Int.mul_nonneg hd h1
    have a2 : mnB A k i k * sumFrom k n (mnB A k k) ≤ 0 := Int.mul_nonpos_of_nonpos_of_nonneg h3 h2
    rcases Int.lt_or_le (sumFrom (k + 1) n (mnB A (k + 1) i)) 0 with hc | hc
    · have := Int.mul_neg_of_pos_of_neg hpos hc
      omega
    · exact hc
/-- An empty pivot: the determinant is 0. -/
theorem HeavyK.zero {n k : Nat} {A : Nat → Nat → Int} (H : HeavyK n A k) (hk : k < n) (hp : mnB A k k k = 0) : dt n A = 0 := by
  have hpos := H.pos
  have hz : ∀ j, j < n → mnB A k k j = 0 := by
    intro j hj
    by_cases h1 : j < k
    · exact mn_col h1
    · by_cases h2 : k = j
      · rw [← h2]; exact hp
      · have := H.off k j (Nat.le_refl k) (by omega) hk hj h2
        have := H.abs (Nat.le_refl k) hk (show k ≤ j by omega) hj h2
        omega
  obtain ⟨f, hf⟩ := mn_row A k k
  have h1 := dt_comb A hk (dt k A) f k (Nat.le_refl k)
  rw [dt_zero _ hk (fun c hc => by rw [rp_same, ← hf, hz c hc])] at h1
  rcases Int.mul_eq_zero.1 h1.symm with h | h
  · omega
  · exact h
/-- The diagonal bounds. -/
theorem HeavyK.step_le {n k : Nat} {A : Nat → Nat → Int} (H : HeavyK n A k) (hk : k < n) {i : Nat} (hi : k < i) (hin : i < n) : dt k A * mnB A (k + 1) i i ≤ dt (k + 1) A * mnB A k i i := by
  rw [syl A k i i (by have := H.pos; omega), ← mn_diag]
  have := Int.mul_nonneg_of_nonpos_of_nonpos (H.off i k (by omega) (by omega) hin hk (by omega)) (H.off k i (by omega) (by omega) hk hin (by omega))
  omega
/-- The product of the first k numbers of the diagonal. -/
def dprod (A : Nat → Nat → Int) : Nat → Int
  | 0 => 1
  | k + 1 => dprod A k * A k k
theorem Heavy.diag {n : Nat} {A : Nat → Nat → Int} (H : Heavy n A) {i : Nat} (hi : i < n) : 0 ≤ A i i := by
  have := H.row i hi
  have := sumTo_ge (f := A i) hi (fun j hj hne => H.off i j hi hj (Ne.symm hne))
  omega
/-- What is kept from step to step. -/
structure Stage (n : Nat) (A : Nat → Nat → Int) (k : Nat) : Prop extends HeavyK n A k where
  ple : dt k A ≤ dprod A k
  dle : ∀ i, k ≤ i → i < n → mnB A k i i ≤ dt k A * A i i
theorem Stage.start {n : Nat} {A : Nat → Nat → Int} (H : Heavy n A) : Stage n A 0 :=
  { HeavyK.start H with ple := by simp [dt, dprod], dle := fun i _ _ => by rw [mn_zero]; simp [dt] }
theorem Stage.next {n k : Nat} {A : Nat → Nat → Int} (H : Heavy n A) (K : Stage n A k) (hk : k < n) (hp : mnB A k k k ≠ 0) : Stage n A (k + 1) := by
  have N := K.toHeavyK.next hk hp
  have hpos := K.pos
  refine { N with ple := ?_, dle := fun i hi hin => ?_ }
  · have h1 := K.dle k (Nat.le_refl k) hk
    rw [mn_diag] at h1
    have h2 := Int.mul_le_mul_of_nonneg_right K.ple (H.diag hk)
    exact Int.le_trans h1 h2
  · have h1 := K.toHeavyK.step_le hk (show k < i by omega) hin
    have h2 := K.dle i (by omega) hin
    have h3 := Int.mul_le_mul_of_nonneg_left h2 (Int.le_of_lt N.pos)
    have h4 : dt k A * mnB A (k + 1) i i ≤ dt k A * (dt (k + 1) A * A i i) := by
      refine Int.le_trans h1 (Int.le_trans h3 (Int.le_of_eq ?_))
      rw [← Int.mul_assoc, ← Int.mul_assoc, Int.mul_comm (dt (k + 1) A)]
    exact Int.le_of_mul_le_mul_left h4 hpos
theorem setB_false_sub {n j i : Nat} (h : (setB n j false).testBit i = true) : n.testBit i = true := by
  rw [testBit_setB] at h
  split at h
  · cases h
  · exact h
theorem setB_false_mono {n m j i : Nat} (hs : ∀ i, m.testBit i = true → n.testBit i = true) (h : (setB m j false).testBit i = true) : (setB n j false).testBit i = true := by
  rw [testBit_setB] at h ⊢
  split at h
  · cases h
  · rename_i hne
    rw [if_neg hne]
    exact hs i h
theorem bridges_forest {e : Nat → Nat × Nat} {V E : Nat} (hG : Gr e V E) : ∀ p n, pop E n = p → n < 2 ^ E → (∀ j, j < E → n.testBit j = true → ¬ Cn e (setB n j false) (e j).1 (e j).2) → pop E n + parts e V E n = V := by
  intro p
  induction p using Nat.strongRecOn with
  | _ p ih =>
    intro n hp hn hb
    by_cases he : ∃ g, g < E ∧ n.testBit g = true
    · obtain ⟨g, hg, hbg⟩ := he
      have hlt : setB n g false < 2 ^ E := setB_lt _ hn hg
      have p1 := pop_setB (m := E) (n := setB n g false) hg (setB_bit n g false)
      rw [setB_off_on hbg] at p1
      have p2 := (parts_add (v := V) hlt hg (hG g hg).1 (hG g hg).2).2 (hb g hg hbg)
      rw [setB_off_on hbg] at p2
      have := ih (pop E (setB n g false)) (by omega) _ rfl hlt (fun j hj hbj hc => hb j hj (setB_false_sub hbj) (Cn.mono (fun i hi => setB_false_mono (fun i hi => setB_false_sub hi) hi) hc))
      omega
    · have h0 : n = 0 := by
        refine Nat.eq_of_testBit_eq fun i => ?_
        rw [Nat.zero_testBit]
        cases hbi : n.testBit i
        · rfl
        · exact absurd ⟨i, lt_of_testBit hn hbi, hbi⟩ he
      subst h0
      have : ∀ m, pop m 0 = 0 := by
        intro m
        induction m with
        | zero => rfl
        | succ m ih => simp only [pop, Nat.zero_testBit, ih]; rfl
      rw [this, parts_zero, Nat.zero_add]
end Go.Proofs.Ytoohcdfokejkdaa.P
namespace Go.Proofs.Ytoohcdfokejkdaa.P
open Go.RowKit Go.Proofs.YtoohcdfokejkdaaW.PrintWords
set_option linter.unusedVariables false
set_option linter.unusedSimpArgs false

section
variable {e : Nat → Nat × Nat} {V E : Nat}
/-- What lies in a forest is a forest. -/
theorem forest_sub (hG : Gr e V E) {c t : Nat} (ht : t < 2 ^ E) (hc : c < 2 ^ E) (hf : pop E t + parts e V E t = V) (hs : ∀ i, c.testBit i = true → t.testBit i = true) : pop E c + parts e V E c = V := by
  refine bridges_forest hG _ c rfl hc fun j hj hb hcn => ?_
  refine bridge_of_forest hG ht hf (hs j hb) (hcn.mono fun i hi => ?_)
  rw [testBit_setB] at hi ⊢
  by_cases h : i = j
  · rw [if_pos h] at hi; cases hi
  · rw [if_neg h] at hi ⊢; exact hs i hi
theorem cnt_ex {p : Nat → Bool} {n : Nat} (h : 0 < cnt p n) : ∃ i, i < n ∧ p i = true := by
  apply Classical.byContradiction
  intro hn
  have : cnt p n = 0 := cnt_zero_iff.2 fun i hi => by
    cases hp : p i
    · rfl
    · exact absurd ⟨i, hi, hp⟩ hn
  omega
theorem trees_ex {c b : Nat} (h : 0 < trees e V E c b) : ∃ t, t < 2 ^ E ∧ sup E c b t = true ∧ perf e V E t = true := by
  obtain ⟨t, ht, hp⟩ := cnt_ex h
  rw [Bool.and_eq_true] at hp
  exact ⟨t, ht, hp⟩
theorem trees_pos {c b t : Nat} (ht : t < 2 ^ E) (hs : sup E c b t = true) (hp : perf e V E t = true) : 0 < trees e V E c b := by
  unfold trees
  exact cnt_pos ht (by rw [hs, hp]; rfl)
theorem trees_le (c b : Nat) : trees e V E c b ≤ 2 ^ E := cnt_le _ _
theorem trees_loops (hG : Gr e V E) {c b : Nat} (hc : c < 2 ^ E) (hf : ¬ pop E c + parts e V E c = V) : trees e V E c b = 0 := by
  rcases Nat.eq_zero_or_pos (trees e V E c b) with h | h
  · exact h
  · obtain ⟨t, ht, hs, hp⟩ := trees_ex h
    rw [perf_iff] at hp
    refine absurd (forest_sub hG ht hc (by omega) fun i hi => ?_) hf
    exact (sup_iff.1 hs i (lt_of_testBit hc hi)).1 hi
/-- Below k = E - d all is decided, from k on nothing. -/
structure Dec (E d c b : Nat) : Prop where
  cl : c < 2 ^ E
  bl : b < 2 ^ E
  dis : ∀ i, c.testBit i = true → b.testBit i = false
  done : ∀ i, i < E - d → c.testBit i = false → b.testBit i = true
  todo : ∀ i, E - d ≤ i → c.testBit i = false ∧ b.testBit i = false
theorem Dec.start : Dec E E 0 0 := ⟨Nat.two_pow_pos E, Nat.two_pow_pos E, fun i h => by simp at h, fun i h => by omega, fun i _ => by simp⟩
theorem Dec.on {d c b : Nat} (h : Dec E (d + 1) c b) (hd : d + 1 ≤ E) : Dec E d (setB c (E - (d + 1)) true) b where
  cl := setB_lt true h.cl (by omega)
  bl := h.bl
  dis := fun i hi => by
    rw [testBit_setB] at hi
    split at hi
    · rename_i e1; rw [e1]; exact (h.todo _ (Nat.le_refl _)).2
    · exact h.dis i hi
  done := fun i hi hc => by
    rw [testBit_setB] at hc
    split at hc
    · cases hc
    · exact h.done i (by omega) hc
  todo := fun i hi => by
    rw [testBit_setB, if_neg (by omega)]
    exact h.todo i (by omega)
theorem Dec.off {d c b : Nat} (h : Dec E (d + 1) c b) (hd : d + 1 ≤ E) : Dec E d c (setB b (E - (d + 1)) true) where
  cl := h.cl
  bl := setB_lt true h.bl (by omega)
  dis := fun i hi => by
    rw [testBit_setB]
    split
    · rename_i e1; rw [e1, (h.todo _ (Nat.le_refl _)).1] at hi; cases hi
    · exact h.dis i hi
  done := fun i hi hc => by
    rw [testBit_setB]
    split
    · rfl
    · exact h.done i (by omega) hc
  todo := fun i hi => by
    rw [testBit_setB, if_neg (by omega)]
    exact h.todo i (by omega)
theorem Dec.und {d c b : Nat} (h : Dec E (d + 1) c b) : und c b (E - (d + 1)) = true := by
  unfold P.und
  rw [(h.todo _ (Nat.le_refl _)).1, (h.todo _ (Nat.le_refl _)).2]
  rfl
theorem Dec.split {d c b : Nat} (h : Dec E (d + 1) c b) (hd : d + 1 ≤ E) : trees e V E c b = trees e V E (setB c (E - (d + 1)) true) b + trees e V E c (setB b (E - (d + 1)) true) := trees_split (by omega) h.und
end
end Go.Proofs.Ytoohcdfokejkdaa.P
namespace Go.Proofs.YtoohcdfokejkdaaW.PrintWords
open Go.ChangeShapes Go.WideShapes
/-- A row's slice of whole numbers is no longer than its weight allows. -/
theorem sized_ints {H : Type} {enc : TypeId × Value → H} {P : Program} {W : World} {base : Nat} {spare : Nat → Bool} {held : Bool} {t e : TypeId} {k : IntKind} {a : Option Addr} {len cap : Nat} {d : DataW H} {ps : List MemPlace} {ts : List TypeId} {ds : List (DataW H)} {j : Nat}
    (hsz : (DataW.weightsEach P ts ds).all (· ≤ reachBytes) = true) (ht : ts[j]? = some t) (hd : ds[j]? = some d) (hu : P.underlying t = some (.slice e)) (he : P.underlying e = some (.int k)) (hc : P.cellsOf e = 1) {B : Nat} (hB : P.bytesOf e = B)
    (h : DataW.Trod enc P W base spare held t (.slice a len cap) d ps) : len * B ≤ 140737488351232 := by
  obtain ⟨fuel, hf⟩ := h
  rcases open_ints hu he hc hf with ⟨hcs, _⟩ | ⟨x, l, c, zs, hcs, _, hl, _, hz, hx, _, _⟩
  · simp [Value.cells] at hcs
    obtain ⟨rfl, rfl, rfl⟩ := hcs
    simp
  · simp [Value.cells] at hcs
    obtain ⟨rfl, rfl, rfl⟩ := hcs
    obtain ⟨hx, _⟩ := Prod.mk.inj hx
    subst hx
    have z := sized_slice hsz ht hd hu
    rw [hB] at z
    have hl2 : len ≤ zs.length := by
      rw [hz]
      split
      · exact hl
      · exact Nat.le_refl _
    have h1 : (lits (H := H) k (zs.take len)).length + (lits (H := H) k (zs.drop len)).length = zs.length := by
      simp [lits]
      omega
    rw [h1] at z
    exact Nat.le_trans (Nat.mul_le_mul_right _ hl2) z
end Go.Proofs.YtoohcdfokejkdaaW.PrintWords
