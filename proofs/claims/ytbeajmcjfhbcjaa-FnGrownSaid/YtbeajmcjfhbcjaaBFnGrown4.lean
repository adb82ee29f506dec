/- The statement FnGrown of the seat, out of its plain form (FnGrown_pure) and the walk of its Go function. Part 4 of 5: each Go function's walk, then the plain lemmas, then the row. No condition: it holds for every input. -/
import Derived.Test.YtbeajmcjfhbcjaaBFnGrown3
import Derived.ChangeSlices
import Derived.SizedLaws
namespace Go.Proofs.Ytbeajmcjfhbcjaa.P
open Go.RowKit Go.Proofs.YtbeajmcjfhbcjaaW.PrintWords
set_option linter.unusedVariables false
set_option linter.unusedSimpArgs false

def eG (W b a : Nat) : Nat := b * (W - 1) + a
def sG (W H b a : Nat) : Nat := (W - 1) * H + (b * W + a)
def geoB (W H a b : Nat) : Bool :=
 decide ((a + 1 < W → b < H → eG W b a < gapsN W H ∧ eG W b a < (W - 1) * H ∧ ends W H (eG W b a) = (b * W + a, b * W + a + 1) ∧ gapI W H ((b * W + a : Nat) : Int) 1 = (eG W b a : Nat)) ∧
  (a < W → b + 1 < H → sG W H b a < gapsN W H ∧ (W - 1) * H ≤ sG W H b a ∧ ends W H (sG W H b a) = (b * W + a, b * W + a + W) ∧ gapI W H ((b * W + a : Nat) : Int) 2 = (sG W H b a : Nat)))
theorem geo_all : ∀ W : Nat, W < 5 → ∀ H : Nat, H < 5 → ∀ a : Nat, a < 4 → ∀ b : Nat, b < 4 → geoB W H a b = true := by decide +kernel
theorem geo {W H a b : Nat} (hW : W < 5) (hH : H < 5) (ha : a < 4) (hb : b < 4) : (a + 1 < W → b < H → eG W b a < gapsN W H ∧ eG W b a < (W - 1) * H ∧ ends W H (eG W b a) = (b * W + a, b * W + a + 1) ∧ gapI W H ((b * W + a : Nat) : Int) 1 = (eG W b a : Nat)) ∧
  (a < W → b + 1 < H → sG W H b a < gapsN W H ∧ (W - 1) * H ≤ sG W H b a ∧ ends W H (sG W H b a) = (b * W + a, b * W + a + W) ∧ gapI W H ((b * W + a : Nat) : Int) 2 = (sG W H b a : Nat)) := of_decide_eq_true (geo_all W hW H hH a ha b hb)
theorem eG_facts {W H a b : Nat} (hW : W < 5) (hH : H < 5) (ha : a + 1 < W) (hb : b < H) :
  eG W b a < gapsN W H ∧ eG W b a < (W - 1) * H ∧ ends W H (eG W b a) = (b * W + a, b * W + a + 1) ∧ gapI W H ((b * W + a : Nat) : Int) 1 = (eG W b a : Nat) := (geo hW hH (by omega) (by omega)).1 ha hb
theorem sG_facts {W H a b : Nat} (hW : W < 5) (hH : H < 5) (ha : a < W) (hb : b + 1 < H) :
  sG W H b a < gapsN W H ∧ (W - 1) * H ≤ sG W H b a ∧ ends W H (sG W H b a) = (b * W + a, b * W + a + W) ∧ gapI W H ((b * W + a : Nat) : Int) 2 = (sG W H b a : Nat) := (geo hW hH (by omega) (by omega)).2 ha hb
theorem pair_inj {n a b c d : Nat} (ha : a < n) (hc : c < n) (h : b * n + a = d * n + c) : a = c ∧ b = d := by
 have h1 : (b * n + a) / n = b := by rw [Nat.mul_comm, Nat.mul_add_div (by omega), Nat.div_eq_of_lt ha]; omega
 have h2 : (d * n + c) / n = d := by rw [Nat.mul_comm, Nat.mul_add_div (by omega), Nat.div_eq_of_lt hc]; omega
 rw [h, h2] at h1
 subst h1
 exact ⟨by omega, rfl⟩
theorem eG_inj {W a b c d : Nat} (ha : a + 1 < W) (hc : c + 1 < W) (h : eG W b a = eG W d c) : a = c ∧ b = d := pair_inj (n := W - 1) (by omega) (by omega) h
theorem sG_inj {W H a b c d : Nat} (ha : a < W) (hc : c < W) (h : sG W H b a = sG W H d c) : a = c ∧ b = d := pair_inj (n := W) ha hc (by unfold sG at h; omega)
def Inn (W H x y rw rh g : Nat) : Prop :=
 (∃ a b, x ≤ a ∧ a + 1 < x + rw ∧ y ≤ b ∧ b < y + rh ∧ g = eG W b a) ∨ (∃ a b, x ≤ a ∧ a < x + rw ∧ y ≤ b ∧ b + 1 < y + rh ∧ g = sG W H b a)
theorem Inn.mono {W H x y rw rh x' y' rw' rh' g : Nat} (h1 : x' ≤ x) (h2 : x + rw ≤ x' + rw') (h3 : y' ≤ y) (h4 : y + rh ≤ y' + rh') (h : Inn W H x y rw rh g) : Inn W H x' y' rw' rh' g := by
 rcases h with ⟨a, b, p, q, r, s, e⟩ | ⟨a, b, p, q, r, s, e⟩
 ·exact .inl ⟨a, b, by omega, by omega, by omega, by omega, e⟩
 ·exact .inr ⟨a, b, by omega, by omega, by omega, by omega, e⟩
section
variable {W H : Nat} (hW : W < 5) (hH : H < 5)
include hW hH
theorem inn_e {x y rw rh a b : Nat} (hx : x + rw ≤ W) (hy : y + rh ≤ H) (ha : a + 1 < W) (hb : b < H) : Inn W H x y rw rh (eG W b a) ↔ x ≤ a ∧ a + 1 < x + rw ∧ y ≤ b ∧ b < y + rh := by
 constructor
 ·rintro (⟨c, d, p, q, r, s, e⟩ | ⟨c, d, p, q, r, s, e⟩)
  ·obtain ⟨rfl, rfl⟩ := eG_inj ha (by omega) e
   exact ⟨p, q, r, s⟩
  ·have := (eG_facts hW hH ha hb).2.1
   have := (sG_facts hW hH (a := c) (b := d) (by omega) (by omega)).2.1
   omega
 ·rintro ⟨p, q, r, s⟩
  exact .inl ⟨a, b, p, q, r, s, rfl⟩
theorem inn_s {x y rw rh a b : Nat} (hx : x + rw ≤ W) (hy : y + rh ≤ H) (ha : a < W) (hb : b + 1 < H) : Inn W H x y rw rh (sG W H b a) ↔ x ≤ a ∧ a < x + rw ∧ y ≤ b ∧ b + 1 < y + rh := by
 constructor
 ·rintro (⟨c, d, p, q, r, s, e⟩ | ⟨c, d, p, q, r, s, e⟩)
  ·have := (sG_facts hW hH ha hb).2.1
   have := (eG_facts hW hH (a := c) (b := d) (by omega) (by omega)).2.1
   omega
  ·obtain ⟨rfl, rfl⟩ := sG_inj ha (by omega) e
   exact ⟨p, q, r, s⟩
 ·rintro ⟨p, q, r, s⟩
  exact .inr ⟨a, b, p, q, r, s, rfl⟩
theorem inn_lt {x y rw rh g : Nat} (hx : x + rw ≤ W) (hy : y + rh ≤ H) (h : Inn W H x y rw rh g) : g < gapsN W H := by
 rcases h with ⟨a, b, p, q, r, s, rfl⟩ | ⟨a, b, p, q, r, s, rfl⟩
 ·exact (eG_facts hW hH (by omega) (by omega)).1
 ·exact (sG_facts hW hH (by omega) (by omega)).1
end
def closeL (gs : Nat → Nat) (p : Nat) : Nat → Nat → Nat
 | 0, o => o
 | n + 1, o => if n = p then closeL gs p n o else setB (closeL gs p n o) (gs n) false
theorem closeL_out {gs : Nat → Nat} {p g : Nat} : ∀ {n o : Nat}, (∀ i, i < n → i ≠ p → gs i ≠ g) → (closeL gs p n o).testBit g = o.testBit g
 | 0, o, _ => rfl
 | n + 1, o, h => by
  unfold closeL
  have ih := closeL_out (gs := gs) (p := p) (g := g) (n := n) (o := o) (fun i hi => h i (by omega))
  split
  ·exact ih
  ·rename_i e
   rw [testBit_setB, if_neg (Ne.symm (h n (by omega) e))]
   exact ih
theorem closeL_lt {gs : Nat → Nat} {p E : Nat} : ∀ {n o : Nat}, o < 2 ^ E → (∀ i, i < n → gs i < E) → closeL gs p n o < 2 ^ E
 | 0, o, h, _ => h
 | n + 1, o, h, hg => by
  unfold closeL
  have ih := closeL_lt (gs := gs) (p := p) (n := n) h (fun i hi => hg i (by omega))
  split
  ·exact ih
  ·exact setB_lt false ih (hg n (by omega))
theorem setB_back {n j : Nat} (h : n.testBit j = true) : setB (setB n j false) j true = n := by
 apply Nat.eq_of_testBit_eq
 intro i
 rw [testBit_setB, testBit_setB]
 split
 ·rename_i e; rw [e, h]
 ·rfl
theorem setB_on {n j : Nat} (h : n.testBit j = true) : setB n j true = n := by
 apply Nat.eq_of_testBit_eq
 intro i
 rw [testBit_setB]
 split
 ·rename_i e; rw [e, h]
 ·rfl
theorem pop_clear {m n j : Nat} (hj : j < m) (h : n.testBit j = true) : pop m (setB n j false) + 1 = pop m n := by
 have := pop_setB (n := setB n j false) hj (by rw [testBit_setB, if_pos rfl])
 rw [setB_back h] at this
 exact this.symm
theorem closeL_pop {gs : Nat → Nat} {p E : Nat} : ∀ {n o : Nat}, (∀ i, i < n → gs i < E ∧ o.testBit (gs i) = true) → (∀ i j, i < n → j < n → gs i = gs j → i = j) → pop E (closeL gs p n o) + (n - if p < n then 1 else 0) = pop E o
 | 0, o, _, _ => by simp [closeL]
 | n + 1, o, h, hi => by
  have ih := closeL_pop (p := p) (n := n) (o := o) (fun i hi => h i (by omega)) (fun i j h1 h2 => hi i j (by omega) (by omega))
  unfold closeL
  by_cases e : n = p
  ·subst e
   rw [if_pos rfl]
   rw [if_neg (by omega)] at ih
   rw [if_pos (by omega)]
   omega
  ·rw [if_neg e]
   have ho : (closeL gs p n o).testBit (gs n) = true := by
    rw [closeL_out (fun i h1 _ he => by have := hi i n (by omega) (by omega) he; omega)]
    exact (h n (by omega)).2
   have := pop_clear (h n (by omega)).1 ho
   by_cases hp : p < n
   ·rw [if_pos hp] at ih; rw [if_pos (by omega)]; omega
   ·rw [if_neg hp] at ih; rw [if_neg (by omega)]; omega
def nx (l : List Int) : Nat := (max (l.headD 0) 0).toNat
def divN (W H : Nat) : Nat → Nat → Nat → Nat → Nat → List Int → Nat → Nat → Nat × Nat × List Int
 | 0, _, _, _, _, l, o, c => (o, c, l)
 | f + 1, x, y, rw, rh, l, o, c =>
  if rw = 1 ∨ rh = 1 then (o, c, l)
  else if rw ≤ rh then
   let k := nx l % (rh - 1)
   let r := divN W H f x y rw (k + 1) l.tail.tail (closeL (fun i => sG W H (y + k) (x + i)) (nx l.tail % rw) rw o) (c + 1)
   divN W H f x (y + k + 1) rw (rh - k - 1) r.2.2 r.1 r.2.1
  else
   let k := nx l % (rw - 1)
   let r := divN W H f x y (k + 1) rh l.tail.tail (closeL (fun i => eG W (y + i) (x + k)) (nx l.tail % rh) rh o) (c + 1)
   divN W H f (x + k + 1) y (rw - k - 1) rh r.2.2 r.1 r.2.1
structure Divd (W H x y rw rh o o' : Nat) : Prop where
 lt : o' < 2 ^ gapsN W H
 out : ∀ g, ¬ Inn W H x y rw rh g → o'.testBit g = o.testBit g
 conn : ∀ m a b c d, (∀ g, Inn W H x y rw rh g → o'.testBit g = true → m.testBit g = true) → x ≤ a → a < x + rw → y ≤ b → b < y + rh → x ≤ c → c < x + rw → y ≤ d → d < y + rh → Cn (ends W H) m (b * W + a) (d * W + c)
 cnt : pop (gapsN W H) o' + (rw - 1) * (rh - 1) = pop (gapsN W H) o
theorem cn_e {W H m a b : Nat} (hW : W < 5) (hH : H < 5) (ha : a + 1 < W) (hb : b < H) (h : m.testBit (eG W b a) = true) : Cn (ends W H) m (b * W + a) (b * W + (a + 1)) := by
 have e := (eG_facts hW hH ha hb).2.2.1
 have := Cn.edge (e := ends W H) h
 rw [e] at this
 exact this
theorem cn_s {W H m a b : Nat} (hW : W < 5) (hH : H < 5) (ha : a < W) (hb : b + 1 < H) (h : m.testBit (sG W H b a) = true) : Cn (ends W H) m (b * W + a) ((b + 1) * W + a) := by
 have e := (sG_facts hW hH ha hb).2.2.1
 have := Cn.edge (e := ends W H) h
 rw [e] at this
 rw [show (b + 1) * W + a = b * W + a + W by rw [Nat.add_mul]; omega]
 exact this
theorem line_conn {W H x y rw rh o : Nat} (hW : W < 5) (hH : H < 5) (hx : x + rw ≤ W) (hy : y + rh ≤ H) (h1 : rw = 1 ∨ rh = 1) (ho : ∀ g, Inn W H x y rw rh g → o.testBit g = true) {a b : Nat} (ha : x ≤ a) (ha' : a < x + rw) (hb : y ≤ b) (hb' : b < y + rh) :
  Cn (ends W H) o (y * W + x) (b * W + a) := by
 rcases h1 with rfl | rfl
 ·obtain rfl : a = x := by omega
  obtain ⟨t, rfl⟩ : ∃ t, b = y + t := ⟨b - y, by omega⟩
  clear ha ha' hb
  induction t with
  | zero => exact .refl _
  | succ t ih => exact (ih (by omega)).trans (cn_s hW hH (by omega) (by omega) (ho _ (.inr ⟨a, y + t, by omega, by omega, by omega, by omega, rfl⟩)))
 ·obtain rfl : b = y := by omega
  obtain ⟨t, rfl⟩ : ∃ t, a = x + t := ⟨a - x, by omega⟩
  clear hb hb' ha
  induction t with
  | zero => exact .refl _
  | succ t ih => exact (ih (by omega)).trans (cn_e hW hH (by omega) (by omega) (ho _ (.inl ⟨x + t, b, by omega, by omega, by omega, by omega, rfl⟩)))
theorem divd_line {W H x y rw rh o : Nat} (hW : W < 5) (hH : H < 5) (hx : x + rw ≤ W) (hy : y + rh ≤ H) (h1 : rw = 1 ∨ rh = 1) (hlt : o < 2 ^ gapsN W H) (ho : ∀ g, Inn W H x y rw rh g → o.testBit g = true) : Divd W H x y rw rh o o where
 lt := hlt
 out := fun _ _ => rfl
 conn := fun m a b c d hm p1 p2 p3 p4 q1 q2 q3 q4 => by
  have hm' : ∀ g, Inn W H x y rw rh g → m.testBit g = true := fun g hg => hm g hg (ho g hg)
  exact (line_conn hW hH hx hy h1 hm' p1 p2 p3 p4).symm.trans (line_conn hW hH hx hy h1 hm' q1 q2 q3 q4)
 cnt := by rcases h1 with rfl | rfl <;> simp
theorem divd_row {W H x y rw rh o o2 o3 k p : Nat} (hW : W < 5) (hH : H < 5) (hx : x + rw ≤ W) (hy : y + rh ≤ H) (hk : k + 1 < rh) (hp : p < rw) (ho : ∀ g, Inn W H x y rw rh g → o.testBit g = true)
  (h2 : Divd W H x y rw (k + 1) (closeL (fun i => sG W H (y + k) (x + i)) p rw o) o2) (h3 : Divd W H x (y + k + 1) rw (rh - k - 1) o2 o3) : Divd W H x y rw rh o o3 where
 lt := h3.lt
 out := fun g hg => by
  rw [h3.out g fun q => hg (q.mono (by omega) (by omega) (by omega) (by omega)), h2.out g fun q => hg (q.mono (by omega) (by omega) (by omega) (by omega)), closeL_out]
  intro i hi _ e
  exact hg (.inr ⟨x + i, y + k, by omega, by omega, by omega, by omega, e.symm⟩)
 conn := fun m a b c d hm p1 p2 p3 p4 q1 q2 q3 q4 => by
  have hup : ∀ a b c d, x ≤ a → a < x + rw → y ≤ b → b < y + (k + 1) → x ≤ c → c < x + rw → y ≤ d → d < y + (k + 1) → Cn (ends W H) m (b * W + a) (d * W + c) := fun a b c d => h2.conn m a b c d fun g hg hb => hm g (hg.mono (by omega) (by omega) (by omega) (by omega)) (by
   rw [h3.out g ?_]; exact hb
   rcases hg with ⟨a, b, u1, u2, u3, u4, rfl⟩ | ⟨a, b, u1, u2, u3, u4, rfl⟩
   ·rw [inn_e hW hH (by omega) (by omega) (by omega) (by omega)]; omega
   ·rw [inn_s hW hH (by omega) (by omega) (by omega) (by omega)]; omega)
  have hdn : ∀ a b c d, x ≤ a → a < x + rw → y + k + 1 ≤ b → b < y + k + 1 + (rh - k - 1) → x ≤ c → c < x + rw → y + k + 1 ≤ d → d < y + k + 1 + (rh - k - 1) → Cn (ends W H) m (b * W + a) (d * W + c) := fun a b c d => h3.conn m a b c d fun g hg hb => hm g (hg.mono (by omega) (by omega) (by omega) (by omega)) hb
  have hps : Cn (ends W H) m ((y + k) * W + (x + p)) ((y + k + 1) * W + (x + p)) := by
   refine cn_s hW hH (by omega) (by omega) (hm _ (.inr ⟨x + p, y + k, by omega, by omega, by omega, by omega, rfl⟩) ?_)
   rw [h3.out _ (by rw [inn_s hW hH (by omega) (by omega) (by omega) (by omega)]; omega), h2.out _ (by rw [inn_s hW hH (by omega) (by omega) (by omega) (by omega)]; omega), closeL_out]
   ·exact ho _ (.inr ⟨x + p, y + k, by omega, by omega, by omega, by omega, rfl⟩)
   ·intro i hi hne e
    have := (sG_inj (a := x + i) (c := x + p) (by omega) (by omega) e).1
    omega
  by_cases hb : b < y + (k + 1) <;> by_cases hd : d < y + (k + 1)
  ·exact hup a b c d p1 p2 p3 hb q1 q2 q3 hd
  ·exact ((hup a b (x + p) (y + k) p1 p2 p3 hb (by omega) (by omega) (by omega) (by omega)).trans hps).trans (hdn (x + p) (y + k + 1) c d (by omega) (by omega) (by omega) (by omega) q1 q2 (by omega) (by omega))
  ·exact ((hdn a b (x + p) (y + k + 1) p1 p2 (by omega) (by omega) (by omega) (by omega) (by omega) (by omega)).trans hps.symm).trans (hup (x + p) (y + k) c d (by omega) (by omega) (by omega) (by omega) q1 q2 q3 hd)
  ·exact hdn a b c d p1 p2 (by omega) (by omega) q1 q2 (by omega) (by omega)
 cnt := by
  have e1 := h3.cnt
  have e2 := h2.cnt
  have e3 := closeL_pop (E := gapsN W H) (gs := fun i => sG W H (y + k) (x + i)) (p := p) (n := rw) (o := o) (fun i hi => ⟨(sG_facts hW hH (by omega) (by omega)).1, ho _ (.inr ⟨x + i, y + k, by omega, by omega, by omega, by omega, rfl⟩)⟩) (fun i j hi hj e => by have := (sG_inj (a := x + i) (c := x + j) (by omega) (by omega) e).1; omega)
  rw [if_pos hp] at e3
  have : (rw - 1) * (rh - 1) = (rw - 1) * (k + 1 - 1) + (rw - 1) * (rh - k - 1 - 1) + (rw - 1) := by
   obtain ⟨t, rfl⟩ : ∃ t, rh = k + 2 + t := ⟨rh - k - 2, by omega⟩
   rw [show k + 2 + t - 1 = k + t + 1 by omega, show k + 1 - 1 = k by omega, show k + 2 + t - k - 1 - 1 = t by omega, Nat.mul_add, Nat.mul_add]; omega
  omega
theorem divd_col {W H x y rw rh o o2 o3 k p : Nat} (hW : W < 5) (hH : H < 5) (hx : x + rw ≤ W) (hy : y + rh ≤ H) (hk : k + 1 < rw) (hp : p < rh) (ho : ∀ g, Inn W H x y rw rh g → o.testBit g = true)
  (h2 : Divd W H x y (k + 1) rh (closeL (fun i => eG W (y + i) (x + k)) p rh o) o2) (h3 : Divd W H (x + k + 1) y (rw - k - 1) rh o2 o3) : Divd W H x y rw rh o o3 where
 lt := h3.lt
 out := fun g hg => by
  rw [h3.out g fun q => hg (q.mono (by omega) (by omega) (by omega) (by omega)), h2.out g fun q => hg (q.mono (by omega) (by omega) (by omega) (by omega)), closeL_out]
  intro i hi _ e
  exact hg (.inl ⟨x + k, y + i, by omega, by omega, by omega, by omega, e.symm⟩)
 conn := fun m a b c d hm p1 p2 p3 p4 q1 q2 q3 q4 => by
  have hup : ∀ a b c d, x ≤ a → a < x + (k + 1) → y ≤ b → b < y + rh → x ≤ c → c < x + (k + 1) → y ≤ d → d < y + rh → Cn (ends W H) m (b * W + a) (d * W + c) := fun a b c d => h2.conn m a b c d fun g hg hb => hm g (hg.mono (by omega) (by omega) (by omega) (by omega)) (by
   rw [h3.out g ?_]; exact hb
   rcases hg with ⟨a, b, u1, u2, u3, u4, rfl⟩ | ⟨a, b, u1, u2, u3, u4, rfl⟩
   ·rw [inn_e hW hH (by omega) (by omega) (by omega) (by omega)]; omega
   ·rw [inn_s hW hH (by omega) (by omega) (by omega) (by omega)]; omega)
  have hdn : ∀ a b c d, x + k + 1 ≤ a → a < x + k + 1 + (rw - k - 1) → y ≤ b → b < y + rh → x + k + 1 ≤ c → c < x + k + 1 + (rw - k - 1) → y ≤ d → d < y + rh → Cn (ends W H) m (b * W + a) (d * W + c) := fun a b c d => h3.conn m a b c d fun g hg hb => hm g (hg.mono (by omega) (by omega) (by omega) (by omega)) hb
  have hps : Cn (ends W H) m ((y + p) * W + (x + k)) ((y + p) * W + (x + k + 1)) := by
   refine cn_e hW hH (by omega) (by omega) (hm _ (.inl ⟨x + k, y + p, by omega, by omega, by omega, by omega, rfl⟩) ?_)
   rw [h3.out _ (by rw [inn_e hW hH (by omega) (by omega) (by omega) (by omega)]; omega), h2.out _ (by rw [inn_e hW hH (by omega) (by omega) (by omega) (by omega)]; omega), closeL_out]
   ·exact ho _ (.inl ⟨x + k, y + p, by omega, by omega, by omega, by omega, rfl⟩)
   ·intro i hi hne e
    have := (eG_inj (a := x + k) (c := x + k) (by omega) (by omega) e).2
    omega
  by_cases hb : a < x + (k + 1) <;> by_cases hd : c < x + (k + 1)
  ·exact hup a b c d p1 hb p3 p4 q1 hd q3 q4
  ·exact ((hup a b (x + k) (y + p) p1 hb p3 p4 (by omega) (by omega) (by omega) (by omega)).trans hps).trans (hdn (x + k + 1) (y + p) c d (by omega) (by omega) (by omega) (by omega) (by omega) (by omega) q3 q4)
  ·exact ((hdn a b (x + k + 1) (y + p) (by omega) (by omega) p3 p4 (by omega) (by omega) (by omega) (by omega)).trans hps.symm).trans (hup (x + k) (y + p) c d (by omega) (by omega) (by omega) (by omega) q1 hd q3 q4)
  ·exact hdn a b c d (by omega) (by omega) p3 p4 (by omega) (by omega) q3 q4
 cnt := by
  have e1 := h3.cnt
  have e2 := h2.cnt
  have e3 := closeL_pop (E := gapsN W H) (gs := fun i => eG W (y + i) (x + k)) (p := p) (n := rh) (o := o) (fun i hi => ⟨(eG_facts hW hH (by omega) (by omega)).1, ho _ (.inl ⟨x + k, y + i, by omega, by omega, by omega, by omega, rfl⟩)⟩) (fun i j hi hj e => by have := (eG_inj (a := x + k) (c := x + k) (by omega) (by omega) e).2; omega)
  rw [if_pos hp] at e3
  have : (rw - 1) * (rh - 1) = (k + 1 - 1) * (rh - 1) + (rw - k - 1 - 1) * (rh - 1) + (rh - 1) := by
   obtain ⟨t, rfl⟩ : ∃ t, rw = k + 2 + t := ⟨rw - k - 2, by omega⟩
   rw [show k + 2 + t - 1 = k + t + 1 by omega, show k + 1 - 1 = k by omega, show k + 2 + t - k - 1 - 1 = t by omega, Nat.add_mul, Nat.add_mul]; omega
  omega
theorem open_row1 {W H x y rw rh o k p : Nat} (hW : W < 5) (hH : H < 5) (hx : x + rw ≤ W) (hy : y + rh ≤ H) (hk : k + 1 < rh) (ho : ∀ g, Inn W H x y rw rh g → o.testBit g = true) (g : Nat) (hg : Inn W H x y rw (k + 1) g ∨ Inn W H x (y + k + 1) rw (rh - k - 1) g) :
  (closeL (fun i => sG W H (y + k) (x + i)) p rw o).testBit g = true := by
 rw [closeL_out]
 ·rcases hg with h | h <;> exact ho g (h.mono (by omega) (by omega) (by omega) (by omega))
 ·intro i hi _ e
  subst e
  rw [inn_s hW hH (by omega) (by omega) (by omega) (by omega), inn_s hW hH (by omega) (by omega) (by omega) (by omega)] at hg
  omega
theorem open_col1 {W H x y rw rh o k p : Nat} (hW : W < 5) (hH : H < 5) (hx : x + rw ≤ W) (hy : y + rh ≤ H) (hk : k + 1 < rw) (ho : ∀ g, Inn W H x y rw rh g → o.testBit g = true) (g : Nat) (hg : Inn W H x y (k + 1) rh g ∨ Inn W H (x + k + 1) y (rw - k - 1) rh g) :
  (closeL (fun i => eG W (y + i) (x + k)) p rh o).testBit g = true := by
 rw [closeL_out]
 ·rcases hg with h | h <;> exact ho g (h.mono (by omega) (by omega) (by omega) (by omega))
 ·intro i hi _ e
  subst e
  rw [inn_e hW hH (by omega) (by omega) (by omega) (by omega), inn_e hW hH (by omega) (by omega) (by omega) (by omega)] at hg
  omega
theorem apart_row {W H x y rw rh o o' k : Nat} (hW : W < 5) (hH : H < 5) (hx : x + rw ≤ W) (hy : y + rh ≤ H) (hk : k + 1 < rh) (h2 : Divd W H x y rw (k + 1) o o') (g : Nat) (hg : Inn W H x (y + k + 1) rw (rh - k - 1) g) : o'.testBit g = o.testBit g := by
 refine h2.out g ?_
 rcases hg with ⟨a, b, u1, u2, u3, u4, rfl⟩ | ⟨a, b, u1, u2, u3, u4, rfl⟩
 ·rw [inn_e hW hH (by omega) (by omega) (by omega) (by omega)]; omega
 ·rw [inn_s hW hH (by omega) (by omega) (by omega) (by omega)]; omega
theorem apart_col {W H x y rw rh o o' k : Nat} (hW : W < 5) (hH : H < 5) (hx : x + rw ≤ W) (hy : y + rh ≤ H) (hk : k + 1 < rw) (h2 : Divd W H x y (k + 1) rh o o') (g : Nat) (hg : Inn W H (x + k + 1) y (rw - k - 1) rh g) : o'.testBit g = o.testBit g := by
 refine h2.out g ?_
 rcases hg with ⟨a, b, u1, u2, u3, u4, rfl⟩ | ⟨a, b, u1, u2, u3, u4, rfl⟩
 ·rw [inn_e hW hH (by omega) (by omega) (by omega) (by omega)]; omega
 ·rw [inn_s hW hH (by omega) (by omega) (by omega) (by omega)]; omega
theorem divN_main {W H : Nat} (hW : W < 5) (hH : H < 5) : ∀ f x y rw rh l o c, 1 ≤ rw → 1 ≤ rh → rw + rh ≤ f + 1 → x + rw ≤ W → y + rh ≤ H → o < 2 ^ gapsN W H → (∀ g, Inn W H x y rw rh g → o.testBit g = true) → Divd W H x y rw rh o (divN W H f x y rw rh l o c).1
 | 0, x, y, rw, rh, l, o, c, h1, h2, hf, hx, hy, hlt, ho => by omega
 | f + 1, x, y, rw, rh, l, o, c, h1, h2, hf, hx, hy, hlt, ho => by
  unfold divN
  by_cases hl : rw = 1 ∨ rh = 1
  ·rw [if_pos hl]
   exact divd_line hW hH hx hy hl hlt ho
  ·rw [if_neg hl]
   by_cases hc : rw ≤ rh
   ·rw [if_pos hc]
    have hk : nx l % (rh - 1) < rh - 1 := Nat.mod_lt _ (by omega)
    have hp : nx l.tail % rw < rw := Nat.mod_lt _ (by omega)
    simp only
    generalize nx l % (rh - 1) = k at *
    generalize nx l.tail % rw = p at *
    have hlt1 : closeL (fun i => sG W H (y + k) (x + i)) p rw o < 2 ^ gapsN W H := closeL_lt hlt fun i hi => (sG_facts hW hH (by omega) (by omega)).1
    have d2 := divN_main hW hH f x y rw (k + 1) l.tail.tail _ (c + 1) h1 (by omega) (by omega) hx (by omega) hlt1 (fun g hg => open_row1 hW hH hx hy (by omega) ho g (.inl hg))
    have d3 := divN_main hW hH f x (y + k + 1) rw (rh - k - 1) (divN W H f x y rw (k + 1) l.tail.tail (closeL (fun i => sG W H (y + k) (x + i)) p rw o) (c + 1)).2.2 _ (divN W H f x y rw (k + 1) l.tail.tail (closeL (fun i => sG W H (y + k) (x + i)) p rw o) (c + 1)).2.1 h1 (by omega) (by omega) hx (by omega) d2.lt
     (fun g hg => by rw [apart_row hW hH hx hy (by omega) d2 g hg]; exact open_row1 hW hH hx hy (by omega) ho g (.inr hg))
    exact divd_row hW hH hx hy (by omega) hp ho d2 d3
   ·rw [if_neg hc]
    have hk : nx l % (rw - 1) < rw - 1 := Nat.mod_lt _ (by omega)
    have hp : nx l.tail % rh < rh := Nat.mod_lt _ (by omega)
    simp only
    generalize nx l % (rw - 1) = k at *
    generalize nx l.tail % rh = p at *
    have hlt1 : closeL (fun i => eG W (y + i) (x + k)) p rh o < 2 ^ gapsN W H := closeL_lt hlt fun i hi => (eG_facts hW hH (by omega) (by omega)).1
    have d2 := divN_main hW hH f x y (k + 1) rh l.tail.tail _ (c + 1) (by omega) h2 (by omega) (by omega) hy hlt1 (fun g hg => open_col1 hW hH hx hy (by omega) ho g (.inl hg))
    have d3 := divN_main hW hH f (x + k + 1) y (rw - k - 1) rh (divN W H f x y (k + 1) rh l.tail.tail (closeL (fun i => eG W (y + i) (x + k)) p rh o) (c + 1)).2.2 _ (divN W H f x y (k + 1) rh l.tail.tail (closeL (fun i => eG W (y + i) (x + k)) p rh o) (c + 1)).2.1 (by omega) h2 (by omega) (by omega) hy d2.lt
     (fun g hg => by rw [apart_col hW hH hx hy (by omega) d2 g hg]; exact open_col1 hW hH hx hy (by omega) ho g (.inr hg))
    exact divd_col hW hH hx hy (by omega) hp ho d2 d3
theorem full_div : ∀ W : Nat, W < 5 → ∀ H : Nat, H < 5 → gridOk W H = true → gapsN W H + 1 = (W - 1) * (H - 1) + cellsN W H ∧ cellsN W H = H * W := by decide +kernel
theorem full_bits {n g : Nat} (h : g < n) : (2 ^ n - 1).testBit g = true := by rw [Nat.testBit_two_pow_sub_one]; simpa using h
theorem divN_perf {W H : Nat} (hW : W < 5) (hH : H < 5) (hg : gridOk W H = true) (l : List Int) : Divd W H 0 0 W H (2 ^ gapsN W H - 1) (divN W H (W + H) 0 0 W H l (2 ^ gapsN W H - 1) 0).1 ∧ perfN W H (divN W H (W + H) 0 0 W H l (2 ^ gapsN W H - 1) 0).1 = true := by
 have hgr := gridOk_iff.1 hg
 have hp := Nat.two_pow_pos (gapsN W H)
 have D := divN_main hW hH (W + H) 0 0 W H l (2 ^ gapsN W H - 1) 0 (by omega) (by omega) (by omega) (by omega) (by omega) (by omega) (fun g hg => full_bits (inn_lt hW hH (by omega) (by omega) hg))
 refine ⟨D, ?_⟩
 generalize (divN W H (W + H) 0 0 W H l (2 ^ gapsN W H - 1) 0).1 = o at D
 obtain ⟨f1, f2⟩ := full_div W hW H hH hg
 have hc := D.cnt
 rw [pop_full] at hc
 have hV := cells_pos hg
 unfold perfN
 rw [perf_iff]
 refine ⟨(parts_one D.lt (by omega)).2 fun x hx => ?_, by omega⟩
 have hx2 : x / W < H := Nat.div_lt_of_lt_mul (by rw [Nat.mul_comm]; omega)
 have := D.conn o 0 0 (x % W) (x / W) (fun _ _ h => h) (by omega) (by omega) (by omega) (by omega) (Nat.zero_le _) (by have := Nat.mod_lt x (show 0 < W by omega); omega) (Nat.zero_le _) (by omega)
 rw [Nat.mul_comm (x / W), Nat.div_add_mod] at this
 simpa using this
end Go.Proofs.Ytbeajmcjfhbcjaa.P
namespace Go.Proofs.Ytbeajmcjfhbcjaa.P
open Go.RowKit Go.Proofs.YtbeajmcjfhbcjaaW.PrintWords
set_option linter.unusedVariables false
set_option linter.unusedSimpArgs false

def frN (w h : Int) (S : Nat) : List Nat := (List.range (gapsN w h)).filter fun g => S.testBit (ends w h g).1 != S.testBit (ends w h g).2
def growG (w h : Int) (S : Nat) (l : List Int) : Nat := (frN w h S).getD (nx l % (frN w h S).length) 0
def growS (w h : Int) (S g : Nat) : Nat := setB (setB S (ends w h g).1 true) (ends w h g).2 true
def growN (w h : Int) : Nat → Nat → Nat → List Int → Nat
 | 0, _, o, _ => o
 | f + 1, S, o, l => growN w h f (growS w h S (growG w h S l)) (setB o (growG w h S l) true) l.tail
structure Grw (w h : Int) (r S o : Nat) : Prop where
 lt : o < 2 ^ gapsN w h
 zero : S.testBit r = true
 cell : S < 2 ^ cellsN w h
 conn : ∀ c, S.testBit c = true → Cn (ends w h) o r c
 inn : ∀ g, o.testBit g = true → S.testBit (ends w h g).1 = true ∧ S.testBit (ends w h g).2 = true
 cnt : pop (cellsN w h) S = pop (gapsN w h) o + 1
theorem grid_full : ∀ W : Nat, W < 5 → ∀ H : Nat, H < 5 → gridOk W H = true → parts (ends W H) (cellsN W H) (gapsN W H) (2 ^ gapsN W H - 1) = 1 := by decide +kernel
theorem mem_frN {w h : Int} {S g : Nat} : g ∈ frN w h S ↔ g < gapsN w h ∧ S.testBit (ends w h g).1 ≠ S.testBit (ends w h g).2 := by
 unfold frN
 rw [List.mem_filter, List.mem_range, bne_iff_ne]
theorem Grw.front {w h : Int} {r S o : Nat} (hg : gridOk w h = true) (G : Grw w h r S o) (hl : pop (cellsN w h) S < cellsN w h) : 0 < (frN w h S).length := by
 rcases Nat.eq_zero_or_pos (frN w h S).length with h0 | h0
 ·exfalso
  have hnil : frN w h S = [] := List.length_eq_zero_iff.1 h0
  have hno : ∀ g, g < gapsN w h → S.testBit (ends w h g).1 = S.testBit (ends w h g).2 := fun g hgl => by
   rcases Decidable.em (S.testBit (ends w h g).1 = S.testBit (ends w h g).2) with e | e
   ·exact e
   ·have := mem_frN.2 ⟨hgl, e⟩
    rw [hnil] at this
    cases this
  obtain ⟨W, H, rfl, rfl, hW1, hW2, hH1, hH2⟩ := grid_nat hg
  have hV := cells_pos hg
  have hp := Nat.two_pow_pos (gapsN W H)
  have hc := (parts_one (by omega) (by omega)).1 (grid_full W hW2 H hH2 hg)
  have hr : r < cellsN W H := lt_of_testBit G.cell G.zero
  have hall : ∀ x, Cn (ends W H) (2 ^ gapsN W H - 1) r x → S.testBit x = true := by
   intro x hx
   induction hx with
   | refl => exact G.zero
   | fwd k hk _ ih => rw [← hno k (lt_of_testBit (by omega) hk)]; exact ih
   | bwd k hk _ ih => rw [hno k (lt_of_testBit (by omega) hk)]; exact ih
  have : pop (cellsN W H) S = cellsN W H := by
   rw [pop_congr (t := 2 ^ cellsN W H - 1) fun i hi => by rw [hall i ((hc r hr).symm.trans (hc i hi)), full_bits hi]]
   exact pop_full _
  omega
 ·exact h0
theorem Grw.step {w h : Int} {r S o : Nat} (G : Grw w h r S o) {g : Nat} (hf : g ∈ frN w h S) : Grw w h r (growS w h S g) (setB o g true) := by
 obtain ⟨hgl, hne⟩ := mem_frN.1 hf
 obtain ⟨_, f2, f3⟩ := ends_facts hgl
 have ho : o.testBit g = false := by
  rw [Bool.eq_false_iff]
  intro e
  have := G.inn g e
  rw [this.1, this.2] at hne
  exact hne rfl
 have hsup : ∀ i, S.testBit i = true → (growS w h S g).testBit i = true := fun i hi => by
  unfold growS; rw [testBit_setB, testBit_setB]; split
  ·rfl
  ·split
   ·rfl
   ·exact hi
 have hb : ∀ i, (growS w h S g).testBit i = true → S.testBit i = true ∨ i = (ends w h g).1 ∨ i = (ends w h g).2 := fun i hi => by
  unfold growS at hi; rw [testBit_setB, testBit_setB] at hi
  by_cases e2 : i = (ends w h g).2
  ·exact .inr (.inr e2)
  ·rw [if_neg e2] at hi
   by_cases e1 : i = (ends w h g).1
   ·exact .inr (.inl e1)
   ·rw [if_neg e1] at hi; exact .inl hi
 have h1 : (growS w h S g).testBit (ends w h g).1 = true := by unfold growS; rw [testBit_setB, testBit_setB]; simp
 have h2 : (growS w h S g).testBit (ends w h g).2 = true := by unfold growS; rw [testBit_setB]; simp
 have hgb : (setB o g true).testBit g = true := by rw [testBit_setB]; simp
 have hm : ∀ i, o.testBit i = true → (setB o g true).testBit i = true := fun i hi => by rw [testBit_setB]; split <;> simp [hi]
 have hends : Cn (ends w h) (setB o g true) r (ends w h g).1 ∧ Cn (ends w h) (setB o g true) r (ends w h g).2 := by
  cases e1 : S.testBit (ends w h g).1 with
  | true => exact ⟨(G.conn _ e1).mono hm, ((G.conn _ e1).mono hm).trans (Cn.edge hgb)⟩
  | false =>
   have e2 : S.testBit (ends w h g).2 = true := by
    rw [e1] at hne
    cases q : S.testBit (ends w h g).2 with
    | true => rfl
    | false => exact absurd q.symm hne
   exact ⟨((G.conn _ e2).mono hm).trans (Cn.edge' hgb), (G.conn _ e2).mono hm⟩
 refine ⟨setB_lt true G.lt hgl, hsup r G.zero, setB_lt true (setB_lt true G.cell (by omega)) f3, fun c hc => ?_, fun k hk => ?_, ?_⟩
 ·rcases hb c hc with e | rfl | rfl
  ·exact (G.conn c e).mono hm
  ·exact hends.1
  ·exact hends.2
 ·rw [testBit_setB] at hk
  by_cases e : k = g
  ·subst e; exact ⟨h1, h2⟩
  ·rw [if_neg e] at hk
   have := G.inn k hk
   exact ⟨hsup _ this.1, hsup _ this.2⟩
 ·rw [pop_setB hgl ho, ← G.cnt]
  unfold growS
  cases e1 : S.testBit (ends w h g).1 with
  | true =>
   have e2 : S.testBit (ends w h g).2 = false := by
    rw [e1] at hne
    cases q : S.testBit (ends w h g).2 with
    | false => rfl
    | true => exact absurd q.symm hne
   rw [setB_on e1, pop_setB f3 e2]
  | false =>
   have e2 : S.testBit (ends w h g).2 = true := by
    rw [e1] at hne
    cases q : S.testBit (ends w h g).2 with
    | true => rfl
    | false => exact absurd q.symm hne
   rw [setB_on (by rw [testBit_setB]; split <;> simp [e2]), pop_setB (by omega) e1]
theorem growG_mem {w h : Int} {S : Nat} (h0 : 0 < (frN w h S).length) (l : List Int) : growG w h S l ∈ frN w h S := by
 unfold growG
 have := Nat.mod_lt (nx l) h0
 rw [List.getD_eq_getElem?_getD, List.getElem?_eq_getElem this]
 exact List.getElem_mem this
theorem pop_nil (n : Nat) : pop n 0 = 0 := by
 induction n with
 | zero => rfl
 | succ n ih => simp [pop, ih]
theorem Grw.start {w h : Int} {r : Nat} (hr : r < cellsN w h) : Grw w h r (2 ^ r) 0 := by
 refine ⟨Nat.two_pow_pos _, by rw [Nat.testBit_two_pow]; simp, Nat.pow_lt_pow_right (by decide) hr, fun c hc => ?_, fun g h => by simp at h, ?_⟩
 ·rw [Nat.testBit_two_pow, decide_eq_true_eq] at hc
  subst hc
  exact .refl _
 ·have e : 2 ^ r = setB 0 r true := by unfold setB; rw [if_pos rfl, Nat.zero_or]
  rw [e, pop_setB hr (Nat.zero_testBit r), pop_nil, pop_nil]
theorem growN_fin {w h : Int} {r : Nat} (hg : gridOk w h = true) : ∀ (f S o : Nat) (l : List Int), Grw w h r S o → pop (cellsN w h) S + f = cellsN w h → ∃ S', Grw w h r S' (growN w h f S o l) ∧ pop (cellsN w h) S' = cellsN w h
 | 0, S, o, l, G, hf => ⟨S, G, by omega⟩
 | f + 1, S, o, l, G, hf => by
  have G2 := G.step (growG_mem (G.front hg (by omega)) l)
  have := G2.cnt
  have h1 := G.cnt
  refine growN_fin hg f _ _ _ G2 ?_
  obtain ⟨hgl, hne⟩ := mem_frN.1 (growG_mem (G.front hg (by omega)) l)
  have ho : o.testBit (growG w h S l) = false := by
   rw [Bool.eq_false_iff]
   intro e
   have := G.inn _ e
   rw [this.1, this.2] at hne
   exact hne rfl
  rw [pop_setB hgl ho] at this
  omega
theorem pop_all' {n s : Nat} (h : pop n s = n) : ∀ i, i < n → s.testBit i = true := by
 induction n with
 | zero => intro i hi; omega
 | succ n ih =>
  simp only [pop] at h
  have h1 := pop_le n s
  have h2 := Bool.toNat_le (s.testBit n)
  intro i hi
  rcases Nat.lt_succ_iff_lt_or_eq.1 hi with e | rfl
  ·exact ih (by omega) i e
  ·cases q : s.testBit i with
   | true => rfl
   | false => rw [q] at h; simp at h; omega
theorem Grw.perf {w h : Int} {r S o : Nat} (hg : gridOk w h = true) (G : Grw w h r S o) : perfN w h o = true ↔ pop (cellsN w h) S = cellsN w h := by
 have hV := cells_pos hg
 have hc := G.cnt
 have hr : r < cellsN w h := lt_of_testBit G.cell G.zero
 unfold perfN
 rw [perf_iff]
 constructor
 ·rintro ⟨_, h2⟩; omega
 ·intro hp
  have h0 := G.conn 0 (pop_all' hp 0 (by omega))
  exact ⟨(parts_one G.lt (by omega)).2 fun x hx => h0.symm.trans (G.conn x (pop_all' hp x hx)), by omega⟩
theorem growN_perf {w h : Int} (hg : gridOk w h = true) (l : List Int) : growN w h (cellsN w h - 1) 1 0 l < 2 ^ gapsN w h ∧ perfN w h (growN w h (cellsN w h - 1) 1 0 l) = true := by
 have hV := cells_pos hg
 have G0 := Grw.start (w := w) (h := h) (r := 0) (by omega)
 have h0 := G0.cnt
 rw [pop_nil] at h0
 obtain ⟨S', G, hp⟩ := growN_fin hg (cellsN w h - 1) 1 0 l G0 (by rw [show (2 : Nat) ^ 0 = 1 from rfl] at h0; omega)
 exact ⟨G.lt, (G.perf hg).2 hp⟩
end Go.Proofs.Ytbeajmcjfhbcjaa.P
namespace Go.Proofs.Ytbeajmcjfhbcjaa.P
open Go.RowKit Go.Proofs.YtbeajmcjfhbcjaaW.PrintWords Go.Proofs.YtbeajmcjfhbcjaaW.PrintLast Go.Proofs.YtbeajmcjfhbcjaaW.PrintMore
attribute [local go_sem] max2_int min2_int max_two min_two max_three min_three max_four min_four   -- for this text's walks alone
set_option linter.unusedVariables false
set_option linter.unusedSimpArgs false

end Go.Proofs.Ytbeajmcjfhbcjaa.P
namespace Go.Proofs.YtbeajmcjfhbcjaaW.PrintWords
open Go.ChangeShapes Go.WideShapes
/-- A row's slice of whole numbers is no longer than its weight allows. -/
theorem sized_ints {H : Type} {enc : TypeId × Value → H} {P : Program} {W : World} {base : Nat} {spare : Nat → Bool} {held : Bool} {t e : TypeId} {k : IntKind} {a : Option Addr} {len cap : Nat} {d : DataW H} {ps : List MemPlace} {ts : List TypeId} {ds : List (DataW H)} {j : Nat}
    (hsz : (DataW.weightsEach P ts ds).all (· ≤ reachBytes) = true) (ht : ts[j]? = some t) (hd : ds[j]? = some d) (hu : P.underlying t = some (.slice e)) (he : P.underlying e = some (.int k)) (hc : P.cellsOf e = 1) {B : Nat} (hB : P.bytesOf e = B)
    (h : DataW.Trod enc P W base spare held t (.slice a len cap) d ps) : len * B ≤ 140737488351232 := by
  obtain ⟨fuel, hf⟩ := h
  rcases open_ints hu he hc hf with ⟨hcs, _⟩ | ⟨x, l, c, zs, hcs, _, hl, _, hz, hx, _, _⟩
  · simp [Value.cells] at hcs
    obtain ⟨rfl, rfl, rfl⟩ := hcs
    simp
  · simp [Value.cells] at hcs
    obtain ⟨rfl, rfl, rfl⟩ := hcs
    obtain ⟨hx, _⟩ := Prod.mk.inj hx
    subst hx
    have z := sized_slice hsz ht hd hu
    rw [hB] at z
    have hl2 : len ≤ zs.length := by
      rw [hz]
      split
      · exact hl
      · exact Nat.le_refl _
    have h1 : (lits (H := H) k (zs.take len)).length + (lits (H := H) k (zs.drop len)).length = zs.length := by
      simp [lits]
      omega
    rw [h1] at z
    exact Nat.le_trans (Nat.mul_le_mul_right _ hl2) z
end Go.Proofs.YtbeajmcjfhbcjaaW.PrintWords
