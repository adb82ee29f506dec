/- The statement FnExactIsWallTree of the seat, out of its plain form (FnExactIsWallTree_pure) and the walk of its Go function. Part 4 of 4: each Go function's walk, then the plain lemmas, then the row. No condition: it holds for every input. -/
import Derived.Test.YtbeajmcjfhbcjaaBFnExactIsWallTree3
import Derived.Test.YtbeajmcjfhbcjaaRows
import Derived.Below
import Derived.ChangeOld
import Derived.OpenShut
import Derived.ProofKit
import Derived.ShutString
import Derived.SizedLaws
import Derived.WalkKit
namespace Go.Proofs.Ytbeajmcjfhbcjaa.P
open Go.RowKit Go.Proofs.YtbeajmcjfhbcjaaW.PrintWords
set_option linter.unusedVariables false
set_option linter.unusedSimpArgs false

theorem cnt_two {p q r : Nat → Bool} : ∀ v, (∀ i, i < v → p i = (q i || r i)) → (∀ i, i < v → ¬ (q i = true ∧ r i = true)) → cnt p v = cnt q v + cnt r v
  | 0, _, _ => rfl
  | v + 1, h1, h2 => by
    have ih := cnt_two v (fun i hi => h1 i (by omega)) (fun i hi => h2 i (by omega))
    have a := h1 v (by omega)
    have b := h2 v (by omega)
    simp only [cnt]
    rw [ih, a]
    cases hq : q v <;> cases hr : r v <;> simp [hq, hr] at b ⊢ <;> omega
section
variable {W H n : Nat} (hW : W < 5) (hH : H < 5) (hg : gridOk W H = true) (hn : n < 2 ^ gapsN W H)
def firstB (L : Nat → Nat) (c : Nat) : Bool := decide (∀ j, j < c → L j ≠ L c)
theorem Cn_touch {e : Nat → Nat × Nat} {m x y : Nat} (h : Cn e m x y) : x = y ∨ ∃ k, (e k).1 = x ∨ (e k).2 = x := by
  induction h with
  | refl => exact .inl rfl
  | fwd k hk _ ih =>
    rcases ih with ih | ih
    · exact .inr ⟨k, .inl ih.symm⟩
    · exact .inr ih
  | bwd k hk _ ih =>
    rcases ih with ih | ih
    · exact .inr ⟨k, .inr ih.symm⟩
    · exact .inr ih
theorem touch_zc {k x : Nat} (h : (duals W H k).1 = x ∨ (duals W H k).2 = x) : zc W H x = x := by
  unfold duals at h
  rcases h with h | h <;> rw [← h] <;> exact zc_idem _ _ _
theorem Cn_sym {e : Nat → Nat × Nat} {m x y : Nat} (h : Cn e m x y) : Cn e m y x := by
  induction h with
  | refl => exact .refl _
  | fwd k hk _ ih => exact (Cn.bwd k hk (.refl _)).trans ih
  | bwd k hk _ ih => exact (Cn.fwd k hk (.refl _)).trans ih
theorem firsts {m : Nat} {L : Nat → Nat} (hm : m < 2 ^ gapsN W H) (hL : Lb W H m L) : parts (duals W H) (cornN W H) (gapsN W H) m = cnt (firstB L) (cornN W H) + eg W H (cornN W H) := by
  unfold parts eg
  refine cnt_two _ (fun c hc => ?_) (fun c hc => ?_)
  · rw [Bool.eq_iff_iff, rep_iff hm, Bool.or_eq_true, Bool.and_eq_true]
    simp only [firstB, decide_eq_true_eq]
    constructor
    · intro h
      by_cases hz : zc W H c = 0 ∧ c ≠ 0
      · exact .inr hz
      · left
        intro j hj e
        have hc0 : zc W H c = c := by rcases zc_or W H c with q | q <;> omega
        have := (hL j c (by omega) hc).1 e
        rw [hc0] at this
        have h1 := h _ (Cn_sym this)
        have h2 := zc_le W H j
        omega
    · rintro (h | ⟨h1, h2⟩)
      · intro y hy
        have hc0 : zc W H c = c := by
          rcases zc_or W H c with q | q
          · by_cases e : c = 0
            · rw [e]; exact zc_zero W H
            · exfalso
              refine h 0 (by omega) ((hL 0 c (by omega) hc).2 ?_)
              rw [zc_zero, q]
              exact .refl _
          · exact q
        rcases Nat.lt_or_ge y c with hlt | hge
        · exfalso
          refine h y hlt ((hL y c (by omega) hc).2 ?_)
          rcases Cn_touch (Cn_sym hy) with q | ⟨k, q⟩
          · omega
          · rw [touch_zc q, hc0]
            exact Cn_sym hy
        · exact hge
      · intro y hy
        rcases Cn_touch hy with q | ⟨k, q⟩
        · omega
        · have := touch_zc q
          omega
  · simp only [firstB, Bool.and_eq_true, decide_eq_true_eq]
    rintro ⟨h1, h2, h3⟩
    refine h1 0 (by omega) ((hL 0 c (by omega) hc).2 ?_)
    rw [zc_zero, h2]
    exact .refl _
/-- The parts of the walls. -/
def wpN (W H n : Nat) : Nat := partsN W H n + pop (gapsN W H) n - (cellsN W H - 1)
include hW hH hg hn in
theorem wp_value : (pw W H n (gapsN W H) : Int) - eg W H (cornN W H) = (wpN W H n : Nat) ∧ cellsN W H - 1 ≤ partsN W H n + pop (gapsN W H) n ∧ cnt (firstB (Lw W H n (gapsN W H))) (cornN W H) = wpN W H n := by
  have he := euler hW hH hg hn
  have hc : compl (gapsN W H) n % 2 ^ gapsN W H = compl (gapsN W H) n := Nat.mod_eq_of_lt compl_lt
  have hf := firsts (compl_lt (E := gapsN W H) (n := n)) (by have := Lw_lb hW hH hg hn _ (Nat.le_refl _); rwa [hc] at this)
  have h0 := eg0_all W hW H hH hg
  unfold pw wpN partsN
  rw [hc]
  generalize parts (duals W H) (cornN W H) (gapsN W H) (compl (gapsN W H) n) = A at *
  generalize parts (ends W H) (cellsN W H) (gapsN W H) n = B at *
  rw [← h0] at he
  generalize cnt (firstB (Lw W H n (gapsN W H))) (cornN W H) = F at *
  omega
include hW hH hg hn in
theorem impl_WallParts_ev : Ev (fun k => impl_WallParts.f k W H n) (wpN W H n : Int) := by
  have hN := cornN_le hW hH
  have hgc := gapsN_cast W H
  have h24 := gapsN_le W H
  unfold impl_WallParts.f
  refine Ev.bnd0 (impl_MazeOk_eq W H n) (Ev.tt (mazeOk_nat hg hn) (Ev.bnd0 (ccI_all W hW H hH hg) (Ev.bind (impl_upTo_ev (cornN W H) (by omega)) ?_)))
  have e0 : run 0 (cornN W H) = nl (cornN W H) (zb W H 0) := by
    unfold run nl dlist
    refine List.map_congr_left fun i _ => ?_
    unfold zb
    rw [if_neg (by omega), Nat.zero_add]
  rw [e0]
  refine Ev.tt (by rw [nl_length]; omega) ?_
  have h0 := impl_c0 hW hH hg (cornN W H) 0 (by omega)
  rw [show ((cornN W H : Nat) : Int) - (eg W H 0 : Nat) = ((nl (cornN W H) (zb W H 0)).length : Int) by rw [nl_length]; simp [eg, cnt]] at h0
  rw [nl_length] at h0 ⊢
  refine Ev.bnd0 h0 (Ev.bnd0 (impl_CountGaps_eq W H) (Ev.tt (by omega) ?_))
  have h1 := impl_c1 hW hH hg hn (gapsN W H) 0 (by omega)
  have e1 : pw W H n 0 = cornN W H := by
    unfold pw
    rw [show compl (gapsN W H) n % 2 ^ 0 = 0 from Nat.mod_one _, parts_zero]
  rw [e1] at h1
  rw [show (gapsOf (W : Int) (H : Int)).toNat = gapsN W H by omega]
  refine Ev.bnd0 h1 (Ev.ret ?_)
  exact (wp_value hW hH hg hn).1
def sz0 (W H i : Nat) : Nat → Nat := fun x => if x < i then zc W H x else 0
include hW hH hg in
theorem spec_w0 {R : Int} (next : Ev (fun k => spec_WallParts.l1 k (nl (cornN W H) (zc W H)) 0 W H n) R) : ∀ d i : Nat, i + d = cornN W H → Ev (fun k => spec_WallParts.l0 k (nl (cornN W H) (sz0 W H i)) i W H n) R
  | 0, i, hd => by
    refine Ev.step (fun _ => spec_WallParts.l0.eq_2 ..) (Ev.ff (by rw [nl_length]; omega) ?_)
    have e1 : nl (cornN W H) (sz0 W H i) = nl (cornN W H) (zc W H) := by
      refine dlist_congr fun x hx => ?_
      unfold sz0
      rw [if_pos (by omega)]
    rw [e1]
    exact next
  | d + 1, i, hd => by
    have hN := cornN_le hW hH
    have ih := spec_w0 next d (i + 1) (by omega)
    have e1 : (nl (cornN W H) (sz0 W H i)).set i (i : Int) = nl (cornN W H) (fun x => if x = i then i else sz0 W H i x) := by
      unfold nl
      rw [dlist_set (by omega)]
      refine dlist_congr fun x hx => ?_
      unfold upd
      by_cases q : x = i
      · simp [q]
      · simp [q]
    have e2 : (nl (cornN W H) (fun x => if x = i then i else sz0 W H i x)).set i (0 : Int) = nl (cornN W H) (fun x => if x = i then 0 else sz0 W H i x) := by
      unfold nl
      rw [dlist_set (by omega)]
      refine dlist_congr fun x hx => ?_
      unfold upd
      by_cases q : x = i
      · simp [q]
      · simp [q]
    refine Ev.step (fun _ => spec_WallParts.l0.eq_2 ..) (Ev.tt (by rw [nl_length]; omega) (Ev.tt (by omega) (Ev.bnd0 rfl (Ev.bnd0 (icS_all W hW H hH hg i (by omega)) ?_))))
    rw [Int.toNat_natCast, e1, e2, wsucc (by omega)]
    have key : ∀ z : Nat, zc W H i = z → nl (cornN W H) (fun x => if x = i then z else sz0 W H i x) = nl (cornN W H) (sz0 W H (i + 1)) := by
      intro z hz
      refine dlist_congr fun x hx => ?_
      unfold sz0
      by_cases q : x = i
      · subst q; rw [if_pos (show x < x + 1 by omega), hz]; simp
      · simp only []
        rw [if_neg q]
        by_cases q2 : x < i
        · rw [if_pos q2, if_pos (show x < i + 1 by omega)]
        · rw [if_neg q2, if_neg (show ¬ x < i + 1 by omega)]
    refine Ev.ite (fun h => ?_) (fun h => ?_)
    · rw [key 0 (by simpa using h)]; exact ih
    · rw [key i ((zc_or W H i).resolve_left fun q => h (by simpa using q))]; exact ih
def md (L : Nat → Nat) (a b t : Nat) : Nat → Nat := fun x => if x < t then jn L a b x else L x
theorem md_a {L : Nat → Nat} {a b t : Nat} : md L a b t a = L a := by
  unfold md jn
  split
  · split
    · rfl
    · rfl
  · rfl
include hW hH hn in
theorem spec_w2 {R : Int} {L : Nat → Nat} {i a b : Nat} (hi : i < gapsN W H) (ha : a < cornN W H) (hb : b < cornN W H) (hbit : n.testBit i = false) (next : Ev (fun k => spec_WallParts.l1 k (nl (cornN W H) (jn L a b)) ((i + 1 : Nat) : Int) W H n) R) : ∀ d t : Nat, t + d = cornN W H → Ev (fun k => spec_WallParts.l2 k (nl (cornN W H) (md L a b t)) i a (L b : Nat) t W H n) R
  | 0, t, hd => by
    have h24 := gapsN_le W H
    have hN := cornN_le hW hH
    refine Ev.step (fun _ => spec_WallParts.l2.eq_2 ..) (Ev.ff (by rw [nl_length]; omega) (Ev.step (fun _ => spec_WallParts.j3.eq_2 ..) (Ev.ff (by decide) ?_)))
    rw [wsucc (by omega)]
    have e1 : nl (cornN W H) (md L a b t) = nl (cornN W H) (jn L a b) := by
      refine dlist_congr fun x hx => ?_
      unfold md
      rw [if_pos (by omega)]
    rw [e1]
    exact next
  | d + 1, t, hd => by
    have hN := cornN_le hW hH
    have ih := spec_w2 hi ha hb hbit next d (t + 1) (by omega)
    refine Ev.step (fun _ => spec_WallParts.l2.eq_2 ..) (Ev.tt (by rw [nl_length]; omega) (Ev.bnd0 (spec_l03Bit_eq (open_small hn) (by omega)) (Ev.step (fun _ => spec_WallParts.j3.eq_2 ..) ?_)))
    rw [openI_nat', hbit]
    refine Ev.tt rfl (Ev.tt (by omega) (Ev.tt (by rw [nl_length]; omega) ?_))
    rw [rd_nl (by omega), rd_nl ha, md_a, wsucc (by omega)]
    have hmt : md L a b t t = L t := by unfold md; rw [if_neg (by omega)]
    rw [hmt]
    refine Ev.ite (fun h => Ev.tt (by omega) (Ev.tt (by rw [nl_length]; omega) ?_)) (fun h => ?_)
    · have e1 : (nl (cornN W H) (md L a b t)).set (t : Int).toNat (L a : Int) = nl (cornN W H) (md L a b (t + 1)) := by
        rw [Int.toNat_natCast]
        unfold nl
        rw [dlist_set (by omega)]
        refine dlist_congr fun x hx => ?_
        unfold upd md
        by_cases q : x = t
        · subst q
          rw [if_pos rfl, if_pos (by omega)]
          unfold jn
          rw [if_pos (by omega)]
        · rw [if_neg q]
          simp only []
          by_cases q2 : x < t
          · rw [if_pos q2, if_pos (show x < t + 1 by omega)]
          · rw [if_neg q2, if_neg (show ¬ x < t + 1 by omega)]
      rw [e1]
      exact ih
    · have e1 : nl (cornN W H) (md L a b t) = nl (cornN W H) (md L a b (t + 1)) := by
        refine dlist_congr fun x hx => ?_
        unfold md
        by_cases q : x = t
        · subst q
          rw [if_neg (by omega), if_pos (by omega)]
          unfold jn
          rw [if_neg (by omega)]
        · by_cases q2 : x < t
          · rw [if_pos q2, if_pos (show x < t + 1 by omega)]
          · rw [if_neg q2, if_neg (show ¬ x < t + 1 by omega)]
      rw [e1]
      exact ih
include hW hH hg hn in
theorem spec_w1 {R : Int} (next : Ev (fun k => spec_WallParts.l3 k (nl (cornN W H) (Lw W H n (gapsN W H))) 0 0) R) : ∀ d i : Nat, i + d = gapsN W H → Ev (fun k => spec_WallParts.l1 k (nl (cornN W H) (Lw W H n i)) i W H n) R
  | 0, i, hd => by
    have hgc := gapsN_cast W H
    refine Ev.step (fun _ => spec_WallParts.l1.eq_2 ..) (Ev.bnd0 (spec_CountGaps_eq W H) (Ev.ff (by omega) ?_))
    rw [show i = gapsN W H by omega]
    exact next
  | d + 1, i, hd => by
    have hgc := gapsN_cast W H
    have hN := cornN_le hW hH
    have h24 := gapsN_le W H
    have ih := spec_w1 next d (i + 1) (by omega)
    have hd2 := dual_gr W H hW hH hg i (by omega)
    refine Ev.step (fun _ => spec_WallParts.l1.eq_2 ..) (Ev.bnd0 (spec_CountGaps_eq W H) (Ev.tt (by omega) (Ev.bnd0 (coS_all W hW H hH hg i (by omega)) (Ev.tt (by simp only []; omega) (Ev.tt (by rw [nl_length]; simp only []; omega) ?_)))))
    simp only []
    rw [rd_nl hd2.2.2.2]
    cases hb : n.testBit i with
    | true =>
      have e1 : Lw W H n (i + 1) = Lw W H n i := by rw [Lw]; rw [if_pos hb]
      rw [e1] at ih
      refine Ev.step (fun _ => spec_WallParts.l2.eq_2 ..) (Ev.tt (by rw [nl_length]; omega) (Ev.bnd0 (spec_l03Bit_eq (open_small hn) (by omega)) (Ev.step (fun _ => spec_WallParts.j3.eq_2 ..) ?_)))
      rw [openI_nat', hb]
      refine Ev.ff (by decide) ?_
      rw [wsucc (by omega)]
      exact ih
    | false =>
      have e1 : Lw W H n (i + 1) = jn (Lw W H n i) (cornersN W H i).1 (cornersN W H i).2 := by rw [Lw]; rw [if_neg (by rw [hb]; decide)]
      rw [e1] at ih
      have := spec_w2 hW hH hn (show i < gapsN W H by omega) hd2.2.2.1 hd2.2.2.2 hb ih (cornN W H) 0 (by omega)
      exact this
theorem spec_w4 {R : Int} {L : Nat → Nat} {v c m : Nat} (hv : v ≤ 25) (hm : m ≤ c) (hc : c < v) (next : Ev (fun k => spec_WallParts.l3 k (nl v L) ((m + (firstB L c).toNat : Nat) : Int) ((c + 1 : Nat) : Int)) R) : ∀ d t : Nat, t + d = c → Ev (fun k => spec_WallParts.l4 k (nl v L) m c (decide (∀ j, j < t → L j ≠ L c)) t) R
  | 0, t, hd => by
    obtain rfl : t = c := by omega
    refine Ev.step (fun _ => spec_WallParts.l4.eq_2 ..) (Ev.ff (by omega) ?_)
    rw [wsucc (by omega), wsucc (by omega)]
    refine Ev.ite (fun h => ?_) (fun h => ?_)
    · have : firstB L t = true := h
      rw [this] at next
      exact next
    · have : firstB L t = false := Bool.eq_false_iff.2 h
      rw [this] at next
      exact next
  | d + 1, t, hd => by
    have ih := spec_w4 hv hm hc next d (t + 1) (by omega)
    refine Ev.step (fun _ => spec_WallParts.l4.eq_2 ..) (Ev.tt (by omega) ?_)
    rw [wsucc (by omega)]
    refine Ev.ite (fun h => Ev.tt (by omega) (Ev.tt (by rw [nl_length]; omega) (Ev.tt (by omega) (Ev.tt (by rw [nl_length]; omega) ?_)))) (fun h => ?_)
    · rw [rd_nl (by omega), rd_nl hc]
      have e1 : (((L t : Nat) : Int) != ((L c : Nat) : Int)) = decide (∀ j, j < t + 1 → L j ≠ L c) := by
        rw [decide_eq_true_eq] at h
        rw [Bool.eq_iff_iff, bne_iff_ne, decide_eq_true_eq]
        constructor
        · intro h1 j hj
          by_cases q : j = t
          · subst q; intro e; exact h1 (by rw [e])
          · exact h j (by omega)
        · intro h1 e
          exact h1 t (by omega) (by omega)
      rw [e1]
      exact ih
    · have e1 : false = decide (∀ j, j < t + 1 → L j ≠ L c) := by
        rw [decide_eq_true_eq] at h
        symm
        rw [decide_eq_false_iff_not]
        exact fun q => h fun j hj => q j (by omega)
      rw [e1]
      exact ih
theorem spec_w3 {L : Nat → Nat} {v : Nat} (hv : v ≤ 25) : ∀ d c : Nat, c + d = v → Ev (fun k => spec_WallParts.l3 k (nl v L) (cnt (firstB L) c : Nat) c) (cnt (firstB L) v : Nat)
  | 0, c, hd => by
    refine Ev.step (fun _ => spec_WallParts.l3.eq_2 ..) (Ev.ff (by rw [nl_length]; omega) (Ev.ret ?_))
    rw [show c = v by omega]
  | d + 1, c, hd => by
    have ih := spec_w3 (L := L) hv d (c + 1) (by omega)
    refine Ev.step (fun _ => spec_WallParts.l3.eq_2 ..) (Ev.tt (by rw [nl_length]; omega) ?_)
    have := spec_w4 (L := L) (R := (cnt (firstB L) v : Nat)) hv (cnt_le (firstB L) c) (by omega) (by simpa only [cnt] using ih) c 0 (by omega)
    rwa [show (decide (∀ j : Nat, j < 0 → L j ≠ L c)) = true from decide_eq_true fun j hj => absurd hj (Nat.not_lt_zero j)] at this
include hW hH hg hn in
theorem spec_WallParts_ev : Ev (fun k => spec_WallParts.f k W H n) (wpN W H n : Int) := by
  have hN := cornN_le hW hH
  unfold spec_WallParts.f
  refine Ev.bnd0 (spec_MazeOk_eq W H n) (Ev.tt (mazeOk_nat hg hn) (Ev.bnd0 (ccS_all W hW H hH hg) (Ev.tt (by omega) (Ev.tt (by rw [Int.toNat_natCast]; omega) ?_))))
  have e0 : List.replicate ((cornN W H : Nat) : Int).toNat (0 : Int) = nl (cornN W H) (sz0 W H 0) := by
    rw [Int.toNat_natCast]
    refine List.ext_getElem (by simp [nl, dlist]) fun i h1 h2 => ?_
    simp [nl, dlist, sz0]
  rw [e0]
  refine Ev.eq (spec_w0 hW hH hg (spec_w1 hW hH hg hn (spec_w3 (by omega) (cornN W H) 0 (by omega)) (gapsN W H) 0 (by omega)) (cornN W H) 0 (by omega)) ?_
  rw [(wp_value hW hH hg hn).2.2]
end
end Go.Proofs.Ytbeajmcjfhbcjaa.P
namespace Go.Proofs.Ytbeajmcjfhbcjaa.P
open Go.RowKit Go.Proofs.YtbeajmcjfhbcjaaW.PrintWords
set_option linter.unusedVariables false
set_option linter.unusedSimpArgs false

theorem gc_all : ∀ W : Nat, W < 5 → ∀ H : Nat, H < 5 → gridOk W H = true → gapsN W H + 1 = cellsN W H + (W - 1) * (H - 1) ∧ (W - 1) * (H - 1) ≤ 9 ∧ ((W : Int) - 1) * ((H : Int) - 1) = ((W - 1) * (H - 1) : Nat) := by decide +kernel
def wtB (W H n : Nat) : Bool := if wpN W H n = 1 then partsN W H n == 1 else false
section
variable {W H n : Nat} (hW : W < 5) (hH : H < 5) (hg : gridOk W H = true) (hn : n < 2 ^ gapsN W H)
include hW hH hg hn
theorem loops_val : wrap64 (wrap64 (wrap64 (wrap64 ((gapsOf (W : Int) (H : Int)) - (pop (gapsN W H) n : Nat)) - wrap64 (wrap64 ((W : Int) - 1) * wrap64 ((H : Int) - 1))) - 1) + (wpN W H n : Nat)) = (partsN W H n : Int) - 1 := by
  have hgr := gridOk_iff.1 hg
  have hgc := gapsN_cast W H
  have h24 := gapsN_le W H
  have h16 := cellsN_le W H
  have hc := gc_all W hW H hH hg
  have hp := partsN_le W H n
  have hpo := pop_le (gapsN W H) n
  have hw := (wp_value hW hH hg hn).2.1
  have hV := cells_pos hg
  have e : wpN W H n = partsN W H n + pop (gapsN W H) n - (cellsN W H - 1) := rfl
  rw [wrap64_id (x := (W : Int) - 1) (by omega) (by omega), wrap64_id (x := (H : Int) - 1) (by omega) (by omega), hc.2.2, wrap64_id (x := (((W - 1) * (H - 1) : Nat) : Int)) (by omega) (by omega)]
  generalize (W - 1) * (H - 1) = q at *
  rw [wrap64_id (x := gapsOf (W : Int) (H : Int) - (pop (gapsN W H) n : Nat)) (by omega) (by omega), wrap64_id (x := gapsOf (W : Int) (H : Int) - (pop (gapsN W H) n : Nat) - (q : Nat)) (by omega) (by omega), wrap64_id (x := gapsOf (W : Int) (H : Int) - (pop (gapsN W H) n : Nat) - (q : Nat) - 1) (by omega) (by omega), wrap64_id (by omega) (by omega)]
  omega
theorem impl_WallLoops_ev : Ev (fun k => impl_WallLoops.f k W H n) ((partsN W H n : Int) - 1) := by
  unfold impl_WallLoops.f
  exact Ev.bnd0 (impl_MazeOk_eq ..) (Ev.tt (mazeOk_nat hg hn) (Ev.bnd0 (impl_CountGaps_eq ..) (Ev.bnd0 (impl_CountPassages_eq hg hn) (Ev.bind (impl_WallParts_ev hW hH hg hn) (Ev.ret (loops_val hW hH hg hn))))))
theorem spec_WallLoops_ev : Ev (fun k => spec_WallLoops.f k W H n) ((partsN W H n : Int) - 1) := by
  unfold spec_WallLoops.f
  exact Ev.bnd0 (spec_MazeOk_eq ..) (Ev.tt (mazeOk_nat hg hn) (Ev.bnd0 (spec_CountGaps_eq ..) (Ev.bind (spec_CountPassages_ev hg hn) (Ev.bind (spec_WallParts_ev hW hH hg hn) (Ev.ret (loops_val hW hH hg hn))))))
omit hW hH hg hn in
theorem wt_last (h : wpN W H n = 1) : (((partsN W H n : Int) - 1) == 0) = wtB W H n := by
  unfold wtB
  rw [if_pos h, Bool.eq_iff_iff, beq_iff_eq, beq_iff_eq]
  omega
theorem impl_IsWallTree_ev : Ev (fun k => impl_IsWallTree.f k W H n) (wtB W H n) := by
  unfold impl_IsWallTree.f
  refine Ev.bnd0 (impl_MazeOk_eq ..) (Ev.tt (mazeOk_nat hg hn) (Ev.bind (impl_WallParts_ev hW hH hg hn) (Ev.ite (fun h => ?_) (fun h => Ev.ret ?_))))
  · exact Ev.bind (impl_WallLoops_ev hW hH hg hn) (Ev.ret (wt_last (by omega)))
  · unfold wtB; rw [if_neg (by omega)]
theorem spec_IsWallTree_ev : Ev (fun k => spec_IsWallTree.f k W H n) (wtB W H n) := by
  unfold spec_IsWallTree.f
  refine Ev.bnd0 (spec_MazeOk_eq ..) (Ev.tt (mazeOk_nat hg hn) (Ev.bind (spec_WallParts_ev hW hH hg hn) (Ev.ite (fun h => ?_) (fun h => Ev.ret ?_))))
  · exact Ev.bind (spec_WallLoops_ev hW hH hg hn) (Ev.ret (wt_last (by omega)))
  · unfold wtB; rw [if_neg (by omega)]
end
end Go.Proofs.Ytbeajmcjfhbcjaa.P
namespace Go.Proofs.Ytbeajmcjfhbcjaa.P
open Go.RowKit Go.Proofs.YtbeajmcjfhbcjaaW.PrintWords Go.Proofs.Ytbeajmcjfhbcjaa.Sup
set_option linter.unusedVariables false
set_option linter.unusedSimpArgs false

theorem FnExactIsWallTree_pure (a0_0 a0_1 a0_2 : Int) (w0_0 : InR a0_0) (w0_1 : InR a0_1) (w0_2 : InR a0_2) : ∃ k, laws_FnExactIsWallTree.f k a0_0 a0_1 a0_2 = some true := by
  refine Ev.rounds ?_
  have key : ∃ r : Bool, Ev (fun k => impl_IsWallTree.f k a0_0 a0_1 a0_2) r ∧ Ev (fun k => spec_IsWallTree.f k a0_0 a0_1 a0_2) r := by
    by_cases hm : mazeOk a0_0 a0_1 a0_2 = true
    · obtain ⟨hg, n, rfl, hn⟩ := mazeOk_iff.1 hm
      have hgr := gridOk_iff.1 hg
      obtain ⟨W, rfl⟩ := Int.eq_ofNat_of_zero_le (show 0 ≤ a0_0 by omega)
      obtain ⟨H, rfl⟩ := Int.eq_ofNat_of_zero_le (show 0 ≤ a0_1 by omega)
      exact ⟨_, impl_IsWallTree_ev (by omega) (by omega) hg hn, spec_IsWallTree_ev (by omega) (by omega) hg hn⟩
    · refine ⟨false, ?_, ?_⟩
      · unfold impl_IsWallTree.f
        exact Ev.bnd0 (impl_MazeOk_eq ..) (Ev.ff hm (Ev.ret rfl))
      · unfold spec_IsWallTree.f
        exact Ev.bnd0 (spec_MazeOk_eq ..) (Ev.ff hm (Ev.ret rfl))
  obtain ⟨r, hi, hs⟩ := key
  unfold laws_FnExactIsWallTree.f
  have ht : laws_toMaze.f a0_0 a0_1 a0_2 = some (a0_0, a0_1, a0_2) := rfl
  exact Ev.bnd0 ht (Ev.bind hs (Ev.bnd0 ht (Ev.bind hi (Ev.ff (by simp) (Ev.ret rfl)))))
end Go.Proofs.Ytbeajmcjfhbcjaa.P
namespace Go.Proofs.Ytbeajmcjfhbcjaa.fnExactIsWallTree
open Go.ChangeShapes Go.WideShapes Go.ChangeAt Go.RowKit Go.Proofs.YtbeajmcjfhbcjaaW.PrintWords Go.Proofs.Ytbeajmcjfhbcjaa.Sup
open Go.ChangeMaps (open_string shut_string)
set_option linter.unusedVariables false
theorem own : ownKnob Try.prog.godebug = none := by kernel_rfl
theorem laidOut : laidOutB Try.prog = true := by kernel_rfl
set_option maxRecDepth 100000 in
theorem lifted (os : Os) (started : os.Started) (H : Type) (enc : TypeId × Value → H) :
    ReturnsInHanded {} Try.checked os 10 .any (Rows.fnExactIsWallTreeSpec.pre6 enc Try.prog Try.f10 Rows.fnExactIsWallTreeRow.domain false) (Rows.fnExactIsWallTreeSpec.post enc Try.prog Try.f10 false true false false) := by
  refine returnsInHanded_of_change_sized (C := Try.checked) own started (by kernel_rfl) Try.func10
    (ChangeSpec.witness6 (enc := enc) (C := Try.checked) false ⟨#[], #[.agg #[.int .i64 0, .int .i64 0, .int .i64 0]], []⟩ 8 (by kernel_rfl) (by kernel_rfl) (by kernel_rfl) (by kernel_rfl)) ?_
  intro W base args ds gs before hval0 hW hcnd hsz0 _
  have hsz : (DataW.weightsEach Try.prog (Try.f10.params.toList ++ Rows.fnExactIsWallTreeSpec.plain.varTypes Try.prog) (ds ++ gs)).all (· ≤ reachBytes) = true := hsz0
  have hval : ∀ (j : Nat) t v, Try.f10.params[j]? = some t → args[j]? = some v → Value.okWide Try.prog W .any base t v := hval0
  have hW' := hW
  obtain ⟨p, q, hA0, hV, rfl, hfz, hnd⟩ := hW
  have hA : DataW.TrodAll enc Try.prog W 0 (fun _ => true) true Try.f10.params.toList args.toList ds p := hA0
  rw [Try.params10] at hA hval hsz
  obtain ⟨v0, vs0, d0, ds0, p0, q0, hargs, rfl, rfl, h0, r0⟩ := trodAll_cons hA
  obtain ⟨rfl, rfl, rfl⟩ := trodAll_nil r0
  obtain rfl : args = #[v0] := by cases args; simp_all
  obtain ⟨rfl, rfl⟩ := trodVars_none hV
  have k0 := h0
  have lt0 : ∀ x ∈ p0, x.block < W.heap.size := by obtain ⟨m, hm⟩ := k0; exact DataW.trod_lt m _ _ _ hm
  obtain ⟨a0_0, a0_1, a0_2, rfl, w0_0, w0_1, w0_2⟩ := open3 Try.underlying46 Try.underlying31 (by kernel_rfl) (by kernel_rfl) (by kernel_rfl) rfl rfl rfl rfl (by kernel_rfl) (by kernel_rfl) (by kernel_rfl) (by kernel_rfl) (by kernel_rfl) (hval 0 46 v0 rfl rfl) h0
  clear hA0 hval0 hsz0 hsz
  obtain ⟨k, hf⟩ := P.FnExactIsWallTree_pure a0_0 a0_1 a0_2 w0_0 w0_1 w0_2
  refine (P.laws_FnExactIsWallTree.calls k a0_0 a0_1 a0_2 true W  hf).mono fun e W' ⟨he, bel0⟩ => ?_
  have bel : Below W.heap.size W W' := bel0
  subst he
  exact ⟨_, rfl, _, _, _, [], _, [], hW', trodAll_mk1 (shut_bool Try.underlying4 _), (trodAll_cons_mk (Below.trod laidOut (by kernel_rfl) (of_decide_eq_true (by kernel_rfl)) k0 bel lt0) trodAll_mk0), rfl, bel.frame _, fun h => by cases h⟩
theorem over : Rows.fnExactIsWallTreeRow.holds Try.pinned (OpenSpec.ofChange Rows.fnExactIsWallTreeSpec) :=
  OpenClaim.holds_of_wide 10 Try.f10 rfl rfl rfl rfl rfl rfl rfl ⟨rfl, rfl, rfl, rfl, rfl⟩ rfl rfl rfl rfl rfl (by kernel_rfl) Try.func10 (by kernel_rfl)
    (of_decide_eq_true (by kernel_rfl)) (by unfold Func.isWrapper; first | (rw [if_pos (by decide +kernel)]; kernel_rfl) | (rw [if_neg (by decide +kernel)]; exact ⟨rfl, rfl⟩))
    (fun os started H enc _ => lifted os started H enc)
theorem proved : Rows.FnExactIsWallTreeSaid := over
end Go.Proofs.Ytbeajmcjfhbcjaa.fnExactIsWallTree
namespace Go.Proofs.Ytbeajmcjfhbcjaa
/-- The row, under a short name, for the claim. -/
theorem fnExactIsWallTree_holds : Rows.FnExactIsWallTreeSaid := fnExactIsWallTree.proved
#print axioms fnExactIsWallTree_holds
end Go.Proofs.Ytbeajmcjfhbcjaa
