/- The statement FnExactCountWith of the seat, out of its plain form (FnExactCountWith_pure) and the walk of its Go function. Part 6 of 6: each Go function's walk, then the plain lemmas, then the row. No condition: it holds for every input. -/
import Derived.Test.YtoohcdfokejkdaaBFnExactCountWith5
import Derived.Test.YtoohcdfokejkdaaRows
import Derived.Below
import Derived.ChangeOld
import Derived.OpenShut
import Derived.ProofKit
import Derived.ShutString
import Derived.SizedLaws
import Derived.WalkKit
namespace Go.Proofs.Ytoohcdfokejkdaa.P
open Go.RowKit Go.Proofs.YtoohcdfokejkdaaW.PrintWords
set_option linter.unusedVariables false
set_option linter.unusedSimpArgs false

section
variable {w h : Int} {c b : Nat} (hg : gridOk w h = true) (hc : c < 2 ^ gapsN w h) (hb : b < 2 ^ gapsN w h) (hd : ∀ i, c.testBit i = true → b.testBit i = false)
include hg hc hb hd
end
/-- The number of perfect mazes with these gaps open and those shut; 0 for what is no question. -/
def cfI (w h a b : Int) : Int := if gridOk w h = true ∧ (0 ≤ a ∧ a < 2 ^ gapsN w h) ∧ (0 ≤ b ∧ b < 2 ^ gapsN w h) ∧ a.toNat &&& b.toNat = 0 then (totN w h a.toNat b.toNat : Nat) else 0
theorem cfI_nat {w h : Int} {a b : Nat} (hg : gridOk w h = true) (ha : a < 2 ^ gapsN w h) (hb : b < 2 ^ gapsN w h) (hd : ∀ i, a.testBit i = true → b.testBit i = false) : cfI w h a b = (totN w h a b : Nat) := by
  have e : a &&& b = 0 := by
    apply Nat.eq_of_testBit_eq
    intro i
    rw [Nat.testBit_and, Nat.zero_testBit]
    cases q : a.testBit i
    · rfl
    · rw [hd i q]; rfl
  unfold cfI
  have ha' : (a : Int) < 2 ^ gapsN w h := by exact_mod_cast ha
  have hb' : (b : Int) < 2 ^ gapsN w h := by exact_mod_cast hb
  rw [if_pos ⟨hg, ⟨by omega, ha'⟩, ⟨by omega, hb'⟩, by rw [Int.toNat_natCast, Int.toNat_natCast]; exact e⟩, Int.toNat_natCast, Int.toNat_natCast]
theorem and_zero {a b : Nat} (h : a &&& b = 0) (i : Nat) (hi : a.testBit i = true) : b.testBit i = false := by
  have := Nat.testBit_and a b i
  rw [h, Nat.zero_testBit, hi] at this
  simpa using this.symm
theorem impl_CountFixed_ev (w h a b : Int) : Ev (fun k => impl_CountFixed.f k w h a b) (cfI w h a b) := by
  have hgr := gapsOf_range w h
  have h24 := gapsN_le w h
  have hcast := gapsN_cast w h
  have hS : wrap64 (shl .i64 1 (gapsOf w h) - 1) = 2 ^ gapsN w h - 1 := by
    have hp : (2 : Int) ^ gapsN w h = ((2 ^ gapsN w h : Nat) : Int) := by norm_cast
    have h2 : 2 ^ gapsN w h ≤ 2 ^ 24 := Nat.pow_le_pow_right (by decide) h24
    have h3 := Nat.two_pow_pos (gapsN w h)
    rw [shl_one hgr.1 hgr.2]
    have : (gapsOf w h).toNat = gapsN w h := rfl
    rw [this, hp, wrap64_id (by omega) (by omega)]
  have hp : (2 : Int) ^ gapsN w h = ((2 ^ gapsN w h : Nat) : Int) := by norm_cast
  have bad : ¬ (gridOk w h = true ∧ (0 ≤ a ∧ a < 2 ^ gapsN w h) ∧ (0 ≤ b ∧ b < 2 ^ gapsN w h) ∧ a.toNat &&& b.toNat = 0) → Ev (fun k => impl_CountFixed.j0 k a b true w h) (cfI w h a b) := by
    intro hc
    unfold cfI
    rw [if_neg hc]
    exact Ev.step (fun _ => impl_CountFixed.j0.eq_2 ..) (Ev.tt rfl (Ev.ret rfl))
  unfold impl_CountFixed.f
  refine Ev.bnd0 (impl_CountGaps_eq w h) (Ev.tt hgr.1 (Ev.bnd0 (impl_GridOk_eq w h) ?_))
  rw [hS]
  refine Ev.ite (fun hg => ?_) (fun hg => bad fun hc => hg hc.1)
  refine Ev.ite (fun q => bad fun hc => by omega) (fun q1 => Ev.ite (fun q => bad fun hc => by omega) (fun q2 => Ev.ite (fun q => bad fun hc => by omega) (fun q3 => Ev.ite (fun q => bad fun hc => by omega) (fun q4 => ?_))))
  obtain ⟨c, rfl⟩ := Int.eq_ofNat_of_zero_le (show 0 ≤ a by omega)
  obtain ⟨d, rfl⟩ := Int.eq_ofNat_of_zero_le (show 0 ≤ b by omega)
  have hc : c < 2 ^ gapsN w h := by omega
  have hd : d < 2 ^ gapsN w h := by omega
  have hcs := open_small hc
  have hds := open_small hd
  rw [bits_and (by omega) (by omega)]
  by_cases e : c &&& d = 0
  · rw [e, cfI_nat hg hc hd (and_zero e)]
    exact cf_j0 hg hc hd (and_zero e)
  · have : (((c &&& d : Nat) : Int) != 0) = true := by
      rw [bne_iff_ne]
      omega
    rw [this]
    exact bad fun hx => e (by have := hx.2.2.2; rwa [Int.toNat_natCast, Int.toNat_natCast] at this)
end Go.Proofs.Ytoohcdfokejkdaa.P
namespace Go.Proofs.Ytoohcdfokejkdaa.P
open Go.RowKit Go.Proofs.YtoohcdfokejkdaaW.PrintWords
set_option linter.unusedVariables false
set_option linter.unusedSimpArgs false

theorem impl_with_eq (w h : Int) {n : Nat} (hn : n < 16777216) {g : Nat} (hg : g < 24) (b : Bool) : impl_with.f w h n g b = some (w, h, ((setB n g b : Nat) : Int)) := by
  have hp : 2 ^ g ≤ 2 ^ 24 := Nat.pow_le_pow_right (by decide) (by omega)
  unfold impl_with.f
  rw [if_pos (by omega), shl_pow (by omega), bits_andNot (by omega) (by omega)]
  cases b
  · rw [if_neg (by decide)]
    rfl
  · rw [if_pos rfl, bits_or (by have := andNot_le n (2 ^ g); omega) (by omega)]
    have e : andNot n (2 ^ g) ||| 2 ^ g = setB n g true := by
      apply Nat.eq_of_testBit_eq
      intro i
      rw [testBit_setB, Nat.testBit_or, testBit_andNot, Nat.testBit_two_pow]
      by_cases h : i = g
      · simp [h]
      · simp [h, show ¬ g = i from fun e => h e.symm]
    rw [e]
theorem spec_SetGap_ev {w h : Int} {n : Nat} (hg : gridOk w h = true) (hn : n < 2 ^ gapsN w h) {g : Nat} (hgg : g < gapsN w h) (b : Bool) : Ev (fun k => spec_SetGap.f k w h n g b) (w, h, ((setB n g b : Nat) : Int), true) := by
  have hr := gapsOf_range w h
  have hc := gapsN_cast w h
  have hp : 2 ^ g ≤ 2 ^ 24 := Nat.pow_le_pow_right (by decide) (by have := gapsN_le w h; omega)
  have hs := open_small hn
  unfold spec_SetGap.f
  refine Ev.bnd0 (spec_MazeOk_eq w h n) (Ev.tt (mazeOk_iff.2 ⟨hg, n, rfl, hn⟩) ?_)
  refine Ev.bnd0 (spec_CountGaps_eq w h) ?_
  rw [wrap64_id (by omega) (by omega)]
  refine Ev.bnd0 (l01In_eq ..) ?_
  rw [decide_eq_true (by omega)]
  refine Ev.step (fun _ => spec_SetGap.j0.eq_2 ..) ?_
  refine Ev.ff (by decide) (Ev.bnd0 (spec_l03Bit_eq hs (by omega)) ?_)
  have ho : openI n (g : Int) = n.testBit g := by simp [openI]
  rw [ho]
  refine Ev.ite (fun e => Ev.tt (by omega) (Ev.ret ?_)) (fun e => Ev.ret ?_)
  · rw [shl_pow (by omega), bits_xor (by omega) (by omega), xor_setB (by simpa using e)]
  · have : n.testBit g = b := by simpa using e
    rw [← this, setB_self]
/-- The gaps that a maze keeps shut. -/
def cpl (w h : Int) (n : Nat) : Nat := andNot (2 ^ gapsN w h - 1) n
theorem cpl_bit {w h : Int} {n g : Nat} (hg : g < gapsN w h) : (cpl w h n).testBit g = !n.testBit g := by
  unfold cpl
  rw [testBit_andNot, Nat.testBit_two_pow_sub_one, decide_eq_true hg, Bool.true_and]
theorem cpl_lt (w h : Int) (n : Nat) : cpl w h n < 2 ^ gapsN w h := by
  have := andNot_le (2 ^ gapsN w h - 1) n
  have := Nat.two_pow_pos (gapsN w h)
  unfold cpl
  omega
theorem cpl_und {w h : Int} {n g : Nat} (hg : g < gapsN w h) : und 0 (cpl w h n) g = n.testBit g := by
  unfold und
  rw [cpl_bit hg]
  simp
/-- How many perfect mazes lie in a maze. -/
def ctN (w h : Int) (n : Nat) : Nat := totN w h 0 (cpl w h n)
def ctI (w h o : Int) : Int := if mazeOk w h o = true then (ctN w h o.toNat : Nat) else 0
theorem ctI_range (w h o : Int) : 0 ≤ ctI w h o ∧ ctI w h o ≤ 16777216 := by
  unfold ctI ctN
  split
  · have := totN_le w h 0 (cpl w h o.toNat); omega
  · omega
theorem ctI_nat {w h : Int} {n : Nat} (hg : gridOk w h = true) (hn : n < 2 ^ gapsN w h) : ctI w h n = (ctN w h n : Nat) := by
  unfold ctI
  rw [if_pos (mazeOk_nat hg hn), Int.toNat_natCast]
theorem impl_CountTrees_ev (w h o : Int) : Ev (fun k => impl_CountTrees.f k w h o) (ctI w h o) := by
  have hgr := gapsOf_range w h
  have h24 := gapsN_le w h
  have hS : wrap64 (shl .i64 1 (gapsOf w h) - 1) = ((2 ^ gapsN w h - 1 : Nat) : Int) := by
    have hp : (2 : Int) ^ gapsN w h = ((2 ^ gapsN w h : Nat) : Int) := by norm_cast
    have h2 : 2 ^ gapsN w h ≤ 2 ^ 24 := Nat.pow_le_pow_right (by decide) h24
    have h3 := Nat.two_pow_pos (gapsN w h)
    rw [shl_one hgr.1 hgr.2]
    have : (gapsOf w h).toNat = gapsN w h := rfl
    rw [this, hp, wrap64_id (by omega) (by omega)]
    omega
  unfold impl_CountTrees.f
  refine Ev.bnd0 (impl_MazeOk_eq ..) (Ev.ite (fun e => Ev.bnd0 (impl_CountGaps_eq w h) (Ev.tt hgr.1 ?_)) (fun e => Ev.ret ?_))
  · obtain ⟨hg, n, rfl, hn⟩ := mazeOk_iff.1 e
    have hns := open_small hn
    have h2 : 2 ^ gapsN w h ≤ 2 ^ 24 := Nat.pow_le_pow_right (by decide) h24
    rw [hS, bits_andNot (by omega) (by omega)]
    have := impl_CountFixed_ev w h 0 (cpl w h n)
    rw [show (0 : Int) = ((0 : Nat) : Int) from rfl, cfI_nat hg (Nat.two_pow_pos _) (cpl_lt w h n) (fun i hi => by simp at hi)] at this
    rw [ctI_nat hg hn]
    exact Ev.bind this (Ev.ret rfl)
  · unfold ctI
    rw [if_neg e]
theorem sumAbs_map_add (f g : Nat → Int) : ∀ l : List Nat, sumAbs (l.map fun j => f j + g j) ≤ sumAbs (l.map f) + sumAbs (l.map g)
  | [] => by simp [sumAbs]
  | x :: l => by
    have := sumAbs_map_add f g l
    simp only [List.map_cons, sumAbs_cons]
    omega
theorem sumAbs_dl (c : Nat) : ∀ l : List Nat, (c ∉ l → sumAbs (l.map fun j => dl j c) = 0) ∧ (l.Nodup → sumAbs (l.map fun j => dl j c) ≤ 1)
  | [] => by simp [sumAbs]
  | x :: l => by
    obtain ⟨h1, h2⟩ := sumAbs_dl c l
    simp only [List.map_cons, sumAbs_cons]
    refine ⟨fun hc => ?_, fun hn => ?_⟩
    · rw [List.mem_cons, not_or] at hc
      rw [h1 hc.2, dl_ne (Ne.symm hc.1)]
      rfl
    · rw [List.nodup_cons] at hn
      by_cases e : x = c
      · subst e
        rw [h1 hn.1, dl_self]
        decide
      · have := h2 hn.2
        rw [dl_ne e]
        simpa using this
theorem sumAbs_neg (f : Nat → Int) : ∀ l : List Nat, sumAbs (l.map fun j => -f j) = sumAbs (l.map f)
  | [] => rfl
  | x :: l => by simp only [List.map_cons, sumAbs_cons, sumAbs_neg f l]; omega
theorem sumAbs_row (V c : Nat) : ∀ L : List Nat, sumAbs (dlist V (rowS c L)) ≤ 2 * L.length
  | [] => by
    have : dlist V (rowS c []) = (List.range V).map fun _ => (0 : Int) := by unfold dlist; exact List.map_congr_left fun j _ => rfl
    rw [this]
    have z : ∀ l : List Nat, sumAbs (l.map fun _ => (0 : Int)) = 0 := by
      intro l
      induction l with
      | nil => rfl
      | cons x l ih => rw [List.map_cons, sumAbs_cons, ih]; rfl
    rw [z]
    omega
  | x :: L => by
    have ih := sumAbs_row V c L
    have e : dlist V (rowS c (x :: L)) = (List.range V).map fun j => dl j c + (-dl j x + rowS c L j) := by
      unfold dlist
      refine List.map_congr_left fun j _ => ?_
      simp only [rowS, List.map_cons, List.sum_cons]
      omega
    rw [e]
    have a1 : sumAbs ((List.range V).map fun j => dl j c + (-dl j x + rowS c L j)) ≤ sumAbs ((List.range V).map fun j => dl j c) + sumAbs ((List.range V).map fun j => -dl j x + rowS c L j) := sumAbs_map_add (fun j => dl j c) (fun j => -dl j x + rowS c L j) _
    have a2 : sumAbs ((List.range V).map fun j => -dl j x + rowS c L j) ≤ sumAbs ((List.range V).map fun j => -dl j x) + sumAbs ((List.range V).map (rowS c L)) := sumAbs_map_add (fun j => -dl j x) (rowS c L) _
    have a3 := (sumAbs_dl c (List.range V)).2 List.nodup_range
    have a4 := (sumAbs_dl x (List.range V)).2 List.nodup_range
    have a5 : sumAbs ((List.range V).map fun j => -dl j x) = sumAbs ((List.range V).map fun j => dl j x) := sumAbs_neg (fun j => dl j x) _
    unfold dlist at ih
    rw [List.length_cons]
    omega
theorem lap_square {w h : Int} {n : Nat} (hg : gridOk w h = true) (hn : n < 2 ^ gapsN w h) : squareOk (lapN w h n) = true := by
  have h16 := cellsN_le w h
  unfold squareOk
  rw [Bool.and_eq_true, decide_eq_true_eq, List.all_eq_true, lapN_len]
  refine ⟨h16, fun row hr => ?_⟩
  have hl := lapN_rows hr
  unfold lapN mat at hr
  obtain ⟨c, hc, rfl⟩ := List.mem_map.1 hr
  have hc := List.mem_range.1 hc
  have hrow := lap_row hg (n := n) hc
  have h4 := waysN_len w h n c
  have hnl := nbs_len w h n c
  have hs := sumAbs_row (cellsN w h) c (nbs w h n c)
  rw [hrow] at hs
  unfold rowOk
  simp only [Bool.and_eq_true, decide_eq_true_eq, List.all_eq_true]
  refine ⟨⟨hl, fun x hx => ?_⟩, by omega⟩
  rw [← hrow] at hx
  unfold dlist at hx
  obtain ⟨j, _, rfl⟩ := List.mem_map.1 hx
  have := rowS_bd c j (nbs w h n c)
  unfold small
  rw [decide_eq_true_eq]
  omega
/-- The Laplacian's first minor. -/
theorem l11_lap {w h : Int} {n : Nat} (hg : gridOk w h = true) (hn : n < 2 ^ gapsN w h) : Ev (fun k => spec_l11Trees.f k (minorL (lapN w h n) 0)) ((ctN w h n : Nat) : Int) := by
  have hV := cells_pos hg
  have h16 := cellsN_le w h
  have h24 := gapsN_le w h
  obtain ⟨v, hv⟩ : ∃ v, cellsN w h = v + 1 := ⟨cellsN w h - 1, by omega⟩
  have hH : Heavy v (pB (ends w h) (gapsN w h) id n.testBit) := pm_heavy (V := cellsN w h) (fun x hx => by show x ≤ v; omega) (gr_grid w h)
  have htr := pm_trace (e := ends w h) (E := gapsN w h) (n := v) (P := id) (U := n.testBit)
  have h11 := l11_ev hH (by omega) (by omega)
  have ht := trees_lpl (b := cpl w h n) (k := 0) (gr_grid w h) (show 0 < cellsN w h by omega) (cpl_lt w h n)
  have he : dt v (pB (ends w h) (gapsN w h) id n.testBit) = ((ctN w h n : Nat) : Int) := by
    unfold ctN totN
    rw [ht, show cellsN w h - 1 = v by omega]
    refine dt_congr fun i j _ _ => ?_
    unfold pB pm er ec lpl pm
    simp only [Nat.not_lt_zero, if_false]
    refine sumTo_congr fun g hg' => ?_
    rw [cpl_und hg']
  rw [he] at h11
  unfold lapN
  rw [hv, minor_mat0]
  exact h11
theorem spec_CountTrees_ev (w h o : Int) : Ev (fun k => spec_CountTrees.f k w h o) (ctI w h o) := by
  unfold spec_CountTrees.f
  refine Ev.bnd0 (spec_MazeOk_eq ..) (Ev.ite (fun e => ?_) (fun e => Ev.ret ?_))
  · obtain ⟨hg, n, rfl, hn⟩ := mazeOk_iff.1 e
    have hV := cells_pos hg
    have hs := spec_LaplaceOf_ev w h n
    have hl : lapI w h n = lapN w h n := by unfold lapI; rw [if_pos e, Int.toNat_natCast]
    rw [hl] at hs
    have h16 := cellsN_le w h
    have hw := spec_WithoutRow_ev (lapN w h n) (by rw [lapN_len]; omega) 0
    have hww : withoutI (lapN w h n) 0 = minorL (lapN w h n) 0 := by
      unfold withoutI
      rw [if_pos ⟨lap_square hg hn, by omega, by rw [lapN_len]; omega⟩]
      rfl
    rw [hww] at hw
    rw [ctI_nat hg hn]
    exact Ev.bind hs (Ev.bind hw (Ev.bind (l11_lap hg hn) (Ev.ret rfl)))
  · unfold ctI
    rw [if_neg e]
/-- How many perfect mazes of a maze go through a gap. -/
def cwI (w h o g : Int) : Int := if mazeOk w h o = true ∧ openI o.toNat g = true then ctI w h o - ctI w h (setB o.toNat g.toNat false : Nat) else 0
theorem open_gap {w h : Int} {n : Nat} (hn : n < 2 ^ gapsN w h) {g : Int} (ho : openI n g = true) : ∃ x : Nat, g = x ∧ x < gapsN w h ∧ n.testBit x = true := by
  unfold openI at ho
  rw [Bool.and_eq_true, decide_eq_true_eq] at ho
  exact ⟨g.toNat, by omega, lt_of_testBit hn ho.2, ho.2⟩
theorem impl_IsPassage_ev (w h o g : Int) : impl_IsPassage.f w h o g = some (mazeOk w h o && openI o.toNat g) := by
  unfold impl_IsPassage.f
  rw [impl_MazeOk_eq, Option.bind_some]
  by_cases e : mazeOk w h o = true
  · obtain ⟨hg, n, rfl, hn⟩ := mazeOk_iff.1 e
    rw [if_pos e, impl_isGap_eq, Option.bind_some, e, Int.toNat_natCast, Bool.true_and]
    by_cases e2 : isGapI w h g = true
    · rw [if_pos e2, impl_isOpen_eq w h (open_small hn)]
      rfl
    · rw [if_neg e2]
      cases q : openI n g
      · rfl
      · exact absurd (open_isGap hn q) e2
  · rw [if_neg e, Bool.eq_false_iff.2 e]
    rfl
theorem spec_IsPassage_ev (w h o g : Int) : spec_IsPassage.f w h o g = some (mazeOk w h o && openI o.toNat g) := by
  by_cases e : mazeOk w h o = true
  · obtain ⟨hg, n, rfl, hn⟩ := mazeOk_iff.1 e
    rw [spec_IsPassage_eq hg hn, e, Int.toNat_natCast, Bool.true_and]
  · unfold spec_IsPassage.f
    rw [spec_MazeOk_eq, Option.bind_some, Bool.eq_false_iff.2 e]
    simp
theorem impl_CountWith_ev (w h o g : Int) : Ev (fun k => impl_CountWith.f k w h o g) (cwI w h o g) := by
  have hr := ctI_range w h o
  have hr2 := ctI_range w h (setB o.toNat g.toNat false : Nat)
  unfold impl_CountWith.f cwI
  refine Ev.bnd0 (impl_IsPassage_ev w h o g) (Ev.ite (fun e => ?_) (fun e => ?_))
  · rw [Bool.and_eq_true] at e
    obtain ⟨hg, n, rfl, hn⟩ := mazeOk_iff.1 e.1
    have e2 := e.2
    rw [Int.toNat_natCast] at e2 hr2 ⊢
    obtain ⟨x, rfl, hx, hb⟩ := open_gap hn e2
    have h24 := gapsN_le w h
    rw [if_pos ⟨e.1, e2⟩, Int.toNat_natCast]
    rw [Int.toNat_natCast] at hr2
    refine Ev.bind (impl_CountTrees_ev w h n) (Ev.bnd0 (impl_with_eq w h (open_small hn) (show x < 24 by omega) false) (Ev.bind (impl_CountTrees_ev w h _) (Ev.ret ?_)))
    show wrap64 (ctI w h (n : Int) - ctI w h ((setB n x false : Nat) : Int)) = _
    exact wrap64_id (by omega) (by omega)
  · rw [if_neg (by rw [Bool.and_eq_true] at e; exact e)]
    exact Ev.ret rfl
theorem spec_CountWith_ev (w h o g : Int) : Ev (fun k => spec_CountWith.f k w h o g) (cwI w h o g) := by
  have hr := ctI_range w h o
  have hr2 := ctI_range w h (setB o.toNat g.toNat false : Nat)
  unfold spec_CountWith.f cwI
  refine Ev.bnd0 (spec_IsPassage_ev w h o g) (Ev.ite (fun e => ?_) (fun e => ?_))
  · rw [Bool.and_eq_true] at e
    obtain ⟨hg, n, rfl, hn⟩ := mazeOk_iff.1 e.1
    have e2 := e.2
    rw [Int.toNat_natCast] at e2 hr2 ⊢
    obtain ⟨x, rfl, hx, hb⟩ := open_gap hn e2
    rw [if_pos ⟨e.1, e2⟩, Int.toNat_natCast]
    rw [Int.toNat_natCast] at hr2
    refine Ev.bind (spec_SetGap_ev hg hn hx false) (Ev.bind (spec_CountTrees_ev w h n) (Ev.bind (spec_CountTrees_ev w h _) (Ev.ret ?_)))
    show wrap64 (ctI w h (n : Int) - ctI w h ((setB n x false : Nat) : Int)) = _
    exact wrap64_id (by omega) (by omega)
  · rw [if_neg (by rw [Bool.and_eq_true] at e; exact e)]
    exact Ev.ret rfl
end Go.Proofs.Ytoohcdfokejkdaa.P
namespace Go.Proofs.Ytoohcdfokejkdaa.P
open Go.RowKit Go.Proofs.YtoohcdfokejkdaaW.PrintWords Go.Proofs.Ytoohcdfokejkdaa.Sup
set_option linter.unusedVariables false
set_option linter.unusedSimpArgs false

theorem FnExactCountWith_pure (a0_0 a0_1 a0_2 : Int) (w0_0 : InR a0_0) (w0_1 : InR a0_1) (w0_2 : InR a0_2) (a1 : Int) (h1 : InR a1) : ∃ k, laws_FnExactCountWith.f k a0_0 a0_1 a0_2 a1 = some true := by
  refine Ev.rounds ?_
  unfold laws_FnExactCountWith.f
  have ht : laws_toMaze.f a0_0 a0_1 a0_2 = some (a0_0, a0_1, a0_2) := rfl
  exact Ev.bnd0 ht (Ev.bind (spec_CountWith_ev ..) (Ev.bnd0 ht (Ev.bind (impl_CountWith_ev ..) (Ev.tt rfl (Ev.ret rfl)))))
end Go.Proofs.Ytoohcdfokejkdaa.P
namespace Go.Proofs.Ytoohcdfokejkdaa.fnExactCountWith
open Go.ChangeShapes Go.WideShapes Go.ChangeAt Go.RowKit Go.Proofs.YtoohcdfokejkdaaW.PrintWords Go.Proofs.Ytoohcdfokejkdaa.Sup
open Go.ChangeMaps (open_string shut_string)
set_option linter.unusedVariables false
theorem own : ownKnob Try.prog.godebug = none := by kernel_rfl
theorem laidOut : laidOutB Try.prog = true := by kernel_rfl
set_option maxRecDepth 100000 in
theorem lifted (os : Os) (started : os.Started) (H : Type) (enc : TypeId × Value → H) :
    ReturnsInHanded {} Try.checked os 13 .any (Rows.fnExactCountWithSpec.pre6 enc Try.prog Try.f13 Rows.fnExactCountWithRow.domain false) (Rows.fnExactCountWithSpec.post enc Try.prog Try.f13 false true false false) := by
  refine returnsInHanded_of_change_sized (C := Try.checked) own started (by kernel_rfl) Try.func13
    (ChangeSpec.witness6 (enc := enc) (C := Try.checked) false ⟨#[], #[.agg #[.int .i64 0, .int .i64 0, .int .i64 0], .int .i64 0], []⟩ 8 (by kernel_rfl) (by kernel_rfl) (by kernel_rfl) (by kernel_rfl)) ?_
  intro W base args ds gs before hval0 hW hcnd hsz0 _
  have hsz : (DataW.weightsEach Try.prog (Try.f13.params.toList ++ Rows.fnExactCountWithSpec.plain.varTypes Try.prog) (ds ++ gs)).all (· ≤ reachBytes) = true := hsz0
  have hval : ∀ (j : Nat) t v, Try.f13.params[j]? = some t → args[j]? = some v → Value.okWide Try.prog W .any base t v := hval0
  have hW' := hW
  obtain ⟨p, q, hA0, hV, rfl, hfz, hnd⟩ := hW
  have hA : DataW.TrodAll enc Try.prog W 0 (fun _ => true) true Try.f13.params.toList args.toList ds p := hA0
  rw [Try.params13] at hA hval hsz
  obtain ⟨v0, vs0, d0, ds0, p0, q0, hargs, rfl, rfl, h0, r0⟩ := trodAll_cons hA
  obtain ⟨v1, vs1, d1, ds1, p1, q1, rfl, rfl, rfl, h1, r1⟩ := trodAll_cons r0
  obtain ⟨rfl, rfl, rfl⟩ := trodAll_nil r1
  obtain rfl : args = #[v0, v1] := by cases args; simp_all
  obtain ⟨rfl, rfl⟩ := trodVars_none hV
  have k0 := h0
  have lt0 : ∀ x ∈ p0, x.block < W.heap.size := by obtain ⟨m, hm⟩ := k0; exact DataW.trod_lt m _ _ _ hm
  obtain ⟨a0_0, a0_1, a0_2, rfl, w0_0, w0_1, w0_2⟩ := open3 Try.underlying38 Try.underlying36 (by kernel_rfl) (by kernel_rfl) (by kernel_rfl) rfl rfl rfl rfl (by kernel_rfl) (by kernel_rfl) (by kernel_rfl) (by kernel_rfl) (by kernel_rfl) (hval 0 38 v0 rfl rfl) h0
  have k1 := h1
  have lt1 : ∀ x ∈ p1, x.block < W.heap.size := by obtain ⟨m, hm⟩ := k1; exact DataW.trod_lt m _ _ _ hm
  obtain ⟨a1, rfl, rfl, rfl, w1⟩ := open_int Try.underlying3 (hval 1 3 v1 rfl rfl) h1
  clear hA0 hval0 hsz0 hsz
  obtain ⟨k, hf⟩ := P.FnExactCountWith_pure a0_0 a0_1 a0_2 w0_0 w0_1 w0_2 a1 (inR_of_wf w1)
  refine (P.laws_FnExactCountWith.calls k a0_0 a0_1 a0_2 a1 true W  hf).mono fun e W' ⟨he, bel0⟩ => ?_
  have bel : Below W.heap.size W W' := bel0
  subst he
  exact ⟨_, rfl, _, _, _, [], _, [], hW', trodAll_mk1 (shut_bool Try.underlying4 _), (trodAll_cons_mk (Below.trod laidOut (by kernel_rfl) (of_decide_eq_true (by kernel_rfl)) k0 bel lt0) (trodAll_cons_mk (Below.trod laidOut (by kernel_rfl) (of_decide_eq_true (by kernel_rfl)) k1 bel lt1) trodAll_mk0)), rfl, bel.frame _, fun h => by cases h⟩
theorem over : Rows.fnExactCountWithRow.holds Try.pinned (OpenSpec.ofChange Rows.fnExactCountWithSpec) :=
  OpenClaim.holds_of_wide 13 Try.f13 rfl rfl rfl rfl rfl rfl rfl ⟨rfl, rfl, rfl, rfl, rfl⟩ rfl rfl rfl rfl rfl (by kernel_rfl) Try.func13 (by kernel_rfl)
    (of_decide_eq_true (by kernel_rfl)) (by unfold Func.isWrapper; first | (rw [if_pos (by decide +kernel)]; kernel_rfl) | (rw [if_neg (by decide +kernel)]; exact ⟨rfl, rfl⟩))
    (fun os started H enc _ => lifted os started H enc)
theorem proved : Rows.FnExactCountWithSaid := over
end Go.Proofs.Ytoohcdfokejkdaa.fnExactCountWith
namespace Go.Proofs.Ytoohcdfokejkdaa
/-- The row, under a short name, for the claim. -/
theorem fnExactCountWith_holds : Rows.FnExactCountWithSaid := fnExactCountWith.proved
#print axioms fnExactCountWith_holds
end Go.Proofs.Ytoohcdfokejkdaa
