/- The statement FnNumbered of the seat, out of its plain form (FnNumbered_pure) and the walk of its Go function. Part 6 of 7: each Go function's walk, then the plain lemmas, then the row. No condition: it holds for every input. -/
import Derived.Test.YtoohcdfokejkdaaBFnNumbered5
import Derived.Deep.Matrix
import Derived.Lib.SmallJoins
import Derived.SizedLaws
namespace Go.Proofs.Ytoohcdfokejkdaa.Sup
open Go.ChangeShapes Go.WideShapes Go.ChangeAt Go.RowKit Go.Joins Go.Proofs.YtoohcdfokejkdaaW.PrintWords
set_option linter.unusedVariables false
set_option linter.unusedSimpArgs false

theorem u8_of_wf {a : Int} (h : (Lit.int .u8 a).wf = true) : 0 ≤ a ∧ a ≤ 255 := by
  simp only [Lit.wf, IntKind.min, IntKind.max, IntKind.signed, IntKind.bits, Bool.and_eq_true, decide_eq_true_eq] at h
  simp at h
  omega

section
variable {H : Type} {enc : TypeId × Value → H} {P : Program} {w : World} {base : Nat} {spare : Nat → Bool} {held : Bool}

end

def IsRow (k : IntKind) (w : World) (a : Option Addr) (len cap : Nat) (zs : List Int) : Prop :=
  (a = none ∧ len = 0 ∧ cap = 0 ∧ zs = []) ∨
  ∃ x, a = some x ∧ len ≤ cap ∧ cap ≤ maxLen ∧ zs.length = cap ∧ (∀ i, i < zs.length → w.cell? (x.add i) = some (.int k (zs.getD i 0))) ∧ ∀ n ∈ zs, (Lit.int k n).wf = true

end Go.Proofs.Ytoohcdfokejkdaa.Sup
namespace Go.Proofs.Ytoohcdfokejkdaa.P
open Go.RowKit Go.Proofs.YtoohcdfokejkdaaW.PrintWords
set_option linter.unusedVariables false
set_option linter.unusedSimpArgs false
section
variable {α β : Type}
theorem Ev.tt {c : Prop} [Decidable c] {g f : Nat → Option α} {r : α} (h : c) (e : Ev g r) : Ev (fun k => if c then g k else f k) r := by simpa only [if_pos h] using e
theorem Ev.ff {c : Prop} [Decidable c] {g f : Nat → Option α} {r : α} (h : ¬ c) (e : Ev f r) : Ev (fun k => if c then g k else f k) r := by simpa only [if_neg h] using e
theorem Ev.ite {c : Prop} [Decidable c] {g f : Nat → Option α} {r : α} (e1 : c → Ev g r) (e2 : ¬ c → Ev f r) : Ev (fun k => if c then g k else f k) r := by
  by_cases h : c
  · exact Ev.tt h (e1 h)
  · exact Ev.ff h (e2 h)
theorem Ev.bnd0 {o : Option α} {f : Nat → α → Option β} {a : α} {r : β} (h : o = some a) (k : Ev (fun n => f n a) r) : Ev (fun n => o.bind (f n)) r := by subst h; exact k
theorem Ev.ret {a r : α} (h : a = r) : Ev (fun _ => some a) r := ⟨0, fun _ _ => by rw [h]⟩
theorem Ev.eq {g : Nat → Option α} {r r' : α} (h : Ev g r) (e : r = r') : Ev g r' := e ▸ h
end
theorem wrap64_id {x : Int} (h0 : -9223372036854775808 ≤ x) (h1 : x ≤ 9223372036854775807) : wrap64 x = x := by unfold wrap64; omega
theorem wsucc {i : Nat} (h : i < 4611686018427387904) : wrap64 ((i : Int) + 1) = ((i + 1 : Nat) : Int) := by unfold wrap64; omega
theorem rd_nat (l : List Int) (i : Nat) : rd l (i : Int) = l.getD i 0 := rfl
theorem rd_get {l : List Int} {i : Nat} (h : i < l.length) : rd l (i : Int) = l[i] := by simp [rd_nat, List.getD_eq_getElem?_getD, List.getElem?_eq_getElem h]
end Go.Proofs.Ytoohcdfokejkdaa.P
namespace Go.Proofs.Ytoohcdfokejkdaa.P
open Go.RowKit Go.Proofs.YtoohcdfokejkdaaW.PrintWords
set_option linter.unusedVariables false
set_option linter.unusedSimpArgs false

theorem l01In_eq (a b c : Int) : spec_l01In.f a b c = some (decide (b ≤ a ∧ a ≤ c)) := by
  unfold spec_l01In.f
  by_cases h : a ≥ b
  · rw [if_pos h]; congr 1; simp; omega
  · rw [if_neg h]; congr 1; simp; omega

end Go.Proofs.Ytoohcdfokejkdaa.P
namespace Go.Proofs.Ytoohcdfokejkdaa.P
open Go Go.RowKit Go.Proofs.YtoohcdfokejkdaaW.PrintWords
set_option linter.unusedVariables false
set_option linter.unusedSimpArgs false

theorem wrap_small {n : Nat} (h : n < 9223372036854775808) : IntKind.i64.wrap (n : Int) = n := by
  rw [IntKind.wrap_i64]; omega
theorem shl_pow {k : Nat} (h : k < 63) : shl .i64 1 (k : Int) = ((2 ^ k : Nat) : Int) := by
  have h1 : (2 : Nat) ^ k < 2 ^ 63 := Nat.pow_lt_pow_right (by decide) h
  unfold shl
  rw [show min (k : Int).toNat IntKind.i64.bits = k by simp [IntKind.bits]; omega, Int.one_mul]
  have := wrap_small (n := 2 ^ k) (by simpa using h1)
  simpa using this
theorem bits_and {a b : Nat} (ha : a < 4611686018427387904) (hb : b < 4611686018427387904) : Go.bits .and .i64 a b = ((a &&& b : Nat) : Int) :=
  (bits_nat .i64 62 (by decide) (fun n h0 h1 => by rw [IntKind.wrap_i64]; omega) a b (by simpa using ha) (by simpa using hb)).1
theorem bits_or {a b : Nat} (ha : a < 4611686018427387904) (hb : b < 4611686018427387904) : Go.bits .or .i64 a b = ((a ||| b : Nat) : Int) :=
  (bits_nat .i64 62 (by decide) (fun n h0 h1 => by rw [IntKind.wrap_i64]; omega) a b (by simpa using ha) (by simpa using hb)).2
/-- a without the bits of b. -/
def andNot (a b : Nat) : Nat := a ^^^ (a &&& b)
theorem testBit_andNot (a b i : Nat) : (andNot a b).testBit i = (a.testBit i && !b.testBit i) := by
  simp [andNot]
  cases a.testBit i <;> cases b.testBit i <;> rfl
theorem andNot_le (a b : Nat) : andNot a b ≤ a := by
  apply Nat.le_of_testBit
  intro i h
  rw [testBit_andNot] at h
  simp at h
  exact h.1
theorem bits_andNot {a b : Nat} (ha : a < 4611686018427387904) (hb : b < 4611686018427387904) : Go.bits .andNot .i64 a b = ((andNot a b : Nat) : Int) := by
  have e : (BitVec.ofInt 64 (a : Int) &&& ~~~ BitVec.ofInt 64 (b : Int)).toNat = andNot a b := by
    rw [BitVec.ofInt_natCast, BitVec.ofInt_natCast]
    apply Nat.eq_of_testBit_eq
    intro i
    rw [testBit_andNot, BitVec.testBit_toNat, BitVec.getLsbD_and, BitVec.getLsbD_not, BitVec.getLsbD_ofNat, BitVec.getLsbD_ofNat]
    by_cases h : i < 64
    · simp [h]
    · have : a.testBit i = false := Nat.testBit_lt_two_pow (Nat.lt_of_lt_of_le (by simpa using ha : a < 2 ^ 62) (Nat.pow_le_pow_right (by decide) (by omega)))
      simp [h, this]
  show IntKind.i64.wrap ((BitVec.ofInt 64 (a : Int) &&& ~~~ BitVec.ofInt 64 (b : Int)).toNat : Int) = _
  rw [e]
  exact wrap_small (by have := andNot_le a b; omega)
theorem shr_nat {m : Nat} (hm : m < 4611686018427387904) (k : Nat) : shr .i64 (m : Int) (k : Int) = ((m / 2 ^ k : Nat) : Int) := by
  unfold shr
  by_cases h : k ≤ 64
  · rw [show min (k : Int).toNat IntKind.i64.bits = k by simp [IntKind.bits]; omega]
    simp
  · rw [show min (k : Int).toNat IntKind.i64.bits = 64 by simp [IntKind.bits]; omega]
    have h1 : m / 2 ^ k = 0 := Nat.div_eq_of_lt (Nat.lt_of_lt_of_le (by simpa using hm : m < 2 ^ 62) (Nat.pow_le_pow_right (by decide) (by omega)))
    rw [h1]
    have : (m : Int) / 2 ^ 64 = ((m / 2 ^ 64 : Nat) : Int) := by simp
    rw [this, Nat.div_eq_of_lt (by omega)]
/-- The test of a bit, as the program and the reference make it. -/
theorem bit_test {m : Nat} (hm : m < 4611686018427387904) (k : Nat) (c : Int) : (Go.bits .and .i64 (shr .i64 (m : Int) (k : Int)) 1 == c) = (((m.testBit k).toNat : Int) == c) := by
  rw [shr_nat hm, show (1 : Int) = ((1 : Nat) : Int) from rfl, bits_and (Nat.lt_of_le_of_lt (Nat.div_le_self _ _) hm) (by decide)]
  congr 2
  rw [Nat.testBit_eq_decide_div_mod_eq, Nat.and_one_is_mod]
  have := Nat.mod_two_eq_zero_or_one (m / 2 ^ k)
  rcases this with h | h <;> simp [h]
theorem bit_one {m : Nat} (hm : m < 4611686018427387904) (k : Nat) : (Go.bits .and .i64 (shr .i64 (m : Int) (k : Int)) 1 == 1) = m.testBit k := by
  rw [bit_test hm]
  cases m.testBit k <;> rfl
theorem bit_zero {m : Nat} (hm : m < 4611686018427387904) (k : Nat) : (Go.bits .and .i64 (shr .i64 (m : Int) (k : Int)) 1 == 0) = !m.testBit k := by
  rw [bit_test hm]
  cases m.testBit k <;> rfl
/-- A number with one bit set, or not. -/
def setB (o g : Nat) (b : Bool) : Nat := if b then o ||| 2 ^ g else andNot o (2 ^ g)
theorem testBit_setB (o g : Nat) (b : Bool) (i : Nat) : (setB o g b).testBit i = if i = g then b else o.testBit i := by
  unfold setB
  cases b
  · simp only [Bool.false_eq_true, if_false, testBit_andNot, Nat.testBit_two_pow]
    by_cases h : i = g
    · simp [h]
    · simp [h, show ¬ g = i from fun e => h e.symm]
  · simp only [if_true, Nat.testBit_or, Nat.testBit_two_pow]
    by_cases h : i = g
    · simp [h]
    · simp [h, show ¬ g = i from fun e => h e.symm]
theorem setB_lt {o g n : Nat} (b : Bool) (ho : o < 2 ^ n) (hg : g < n) : setB o g b < 2 ^ n := by
  unfold setB
  split
  · exact Nat.or_lt_two_pow ho (Nat.pow_lt_pow_right (by decide) hg)
  · exact Nat.lt_of_le_of_lt (andNot_le _ _) ho
end Go.Proofs.Ytoohcdfokejkdaa.P
namespace Go.Proofs.Ytoohcdfokejkdaa.P
open Go.RowKit Go.Proofs.YtoohcdfokejkdaaW.PrintWords
set_option linter.unusedVariables false
set_option linter.unusedSimpArgs false

/-- The number of set bits of s under n. -/
def pop : Nat → Nat → Nat
  | 0, _ => 0
  | n + 1, s => pop n s + (s.testBit n).toNat
theorem pop_le (n s : Nat) : pop n s ≤ n := by
  induction n with
  | zero => simp [pop]
  | succ n ih => simp only [pop]; have := Bool.toNat_le (s.testBit n); omega
theorem pop_congr {n s t : Nat} (h : ∀ i, i < n → s.testBit i = t.testBit i) : pop n s = pop n t := by
  induction n with
  | zero => rfl
  | succ n ih => simp only [pop]; rw [ih (fun i hi => h i (by omega)), h n (by omega)]
theorem pop_add (m n s : Nat) : pop (m + n) s = pop m s + pop n (s / 2 ^ m) := by
  induction n with
  | zero => simp [pop]
  | succ n ih =>
    rw [← Nat.add_assoc]
    simp only [pop]
    rw [ih, Nat.add_assoc, Nat.testBit_div_two_pow, Nat.add_comm n m]
theorem pop_mod (n s : Nat) : pop n (s % 2 ^ n) = pop n s := pop_congr fun i hi => by rw [Nat.testBit_mod_two_pow]; simp [hi]
theorem pop_big {n m s : Nat} (h : s < 2 ^ n) (hm : n ≤ m) : pop m s = pop n s := by
  obtain ⟨d, rfl⟩ := Nat.exists_eq_add_of_le hm
  rw [pop_add, Nat.div_eq_of_lt h]
  have : pop d 0 = 0 := by
    induction d with
    | zero => rfl
    | succ d ih => simp only [pop, Nat.zero_testBit]; rw [ih (by omega)]; rfl
  rw [this, Nat.add_zero]
/-- A valid grid. -/
def gridOk (w h : Int) : Bool := decide (1 ≤ w ∧ w ≤ 4 ∧ 1 ≤ h ∧ h ≤ 4)
theorem gridOk_iff {w h : Int} : gridOk w h = true ↔ 1 ≤ w ∧ w ≤ 4 ∧ 1 ≤ h ∧ h ≤ 4 := by simp [gridOk]
/-- The sixteen grids. -/
theorem grid_cases {w h : Int} (hg : gridOk w h = true) : (w = 1 ∨ w = 2 ∨ w = 3 ∨ w = 4) ∧ (h = 1 ∨ h = 2 ∨ h = 3 ∨ h = 4) := by
  rw [gridOk_iff] at hg
  omega
def cellsOf (w h : Int) : Int := if gridOk w h then w * h else 0
def eastOf (w h : Int) : Int := (w - 1) * h
def gapsOf (w h : Int) : Int := if gridOk w h then (w - 1) * h + w * (h - 1) else 0
theorem cellsOf_range (w h : Int) : 0 ≤ cellsOf w h ∧ cellsOf w h ≤ 16 := by
  unfold cellsOf
  split
  · rename_i hg
    obtain ⟨h1 | h1 | h1 | h1, h2 | h2 | h2 | h2⟩ := grid_cases hg <;> subst h1 <;> subst h2 <;> decide
  · omega
theorem gapsOf_range (w h : Int) : 0 ≤ gapsOf w h ∧ gapsOf w h ≤ 24 := by
  unfold gapsOf
  split
  · rename_i hg
    obtain ⟨h1 | h1 | h1 | h1, h2 | h2 | h2 | h2⟩ := grid_cases hg <;> subst h1 <;> subst h2 <;> decide
  · omega
theorem pow_le {n : Int} (h0 : 0 ≤ n) (h1 : n ≤ 24) : (1 : Int) ≤ 2 ^ n.toNat ∧ (2 : Int) ^ n.toNat ≤ 16777216 := by
  obtain ⟨m, rfl⟩ := Int.eq_ofNat_of_zero_le h0
  have : m ≤ 24 := by omega
  clear h0 h1
  revert m
  decide +kernel
def isCellI (w h c : Int) : Bool := decide (0 ≤ c ∧ c < cellsOf w h)
/-- The neighbor of a cell in a direction. -/
def nbI (w h c d : Int) : Int :=
  if 0 ≤ c ∧ c < cellsOf w h then
    (if d = 0 ∧ 0 < c / w then c - w else if d = 1 ∧ c % w < w - 1 then c + 1 else if d = 2 ∧ c / w < h - 1 then c + w else if d = 3 ∧ 0 < c % w then c - 1 else -1)
  else -1
theorem cellsOf_valid {w h c : Int} (h1 : 0 ≤ c) (h2 : c < cellsOf w h) : gridOk w h = true ∧ cellsOf w h = w * h := by
  unfold cellsOf at *
  by_cases hg : gridOk w h = true
  · exact ⟨hg, if_pos hg⟩
  · rw [if_neg hg] at h2; omega
/-- The number of gaps, as a natural number. -/
def gapsN (w h : Int) : Nat := (gapsOf w h).toNat
theorem gapsN_le (w h : Int) : gapsN w h ≤ 24 := by have := gapsOf_range w h; unfold gapsN; omega
theorem gapsN_cast (w h : Int) : ((gapsN w h : Nat) : Int) = gapsOf w h := by have := gapsOf_range w h; unfold gapsN; omega
/-- A valid maze. -/
def mazeOk (w h o : Int) : Bool := gridOk w h && decide (0 ≤ o ∧ o < 2 ^ gapsN w h)
theorem mazeOk_iff {w h o : Int} : mazeOk w h o = true ↔ gridOk w h = true ∧ ∃ n : Nat, o = (n : Int) ∧ n < 2 ^ gapsN w h := by
  unfold mazeOk
  simp only [Bool.and_eq_true, decide_eq_true_eq]
  constructor
  · rintro ⟨h1, h2, h3⟩
    obtain ⟨n, rfl⟩ := Int.eq_ofNat_of_zero_le h2
    exact ⟨h1, n, rfl, by exact_mod_cast h3⟩
  · rintro ⟨h1, n, rfl, h3⟩
    exact ⟨h1, by omega, by exact_mod_cast h3⟩
theorem open_small {w h : Int} {n : Nat} (hn : n < 2 ^ gapsN w h) : n < 16777216 := Nat.lt_of_lt_of_le hn (Nat.pow_le_pow_right (by decide) (gapsN_le w h))
/-- Is a gap open? -/
def openI (n : Nat) (g : Int) : Bool := decide (0 ≤ g) && n.testBit g.toNat
theorem openI_nat' (n j : Nat) : openI n (j : Int) = n.testBit j := by simp [openI]
def isGapI (w h g : Int) : Bool := decide (0 ≤ g ∧ g < gapsOf w h)
theorem gapsOf_valid {w h g : Int} (h1 : 0 ≤ g) (h2 : g < gapsOf w h) : gridOk w h = true ∧ gapsOf w h = (w - 1) * h + w * (h - 1) := by
  unfold gapsOf at *
  by_cases hg : gridOk w h = true
  · exact ⟨hg, if_pos hg⟩
  · rw [if_neg hg] at h2; omega
/-- The gap between a cell and its neighbor. -/
def gapI (w h c d : Int) : Int :=
  if nbI w h c d < 0 then -1 else if d = 1 ∨ d = 3 then (min c (nbI w h c d)) / w * (w - 1) + (min c (nbI w h c d)) % w else (w - 1) * h + min c (nbI w h c d)
/-- The ends of a gap. -/
def endsI (w h g : Int) : Int × Int :=
  if 0 ≤ g ∧ g < gapsOf w h then (if g < (w - 1) * h then (g / (w - 1) * w + g % (w - 1), g / (w - 1) * w + g % (w - 1) + 1) else (g - (w - 1) * h, g - (w - 1) * h + w)) else (-1, -1)
theorem nb_dir {w h c d : Int} (hn : 0 ≤ nbI w h c d) : (d = 0 ∨ d = 1 ∨ d = 2 ∨ d = 3) ∧ 0 ≤ c ∧ c < cellsOf w h := by
  unfold nbI at hn
  by_cases hc : 0 ≤ c ∧ c < cellsOf w h
  · rw [if_pos hc] at hn
    refine ⟨?_, hc⟩
    repeat' split at hn
    all_goals omega
  · rw [if_neg hc] at hn
    omega
theorem grid_nat {w h : Int} (hg : gridOk w h = true) : ∃ W H : Nat, w = W ∧ h = H ∧ 1 ≤ W ∧ W < 5 ∧ 1 ≤ H ∧ H < 5 := by
  have := gridOk_iff.1 hg
  exact ⟨w.toNat, h.toNat, by omega, by omega, by omega, by omega, by omega, by omega⟩
/-- What is to be known of a step: the other cell, the gap, and the way back. -/
def StepFacts (w h c d : Int) : Prop :=
  nbI w h c d = -1 ∧ gapI w h c d = -1 ∨
  (0 ≤ nbI w h c d ∧ nbI w h c d < cellsOf w h ∧ nbI w h c d ≠ c ∧ 0 ≤ gapI w h c d ∧ gapI w h c d < gapsOf w h ∧
    endsI w h (gapI w h c d) = (min c (nbI w h c d), max c (nbI w h c d)) ∧ nbI w h (nbI w h c d) ((d + 2) % 4) = c ∧ gapI w h (nbI w h c d) ((d + 2) % 4) = gapI w h c d)
instance (w h c d : Int) : Decidable (StepFacts w h c d) := by unfold StepFacts; infer_instance
theorem step_facts_all : ∀ W : Nat, W < 5 → ∀ H : Nat, H < 5 → ∀ c : Nat, c < 16 → ∀ d : Nat, d < 4 → StepFacts W H c d := by decide +kernel
theorem step_facts (w h c d : Int) : StepFacts w h c d := by
  by_cases hn : 0 ≤ nbI w h c d
  · obtain ⟨hd, h0, h1⟩ := nb_dir hn
    obtain ⟨hg, hcw⟩ := cellsOf_valid h0 h1
    obtain ⟨W, H, rfl, rfl, hW1, hW2, hH1, hH2⟩ := grid_nat hg
    have hcr := cellsOf_range (W : Int) (H : Int)
    have := step_facts_all W hW2 H hH2 c.toNat (by omega) d.toNat (by omega)
    rwa [show ((c.toNat : Nat) : Int) = c by omega, show ((d.toNat : Nat) : Int) = d by omega] at this
  · have hm : nbI w h c d = -1 := by
      unfold nbI at *
      by_cases hc : 0 ≤ c ∧ c < cellsOf w h
      · rw [if_pos hc] at *
        obtain ⟨hg, hcw⟩ := cellsOf_valid hc.1 hc.2
        have hgr := gridOk_iff.1 hg
        have hyw : c / w * w + c % w = c := by rw [Int.mul_comm]; exact Int.mul_ediv_add_emod c w
        have hx0 : 0 ≤ c % w := Int.emod_nonneg _ (by omega)
        repeat' split
        · rename_i hh
          rw [if_pos hh] at hn
          have : w ≤ c := by
            have : w * 1 ≤ w * (c / w) := Int.mul_le_mul_of_nonneg_left (by omega) (by omega)
            rw [Int.mul_comm (c / w)] at hyw
            omega
          omega
        · rename_i h1 hh
          rw [if_neg h1, if_pos hh] at hn
          omega
        · rename_i h1 h2 hh
          rw [if_neg h1, if_neg h2, if_pos hh] at hn
          omega
        · rename_i h1 h2 h3 hh
          rw [if_neg h1, if_neg h2, if_neg h3, if_pos hh] at hn
          have : 1 ≤ c := by
            have : 0 ≤ c / w * w := Int.mul_nonneg (Int.ediv_nonneg hc.1 (by omega)) (by omega)
            omega
          omega
        · rfl
      · rw [if_neg hc]
    refine .inl ⟨hm, ?_⟩
    unfold gapI
    rw [if_pos (by omega)]
def EndFacts (w h g : Int) : Prop :=
  0 ≤ g ∧ g < gapsOf w h → 0 ≤ (endsI w h g).1 ∧ (endsI w h g).1 < (endsI w h g).2 ∧ (endsI w h g).2 < cellsOf w h ∧
    (nbI w h (endsI w h g).1 1 = (endsI w h g).2 ∧ gapI w h (endsI w h g).1 1 = g ∨ nbI w h (endsI w h g).1 2 = (endsI w h g).2 ∧ gapI w h (endsI w h g).1 2 = g)
instance (w h g : Int) : Decidable (EndFacts w h g) := by unfold EndFacts; infer_instance
theorem end_facts_all : ∀ W : Nat, W < 5 → ∀ H : Nat, H < 5 → ∀ g : Nat, g < 24 → EndFacts W H g := by decide +kernel
theorem end_facts {w h g : Int} (h0 : 0 ≤ g) (h1 : g < gapsOf w h) : 0 ≤ (endsI w h g).1 ∧ (endsI w h g).1 < (endsI w h g).2 ∧ (endsI w h g).2 < cellsOf w h ∧
    (nbI w h (endsI w h g).1 1 = (endsI w h g).2 ∧ gapI w h (endsI w h g).1 1 = g ∨ nbI w h (endsI w h g).1 2 = (endsI w h g).2 ∧ gapI w h (endsI w h g).1 2 = g) := by
  obtain ⟨hg, _⟩ := gapsOf_valid h0 h1
  obtain ⟨W, H, rfl, rfl, hW1, hW2, hH1, hH2⟩ := grid_nat hg
  have hr := gapsOf_range (W : Int) (H : Int)
  have := end_facts_all W hW2 H hH2 g.toNat (by omega)
  rw [show ((g.toNat : Nat) : Int) = g by omega] at this
  exact this ⟨h0, h1⟩
theorem nb_lt {w h c d : Int} : nbI w h c d = -1 ∨ 0 ≤ nbI w h c d ∧ nbI w h c d < cellsOf w h := by
  rcases step_facts w h c d with h1 | h1
  · exact .inl h1.1
  · exact .inr ⟨h1.1, h1.2.1⟩
/-- The cell behind an open gap, or -1. -/
def stepI (w h : Int) (n : Nat) (c d : Int) : Int := if openI n (gapI w h c d) then nbI w h c d else -1
theorem step_lt {w h c d : Int} {n : Nat} : stepI w h n c d = -1 ∨ 0 ≤ stepI w h n c d ∧ stepI w h n c d < cellsOf w h := by
  unfold stepI
  split
  · exact nb_lt
  · exact .inl rfl
end Go.Proofs.Ytoohcdfokejkdaa.P
namespace Go.Proofs.Ytoohcdfokejkdaa.P
open Go.RowKit Go.Proofs.YtoohcdfokejkdaaW.PrintWords Go.Proofs.Ytoohcdfokejkdaa.Sup
set_option linter.unusedVariables false
set_option linter.unusedSimpArgs false

theorem spec_GridOk_eq (w h : Int) : spec_GridOk.f w h = some (gridOk w h) := by
  unfold spec_GridOk.f
  simp only [l01In_eq, Option.bind_some]
  unfold gridOk
  by_cases h1 : 1 ≤ w ∧ w ≤ 4
  · simp only [h1, and_self, decide_true, if_true, true_and]
  · have : ¬ (1 ≤ w ∧ w ≤ 4 ∧ 1 ≤ h ∧ h ≤ 4) := by omega
    rw [decide_eq_false h1, decide_eq_false this]; simp
theorem impl_GridOk_eq (w h : Int) : impl_GridOk.f w h = some (gridOk w h) := by
  unfold impl_GridOk.f gridOk
  repeat' split
  all_goals congr 1
  all_goals first | (rw [decide_eq_decide]; omega) | (symm; rw [decide_eq_false_iff_not]; omega)

theorem impl_CountCells_eq (w h : Int) : impl_CountCells.f w h = some (cellsOf w h) := by
  unfold impl_CountCells.f
  rw [impl_GridOk_eq, Option.bind_some]
  have := cellsOf_range w h
  unfold cellsOf at *
  by_cases hg : gridOk w h = true
  · rw [if_pos hg] at *
    rw [if_pos hg, wrap64_id (by omega) (by omega)]
  · rw [if_neg hg, if_neg hg]
theorem spec_CountCells_eq (w h : Int) : spec_CountCells.f w h = some (cellsOf w h) := by
  unfold spec_CountCells.f
  rw [spec_GridOk_eq, Option.bind_some]
  have := cellsOf_range w h
  unfold cellsOf at *
  by_cases hg : gridOk w h = true
  · rw [if_pos hg] at *
    rw [if_pos hg, wrap64_id (by omega) (by omega)]
  · rw [if_neg hg, if_neg hg]
theorem impl_CountGaps_eq (w h : Int) : impl_CountGaps.f w h = some (gapsOf w h) := by
  unfold impl_CountGaps.f
  rw [impl_GridOk_eq, Option.bind_some]
  unfold gapsOf
  by_cases hg : gridOk w h = true
  · rw [if_pos hg, if_pos hg]
    obtain ⟨h1 | h1 | h1 | h1, h2 | h2 | h2 | h2⟩ := grid_cases hg <;> subst h1 <;> subst h2 <;> simp [wrap64, eastOf]
  · rw [if_neg hg, if_neg hg]
theorem spec_l02East_eq {w h : Int} (hg : gridOk w h = true) : spec_l02East.f w h = some (eastOf w h) := by
  unfold spec_l02East.f eastOf
  obtain ⟨h1 | h1 | h1 | h1, h2 | h2 | h2 | h2⟩ := grid_cases hg <;> subst h1 <;> subst h2 <;> simp [wrap64, eastOf]
theorem spec_CountGaps_eq (w h : Int) : spec_CountGaps.f w h = some (gapsOf w h) := by
  unfold spec_CountGaps.f
  rw [spec_GridOk_eq, Option.bind_some]
  unfold gapsOf
  by_cases hg : gridOk w h = true
  · rw [if_pos hg, if_pos hg, spec_l02East_eq hg, Option.bind_some]
    obtain ⟨h1 | h1 | h1 | h1, h2 | h2 | h2 | h2⟩ := grid_cases hg <;> subst h1 <;> subst h2 <;> simp [wrap64, eastOf]
  · rw [if_neg hg, if_neg hg]

/-- 2 to the power of a small number. -/
theorem shl_one {n : Int} (h0 : 0 ≤ n) (h1 : n ≤ 24) : shl .i64 1 n = 2 ^ n.toNat := by
  obtain ⟨m, rfl⟩ := Int.eq_ofNat_of_zero_le h0
  have : m ≤ 24 := by omega
  clear h0 h1
  revert m
  decide +kernel
end Go.Proofs.Ytoohcdfokejkdaa.P
namespace Go.Proofs.Ytoohcdfokejkdaa.P
open Go.RowKit Go.Proofs.YtoohcdfokejkdaaW.PrintWords Go.Proofs.YtoohcdfokejkdaaW.PrintLast Go.Proofs.YtoohcdfokejkdaaW.PrintMore
attribute [local go_sem] max2_int min2_int max_two min_two max_three min_three max_four min_four   -- for this text's walks alone
set_option linter.unusedVariables false
set_option linter.unusedSimpArgs false

/-! ### spec_Neighbor: function 101 -/
end Go.Proofs.Ytoohcdfokejkdaa.P
namespace Go.Proofs.Ytoohcdfokejkdaa.P
open Go.RowKit Go.Proofs.YtoohcdfokejkdaaW.PrintWords
set_option linter.unusedVariables false
set_option linter.unusedSimpArgs false

theorem impl_isCell_eq (w h c : Int) : impl_isCell.f w h c = some (isCellI w h c) := by
  unfold impl_isCell.f isCellI
  rw [impl_CountCells_eq]
  by_cases hc : c ≥ 0
  · rw [if_pos hc, Option.bind_some]; congr 1; rw [decide_eq_decide]; omega
  · rw [if_neg hc]; congr 1; symm; rw [decide_eq_false_iff_not]; omega
theorem impl_Neighbor_ev (w h c d : Int) : Ev (fun k => impl_Neighbor.f k w h c d) (nbI w h c d) := by
  unfold impl_Neighbor.f nbI
  refine Ev.bnd0 (impl_isCell_eq w h c) ?_
  unfold isCellI
  by_cases hc : 0 ≤ c ∧ c < cellsOf w h
  · rw [if_pos hc]
    obtain ⟨hg, hcw⟩ := cellsOf_valid hc.1 hc.2
    have hcr := cellsOf_range w h
    have hgr := gridOk_iff.1 hg
    refine Ev.tt (by simpa using hc) (Ev.ff (by omega) ?_)
    have hx0 : 0 ≤ c % w := Int.emod_nonneg _ (by omega)
    have hx1 : c % w < w := Int.emod_lt_of_pos _ (by omega)
    have hy0 : 0 ≤ c / w := Int.ediv_nonneg hc.1 (by omega)
    have hy1 : c / w ≤ c := Int.ediv_le_self _ hc.1
    rw [Int.tmod_eq_emod_of_nonneg hc.1, Int.tdiv_eq_ediv_of_nonneg hc.1, wrap64_id (x := c / w) (by omega) (by omega)]
    generalize c % w = x at *
    generalize c / w = y at *
    have j2 : ∀ b : Bool, (d ≠ 0 ∨ ¬ 0 < y) → (d ≠ 1 ∨ ¬ x < w - 1) → (b = true ↔ d = 2 ∧ y < h - 1) → Ev (fun k => impl_Neighbor.j2 k c d x b w h) (if d = 2 ∧ y < h - 1 then c + w else if d = 3 ∧ 0 < x then c - 1 else -1) := by
      intro b _ _ hb
      refine Ev.step (fun _ => impl_Neighbor.j2.eq_2 ..) ?_
      refine Ev.ite (fun e => ?_) (fun e => ?_)
      · rw [if_pos (hb.1 e), wrap64_id (by omega) (by omega)]; exact Ev.ret rfl
      · rw [if_neg (fun h => e (hb.2 h))]
        refine Ev.ite (fun e3 => Ev.ite (fun e4 => ?_) (fun e4 => ?_)) (fun e3 => ?_)
        · rw [if_pos ⟨e3, e4⟩, wrap64_id (by omega) (by omega)]; exact Ev.ret rfl
        · rw [if_neg (fun h => e4 h.2)]; exact Ev.ret rfl
        · rw [if_neg (fun h => e3 h.1)]; exact Ev.ret rfl
    have j1 : ∀ b : Bool, (d ≠ 0 ∨ ¬ 0 < y) → (b = true ↔ d = 1 ∧ x < w - 1) → Ev (fun k => impl_Neighbor.j1 k c d x y b w h) (if d = 1 ∧ x < w - 1 then c + 1 else if d = 2 ∧ y < h - 1 then c + w else if d = 3 ∧ 0 < x then c - 1 else -1) := by
      intro b h0 hb
      refine Ev.step (fun _ => impl_Neighbor.j1.eq_2 ..) ?_
      refine Ev.ite (fun e => ?_) (fun e => ?_)
      · rw [if_pos (hb.1 e), wrap64_id (by omega) (by omega)]; exact Ev.ret rfl
      · have hn : ¬ (d = 1 ∧ x < w - 1) := fun h => e (hb.2 h)
        rw [if_neg hn]
        refine Ev.ite (fun e2 => ?_) (fun e2 => ?_)
        · refine j2 _ h0 (by omega) ?_
          rw [wrap64_id (by omega) (by omega)]
          simp [e2]
        · exact j2 _ h0 (by omega) (by simp [e2])
    have j0 : ∀ b : Bool, (b = true ↔ d = 0 ∧ 0 < y) → Ev (fun k => impl_Neighbor.j0 k c d x y b w h) (if d = 0 ∧ 0 < y then c - w else if d = 1 ∧ x < w - 1 then c + 1 else if d = 2 ∧ y < h - 1 then c + w else if d = 3 ∧ 0 < x then c - 1 else -1) := by
      intro b hb
      refine Ev.step (fun _ => impl_Neighbor.j0.eq_2 ..) ?_
      refine Ev.ite (fun e => ?_) (fun e => ?_)
      · rw [if_pos (hb.1 e), wrap64_id (by omega) (by omega)]; exact Ev.ret rfl
      · have hn : ¬ (d = 0 ∧ 0 < y) := fun h => e (hb.2 h)
        rw [if_neg hn]
        refine Ev.ite (fun e2 => ?_) (fun e2 => ?_)
        · refine j1 _ (by omega) ?_
          rw [wrap64_id (by omega) (by omega)]
          simp [e2]
        · exact j1 _ (by omega) (by simp [e2])
    refine Ev.ite (fun e => ?_) (fun e => ?_)
    · exact j0 _ (by simp [e])
    · exact j0 _ (by simp [e])
  · rw [if_neg hc]
    exact Ev.ff (by simpa using hc) (Ev.ret rfl)
end Go.Proofs.Ytoohcdfokejkdaa.P
namespace Go.Proofs.Ytoohcdfokejkdaa.P
open Go.RowKit Go.Proofs.YtoohcdfokejkdaaW.PrintWords Go.Proofs.YtoohcdfokejkdaaW.PrintLast Go.Proofs.YtoohcdfokejkdaaW.PrintMore
attribute [local go_sem] max2_int min2_int max_two min_two max_three min_three max_four min_four   -- for this text's walks alone
set_option linter.unusedVariables false
set_option linter.unusedSimpArgs false

/-! ### spec_MazeOk: function 66 -/
/-! ### spec_l03Bit: function 83 -/
end Go.Proofs.Ytoohcdfokejkdaa.P
namespace Go.Proofs.Ytoohcdfokejkdaa.P
open Go.RowKit Go.Proofs.YtoohcdfokejkdaaW.PrintWords
set_option linter.unusedVariables false
set_option linter.unusedSimpArgs false

theorem impl_MazeOk_eq (w h o : Int) : impl_MazeOk.f w h o = some (mazeOk w h o) := by
  have hc := gapsOf_range w h
  unfold impl_MazeOk.f mazeOk gapsN
  rw [impl_GridOk_eq, Option.bind_some]
  cases hg : gridOk w h
  · simp
  · rw [if_pos rfl, impl_CountGaps_eq, Option.bind_some, if_pos hc.1, shl_one hc.1 hc.2]
    simp only [Bool.true_and]
    split
    · congr 1; rw [decide_eq_decide]; omega
    · congr 1; symm; rw [decide_eq_false_iff_not]; omega
theorem impl_isOpen_eq (w h : Int) {n : Nat} (hn : n < 16777216) (g : Int) : impl_isOpen.f w h n g = some (openI n g) := by
  unfold impl_isOpen.f openI
  by_cases hg : g ≥ 0
  · rw [if_pos hg, if_pos hg]
    obtain ⟨m, rfl⟩ := Int.eq_ofNat_of_zero_le hg
    rw [bit_one (by omega)]
    simp
  · rw [if_neg hg]
    simp; omega
theorem impl_isGap_eq (w h g : Int) : impl_isGap.f w h g = some (isGapI w h g) := by
  unfold impl_isGap.f isGapI
  rw [impl_CountGaps_eq]
  by_cases hc : g ≥ 0
  · rw [if_pos hc, Option.bind_some]; congr 1; rw [decide_eq_decide]; omega
  · rw [if_neg hc]; congr 1; symm; rw [decide_eq_false_iff_not]; omega
/-! Sixteen small graphs: facts that are looked through -/
theorem impl_GapAt_ev (w h c d : Int) : Ev (fun k => impl_GapAt.f k w h c d) (gapI w h c d) := by
  unfold impl_GapAt.f gapI
  refine Ev.bind (impl_Neighbor_ev w h c d) ?_
  by_cases hn : nbI w h c d < 0
  · rw [if_pos hn, if_pos hn]
    exact Ev.ret rfl
  · rw [if_neg hn, if_neg hn]
    obtain ⟨hd, h0, h1⟩ := nb_dir (by omega : 0 ≤ nbI w h c d)
    obtain ⟨hg, hcw⟩ := cellsOf_valid h0 h1
    have hcr := cellsOf_range w h
    have hgr := gridOk_iff.1 hg
    have hlt := nb_lt (w := w) (h := h) (c := c) (d := d)
    have hmn : mn c (nbI w h c d) = min c (nbI w h c d) := by unfold mn; omega
    rw [hmn]
    have hm0 : 0 ≤ min c (nbI w h c d) := by omega
    have hm1 : min c (nbI w h c d) ≤ 15 := by omega
    generalize min c (nbI w h c d) = m at *
    have ha0 : 0 ≤ m / w := Int.ediv_nonneg hm0 (by omega)
    have ha1 : m / w ≤ m := Int.ediv_le_self _ hm0
    have hb0 : 0 ≤ m % w := Int.emod_nonneg _ (by omega)
    have hb1 : m % w < w := Int.emod_lt_of_pos _ (by omega)
    have hp0 : 0 ≤ m / w * (w - 1) := Int.mul_nonneg ha0 (by omega)
    have hp1 : m / w * (w - 1) ≤ 15 * 3 := Int.mul_le_mul (by omega) (by omega) (by omega) (by omega)
    have hq0 : 0 ≤ (w - 1) * h := Int.mul_nonneg (by omega) (by omega)
    have hq1 : (w - 1) * h ≤ 3 * 4 := Int.mul_le_mul (by omega) (by omega) (by omega) (by omega)
    rw [Int.tmod_eq_emod_of_nonneg hm0, Int.tdiv_eq_ediv_of_nonneg hm0, wrap64_id (x := m / w) (by omega) (by omega), wrap64_id (x := w - 1) (by omega) (by omega), wrap64_id (x := m / w * (w - 1)) (by omega) (by omega), wrap64_id (x := m / w * (w - 1) + m % w) (by omega) (by omega)]
    refine Ev.ite (fun e => Ev.ff (by omega) ?_) (fun e => Ev.ite (fun e3 => Ev.ff (by omega) ?_) (fun e3 => ?_))
    · rw [if_pos (.inl e)]; exact Ev.ret rfl
    · rw [if_pos (.inr e3)]; exact Ev.ret rfl
    · rw [if_neg (by omega)]
      rw [wrap64_id (x := (w - 1) * h) (by omega) (by omega), wrap64_id (by omega) (by omega)]
      exact Ev.ret rfl
/-- The directions from d on in which s leads somewhere. -/
def waysFrom (s : Int → Int) (d : Nat) : List Int := ([0, 1, 2, 3].drop d).filter fun x => decide (0 ≤ s x)
theorem waysFrom_succ (s : Int → Int) {d : Nat} (hd : d < 4) : waysFrom s d = if 0 ≤ s d then (d : Int) :: waysFrom s (d + 1) else waysFrom s (d + 1) := by
  have : d = 0 ∨ d = 1 ∨ d = 2 ∨ d = 3 := by omega
  rcases this with rfl | rfl | rfl | rfl <;> simp [waysFrom, List.filter_cons]
def waysI (w h : Int) (n : Nat) (c : Int) : List Int := waysFrom (stepI w h n c) 0
theorem impl_Step_ev {w h : Int} {n : Nat} (hg : gridOk w h = true) (hn : n < 2 ^ gapsN w h) (c d : Int) : Ev (fun k => impl_Step.f k w h n c d) (stepI w h n c d) := by
  unfold impl_Step.f stepI
  refine Ev.bnd0 (impl_MazeOk_eq w h n) (Ev.tt (mazeOk_iff.2 ⟨hg, n, rfl, hn⟩) ?_)
  refine Ev.bind (impl_GapAt_ev w h c d) (Ev.bnd0 (impl_isOpen_eq w h (open_small hn) _) ?_)
  by_cases ho : openI n (gapI w h c d) = true
  · rw [if_pos ho]
    exact Ev.tt ho (Ev.bind (impl_Neighbor_ev w h c d) (Ev.ret rfl))
  · rw [if_neg ho]
    exact Ev.ff ho (Ev.ret rfl)
theorem impl_Ways_l0 (w h : Int) (o c : Int) (s : Int → Int) (hs : ∀ d, Ev (fun k => impl_Step.f k w h o c d) (s d)) : ∀ (e d : Nat) (out : List Int), 4 - d = e → d ≤ 4 → out.length ≤ d →
    Ev (fun k => impl_WaysFrom.l0 k c out d w h o) (out ++ waysFrom s d)
  | 0, d, out, he, hd, hl => by
    refine Ev.step (fun _ => impl_WaysFrom.l0.eq_2 ..) ?_
    refine Ev.ff (by omega) (Ev.ret ?_)
    obtain rfl : d = 4 := by omega
    simp [waysFrom]
  | e + 1, d, out, he, hd, hl => by
    refine Ev.step (fun _ => impl_WaysFrom.l0.eq_2 ..) ?_
    refine Ev.tt (by omega) (Ev.bind (hs d) ?_)
    rw [wsucc (by omega), waysFrom_succ s (show d < 4 by omega)]
    refine Ev.ite (fun h1 => Ev.tt (by omega) ?_) (fun h1 => ?_)
    · rw [if_pos (by omega)]
      have := impl_Ways_l0 w h o c s hs e (d + 1) (out ++ [(d : Int)]) (by omega) (by omega) (by simp; omega)
      simpa using this
    · rw [if_neg (by omega)]
      exact impl_Ways_l0 w h o c s hs e (d + 1) out (by omega) (by omega) (by omega)
theorem impl_Ways_ev {w h : Int} {n : Nat} (hg : gridOk w h = true) (hn : n < 2 ^ gapsN w h) (c : Int) : Ev (fun k => impl_WaysFrom.f k w h n c) (waysI w h n c) := by
  unfold impl_WaysFrom.f waysI
  have := impl_Ways_l0 w h n c _ (fun d => impl_Step_ev hg hn c d) 4 0 [] (by omega) (by omega) (by simp)
  simpa using this
end Go.Proofs.Ytoohcdfokejkdaa.P
namespace Go.Proofs.Ytoohcdfokejkdaa.P
open Go.RowKit Go.Proofs.YtoohcdfokejkdaaW.PrintWords Go.Proofs.YtoohcdfokejkdaaW.PrintLast Go.Proofs.YtoohcdfokejkdaaW.PrintMore
attribute [local go_sem] max2_int min2_int max_two min_two max_three min_three max_four min_four   -- for this text's walks alone
set_option linter.unusedVariables false
set_option linter.unusedSimpArgs false

/-! ### spec_GapAt: function 100 -/
/-! ### spec_IsPassage: function 94 -/
/-! ### spec_Step: function 68 -/
/-! ### spec_WaysFrom: function 67 -/
end Go.Proofs.Ytoohcdfokejkdaa.P
namespace Go.Proofs.Ytoohcdfokejkdaa.P
open Go.RowKit Go.Proofs.YtoohcdfokejkdaaW.PrintWords
set_option linter.unusedVariables false
set_option linter.unusedSimpArgs false

/-- Connected by the edges of n. -/
inductive Cn (e : Nat → Nat × Nat) (n : Nat) : Nat → Nat → Prop
  | refl (x : Nat) : Cn e n x x
  | fwd {x : Nat} (k : Nat) : n.testBit k = true → Cn e n x (e k).1 → Cn e n x (e k).2
  | bwd {x : Nat} (k : Nat) : n.testBit k = true → Cn e n x (e k).2 → Cn e n x (e k).1
theorem Cn.trans {e : Nat → Nat × Nat} {n x y z : Nat} (h : Cn e n x y) (g : Cn e n y z) : Cn e n x z := by
  induction g with
  | refl => exact h
  | fwd k hk _ ih => exact .fwd k hk ih
  | bwd k hk _ ih => exact .bwd k hk ih
theorem Cn.edge {e : Nat → Nat × Nat} {n k : Nat} (h : n.testBit k = true) : Cn e n (e k).1 (e k).2 := .fwd k h (.refl _)
theorem Cn.edge' {e : Nat → Nat × Nat} {n k : Nat} (h : n.testBit k = true) : Cn e n (e k).2 (e k).1 := .bwd k h (.refl _)
theorem Cn.symm {e : Nat → Nat × Nat} {n x y : Nat} (h : Cn e n x y) : Cn e n y x := by
  induction h with
  | refl => exact .refl _
  | fwd k hk _ ih => exact (Cn.edge' hk).trans ih
  | bwd k hk _ ih => exact (Cn.edge hk).trans ih
theorem Cn.mono {e : Nat → Nat × Nat} {n m x y : Nat} (hm : ∀ i, n.testBit i = true → m.testBit i = true) (h : Cn e n x y) : Cn e m x y := by
  induction h with
  | refl => exact .refl _
  | fwd k hk _ ih => exact .fwd k (hm k hk) ih
  | bwd k hk _ ih => exact .bwd k (hm k hk) ih
theorem Cn_add {e : Nat → Nat × Nat} {n k x y : Nat} : Cn e (setB n k true) x y ↔ Cn e n x y ∨ (Cn e n x (e k).1 ∧ Cn e n (e k).2 y) ∨ (Cn e n x (e k).2 ∧ Cn e n (e k).1 y) := by
  have hm : ∀ i, n.testBit i = true → (setB n k true).testBit i = true := fun i hi => by rw [testBit_setB]; split <;> simp [hi]
  have hk : (setB n k true).testBit k = true := by rw [testBit_setB]; simp
  constructor
  · intro h
    induction h with
    | refl => exact .inl (.refl _)
    | fwd j hj _ ih =>
      rw [testBit_setB] at hj
      by_cases e1 : j = k
      · subst e1
        rcases ih with ih | ⟨h1, h2⟩ | ⟨h1, h2⟩
        · exact .inr (.inl ⟨ih, .refl _⟩)
        · exact .inr (.inl ⟨h1, .refl _⟩)
        · exact .inl h1
      · rw [if_neg e1] at hj
        rcases ih with ih | ⟨h1, h2⟩ | ⟨h1, h2⟩
        · exact .inl (.fwd j hj ih)
        · exact .inr (.inl ⟨h1, .fwd j hj h2⟩)
        · exact .inr (.inr ⟨h1, .fwd j hj h2⟩)
    | bwd j hj _ ih =>
      rw [testBit_setB] at hj
      by_cases e1 : j = k
      · subst e1
        rcases ih with ih | ⟨h1, h2⟩ | ⟨h1, h2⟩
        · exact .inr (.inr ⟨ih, .refl _⟩)
        · exact .inl h1
        · exact .inr (.inr ⟨h1, .refl _⟩)
      · rw [if_neg e1] at hj
        rcases ih with ih | ⟨h1, h2⟩ | ⟨h1, h2⟩
        · exact .inl (.bwd j hj ih)
        · exact .inr (.inl ⟨h1, .bwd j hj h2⟩)
        · exact .inr (.inr ⟨h1, .bwd j hj h2⟩)
  · rintro (h | ⟨h1, h2⟩ | ⟨h1, h2⟩)
    · exact h.mono hm
    · exact ((h1.mono hm).trans (Cn.edge hk)).trans (h2.mono hm)
    · exact ((h1.mono hm).trans (Cn.edge' hk)).trans (h2.mono hm)
theorem Cn_zero {e : Nat → Nat × Nat} {x y : Nat} : Cn e 0 x y ↔ x = y := by
  constructor
  · intro h
    induction h with
    | refl => rfl
    | fwd k hk => simp at hk
    | bwd k hk => simp at hk
  · rintro rfl; exact .refl _
/-- The first k bits of n. -/
def low (n k : Nat) : Nat := n % 2 ^ k
theorem testBit_low (n k i : Nat) : (low n k).testBit i = (decide (i < k) && n.testBit i) := Nat.testBit_mod_two_pow ..
theorem low_all {n k : Nat} (h : n < 2 ^ k) : low n k = n := Nat.mod_eq_of_lt h
theorem low_succ_set {n k : Nat} (h : n.testBit k = true) : low n (k + 1) = setB (low n k) k true := by
  apply Nat.eq_of_testBit_eq
  intro i
  rw [testBit_setB, testBit_low, testBit_low]
  by_cases e : i = k
  · subst e; simp [h]
  · rw [if_neg e]
    congr 1
    rw [decide_eq_decide]; omega
theorem low_succ_not {n k : Nat} (h : n.testBit k = false) : low n (k + 1) = low n k := by
  apply Nat.eq_of_testBit_eq
  intro i
  rw [testBit_low, testBit_low]
  by_cases e : i = k
  · subst e; simp [h]
  · congr 1
    rw [decide_eq_decide]; omega
/-- The least vertex of the part of v, by the first k edges. -/
def lab (e : Nat → Nat × Nat) (n : Nat) : Nat → Nat → Nat
  | 0, v => v
  | k + 1, v =>
    if n.testBit k = true then
      (if lab e n k v = max (lab e n k (e k).1) (lab e n k (e k).2) then min (lab e n k (e k).1) (lab e n k (e k).2) else lab e n k v)
    else lab e n k v
theorem lab_facts (e : Nat → Nat × Nat) (n : Nat) : ∀ k, (∀ v, lab e n k v ≤ v ∧ lab e n k (lab e n k v) = lab e n k v) ∧ ∀ x y, lab e n k x = lab e n k y ↔ Cn e (low n k) x y
  | 0 => by
    refine ⟨fun v => ⟨Nat.le_refl _, rfl⟩, fun x y => ?_⟩
    have : low n 0 = 0 := by unfold low; simp [Nat.mod_one]
    rw [this, Cn_zero]
    rfl
  | k + 1 => by
    obtain ⟨h1, h2⟩ := lab_facts e n k
    cases hb : n.testBit k with
    | false =>
      simp only [lab, hb, Bool.false_eq_true, if_false]
      rw [low_succ_not hb]
      exact ⟨h1, h2⟩
    | true =>
      simp only [lab, hb, if_true]
      rw [low_succ_set hb]
      refine ⟨fun v => ?_, fun x y => ?_⟩
      · have a1 := h1 v
        have a2 := h1 (e k).1
        have a3 := h1 (e k).2
        grind
      · rw [Cn_add, ← h2, ← h2, ← h2, ← h2, ← h2]
        grind
/-- Tells whether a vertex is the least of its part. -/
theorem lab_le (e : Nat → Nat × Nat) (n k v : Nat) : lab e n k v ≤ v := ((lab_facts e n k).1 v).1
theorem lab_lab (e : Nat → Nat × Nat) (n k v : Nat) : lab e n k (lab e n k v) = lab e n k v := ((lab_facts e n k).1 v).2
theorem lab_iff {e : Nat → Nat × Nat} {n k : Nat} (hn : n < 2 ^ k) (x y : Nat) : lab e n k x = lab e n k y ↔ Cn e n x y := by
  have := (lab_facts e n k).2 x y
  rwa [low_all hn] at this
theorem lab_least {e : Nat → Nat × Nat} {n k : Nat} (hn : n < 2 ^ k) {x y : Nat} (h : Cn e n x y) : lab e n k x ≤ y := by
  rw [(lab_iff hn x y).2 h]
  exact lab_le ..
theorem lab_cn {e : Nat → Nat × Nat} {n k : Nat} (hn : n < 2 ^ k) (x : Nat) : Cn e n x (lab e n k x) := (lab_iff hn _ _).1 (lab_lab ..).symm
/-- How many of the numbers under v. -/
def cnt (p : Nat → Bool) : Nat → Nat
  | 0 => 0
  | v + 1 => cnt p v + (p v).toNat
theorem cnt_congr {p q : Nat → Bool} {v : Nat} (h : ∀ i, i < v → p i = q i) : cnt p v = cnt q v := by
  induction v with
  | zero => rfl
  | succ n ih => simp only [cnt]; rw [ih (fun i hi => h i (by omega)), h n (by omega)]
theorem cnt_le (p : Nat → Bool) (v : Nat) : cnt p v ≤ v := by
  induction v with
  | zero => simp [cnt]
  | succ n ih => simp only [cnt]; have := Bool.toNat_le (p n); omega
theorem cnt_one {p q : Nat → Bool} {v m : Nat} (hm : m < v) (h1 : p m = true) (h2 : q m = false) (h : ∀ i, i < v → i ≠ m → p i = q i) : cnt p v = cnt q v + 1 := by
  induction v with
  | zero => omega
  | succ n ih =>
    simp only [cnt]
    by_cases e : m = n
    · subst e
      rw [cnt_congr (q := q) (fun i hi => h i (by omega) (by omega)), h1, h2]
      simp
    · rw [ih (by omega) (fun i hi hne => h i (by omega) hne), h n (by omega) (fun e' => e e'.symm)]
      omega
theorem cnt_zero_iff {p : Nat → Bool} {v : Nat} : cnt p v = 0 ↔ ∀ i, i < v → p i = false := by
  induction v with
  | zero => simp [cnt]
  | succ n ih =>
    simp only [cnt]
    constructor
    · intro h i hi
      by_cases e : i = n
      · subst e
        cases hp : p i
        · rfl
        · rw [hp] at h; simp at h
      · exact ih.1 (by omega) i (by omega)
    · intro h
      rw [ih.2 (fun i hi => h i (by omega)), h n (by omega)]
      rfl
/-- The number of parts of v vertices, by k edges. -/
def parts (e : Nat → Nat × Nat) (v k n : Nat) : Nat := cnt (fun c => lab e n k c == c) v
theorem rep_iff {e : Nat → Nat × Nat} {n k : Nat} (hn : n < 2 ^ k) (c : Nat) : (lab e n k c == c) = true ↔ ∀ y, Cn e n c y → c ≤ y := by
  rw [beq_iff_eq]
  constructor
  · intro h y hy
    have := lab_least hn hy
    omega
  · intro h
    have := h _ (lab_cn hn c)
    have := lab_le e n k c
    omega
theorem parts_zero (e : Nat → Nat × Nat) (v k : Nat) : parts e v k 0 = v := by
  have : ∀ k c, lab e 0 k c = c := by
    intro k
    induction k with
    | zero => intro c; rfl
    | succ k ih => intro c; simp [lab, ih]
  unfold parts
  simp only [this, beq_self_eq_true]
  induction v with
  | zero => rfl
  | succ n ih => simp only [cnt]; rw [ih]; rfl
/-- One more edge joins two parts, or none. -/
theorem parts_add {e : Nat → Nat × Nat} {v k n j : Nat} (hn : n < 2 ^ k) (hj : j < k) (h1 : (e j).1 < v) (h2 : (e j).2 < v) :
    (Cn e n (e j).1 (e j).2 → parts e v k (setB n j true) = parts e v k n) ∧ (¬ Cn e n (e j).1 (e j).2 → parts e v k n = parts e v k (setB n j true) + 1) := by
  have hn' : setB n j true < 2 ^ k := setB_lt true hn hj
  constructor
  · intro hc
    unfold parts
    refine cnt_congr fun c hcv => ?_
    rw [Bool.eq_iff_iff, rep_iff hn, rep_iff hn']
    simp only [Cn_add]
    constructor
    · intro h y hy; exact h y (.inl hy)
    · rintro h y (hy | ⟨ha, hb⟩ | ⟨ha, hb⟩)
      · exact h y hy
      · exact h y ((ha.trans hc).trans hb)
      · exact h y ((ha.trans hc.symm).trans hb)
  · intro hc
    have hne : lab e n k (e j).1 ≠ lab e n k (e j).2 := fun h => hc ((lab_iff hn _ _).1 h)
    have l1 := lab_le e n k (e j).1
    have l2 := lab_le e n k (e j).2
    have c1 := lab_cn (e := e) hn (e j).1
    have c2 := lab_cn (e := e) hn (e j).2
    unfold parts
    refine cnt_one (m := max (lab e n k (e j).1) (lab e n k (e j).2)) (by omega) ?_ ?_ ?_
    · have := lab_lab e n k (e j).1
      have := lab_lab e n k (e j).2
      rw [beq_iff_eq]
      rcases Nat.le_total (lab e n k (e j).1) (lab e n k (e j).2) with hle | hle
      · rw [Nat.max_eq_right hle]; assumption
      · rw [Nat.max_eq_left hle]; assumption
    · rw [Bool.eq_false_iff]
      intro h
      rw [rep_iff hn'] at h
      rcases Nat.le_total (lab e n k (e j).1) (lab e n k (e j).2) with hle | hle
      · rw [Nat.max_eq_right hle] at h
        have := h (lab e n k (e j).1) (Cn_add.2 (.inr (.inr ⟨c2.symm, c1⟩)))
        omega
      · rw [Nat.max_eq_left hle] at h
        have := h (lab e n k (e j).2) (Cn_add.2 (.inr (.inl ⟨c1.symm, c2⟩)))
        omega
    · intro c hcv hcm
      rw [Bool.eq_iff_iff, rep_iff hn, rep_iff hn']
      simp only [Cn_add]
      constructor
      · rintro h y (hy | ⟨ha, hb⟩ | ⟨ha, hb⟩)
        · exact h y hy
        · have e1 : lab e n k (e j).1 = c := by
            have := h _ (ha.trans c1)
            have := lab_least (e := e) hn ha.symm
            omega
          have := lab_least (e := e) hn hb
          have := lab_le e n k c
          omega
        · have e1 : lab e n k (e j).2 = c := by
            have := h _ (ha.trans c2)
            have := lab_least (e := e) hn ha.symm
            omega
          have := lab_least (e := e) hn hb
          omega
      · intro h y hy; exact h y (.inl hy)
theorem pop_setB {m n j : Nat} (hj : j < m) (h : n.testBit j = false) : pop m (setB n j true) = pop m n + 1 := by
  induction m with
  | zero => omega
  | succ m ih =>
    simp only [pop]
    by_cases e : j = m
    · subst e
      rw [pop_congr (t := n) (fun i hi => by rw [testBit_setB, if_neg (by omega)]), testBit_setB, if_pos rfl, h]
      simp
    · rw [ih (by omega), testBit_setB, if_neg (by omega)]
      omega
theorem setB_off_on {n j : Nat} (h : n.testBit j = true) : setB (setB n j false) j true = n := by
  apply Nat.eq_of_testBit_eq
  intro i
  rw [testBit_setB, testBit_setB]
  by_cases e : i = j
  · subst e; simp [h]
  · simp [e]
theorem setB_bit (n j : Nat) (b : Bool) : (setB n j b).testBit j = b := by rw [testBit_setB, if_pos rfl]
theorem setB_ne {n j i : Nat} (b : Bool) (h : i ≠ j) : (setB n j b).testBit i = n.testBit i := by rw [testBit_setB, if_neg h]
/-- A statement over masks, from none on, an edge at a time. -/
theorem mask_induction {P : Nat → Prop} {k : Nat} (h0 : P 0) (hs : ∀ n j, n < 2 ^ k → j < k → n.testBit j = false → P n → P (setB n j true)) : ∀ n, n < 2 ^ k → P n := by
  intro n hn
  have : ∀ d, d ≤ k → P (low n d) := by
    intro d
    induction d with
    | zero => intro _; have : low n 0 = 0 := by unfold low; simp [Nat.mod_one]
              rw [this]; exact h0
    | succ d ih =>
      intro hd
      cases hb : n.testBit d with
      | false => rw [low_succ_not hb]; exact ih (by omega)
      | true =>
        rw [low_succ_set hb]
        refine hs _ _ (Nat.lt_of_le_of_lt (Nat.mod_le _ _) hn) (by omega) ?_ (ih (by omega))
        rw [testBit_low]; simp
  have := this k (Nat.le_refl k)
  rwa [low_all hn] at this
/-- A graph: the ends of its edges are vertices. -/
def Gr (e : Nat → Nat × Nat) (v k : Nat) : Prop := ∀ j, j < k → (e j).1 < v ∧ (e j).2 < v
/-- The number of loops is no number under 0. -/
theorem loops_nonneg {e : Nat → Nat × Nat} {v k : Nat} (hg : Gr e v k) : ∀ n, n < 2 ^ k → v ≤ pop k n + parts e v k n := by
  refine mask_induction ?_ ?_
  · rw [parts_zero]; omega
  · intro n j hn hj hb ih
    have hp := parts_add (e := e) hn hj (hg j hj).1 (hg j hj).2
    rw [pop_setB hj hb]
    by_cases hc : Cn e n (e j).1 (e j).2
    · rw [hp.1 hc]; omega
    · have := hp.2 hc; omega
theorem lt_of_testBit {n k j : Nat} (hn : n < 2 ^ k) (h : n.testBit j = true) : j < k := by
  rcases Nat.lt_or_ge j k with h1 | h1
  · exact h1
  · rw [Nat.testBit_lt_two_pow (Nat.lt_of_lt_of_le hn (Nat.pow_le_pow_right (by decide) h1))] at h
    cases h
/-- Taking an edge away. -/
theorem parts_del {e : Nat → Nat × Nat} {v k n j : Nat} (hg : Gr e v k) (hn : n < 2 ^ k) (hb : n.testBit j = true) :
    pop k n = pop k (setB n j false) + 1 ∧ (Cn e (setB n j false) (e j).1 (e j).2 → parts e v k (setB n j false) = parts e v k n) ∧ (¬ Cn e (setB n j false) (e j).1 (e j).2 → parts e v k (setB n j false) = parts e v k n + 1) := by
  have hj := lt_of_testBit hn hb
  have hp := parts_add (e := e) (setB_lt false hn hj) hj (hg j hj).1 (hg j hj).2
  have h2 := pop_setB (m := k) (n := setB n j false) hj (setB_bit ..)
  rw [setB_off_on hb] at hp h2
  exact ⟨h2, fun h => (hp.1 h).symm, hp.2⟩
/-- No loops: every edge is a bridge. -/
theorem bridge_of_forest {e : Nat → Nat × Nat} {v k n j : Nat} (hg : Gr e v k) (hn : n < 2 ^ k) (hf : pop k n + parts e v k n = v) (hb : n.testBit j = true) : ¬ Cn e (setB n j false) (e j).1 (e j).2 := by
  intro hc
  obtain ⟨h1, h2, _⟩ := parts_del hg hn hb
  have := h2 hc
  have := loops_nonneg hg (setB n j false) (setB_lt false hn (lt_of_testBit hn hb))
  omega
theorem parts_pos {e : Nat → Nat × Nat} {v k n : Nat} (hn : n < 2 ^ k) (hv : 0 < v) : 0 < parts e v k n := by
  rcases Nat.eq_zero_or_pos (parts e v k n) with h | h
  · have := cnt_zero_iff.1 h 0 hv
    have h0 := lab_le e n k 0
    simp at this
    omega
  · exact h
/-- One part: all are connected. -/
theorem parts_one {e : Nat → Nat × Nat} {v k n : Nat} (hn : n < 2 ^ k) (hv : 0 < v) : parts e v k n = 1 ↔ ∀ x, x < v → Cn e n 0 x := by
  have h0 : (lab e n k 0 == 0) = true := by have := lab_le e n k 0; rw [beq_iff_eq]; omega
  have hq : cnt (fun c => c == 0) v = 1 := by
    obtain ⟨v, rfl⟩ : ∃ u, v = u + 1 := ⟨v - 1, by omega⟩
    clear hv
    induction v with
    | zero => rfl
    | succ v ih => simp only [cnt] at *; rw [ih]; simp
  constructor
  · intro h x hx
    have hl := lab_lab e n k x
    have hle := lab_le e n k x
    have hxc := lab_cn (e := e) hn x
    by_cases hz : lab e n k x = 0
    · rw [hz] at hxc; exact hxc.symm
    · exfalso
      unfold parts at h
      have : 2 ≤ cnt (fun c => lab e n k c == c) v := by
        have h2 : cnt (fun c => c == 0 || c == lab e n k x) v = cnt (fun c => c == 0) v + 1 := cnt_one (m := lab e n k x) (by omega) (by simp) (by simpa using hz) (fun i hi hne => by simp [hne])
        have hmono : ∀ (p q : Nat → Bool) (u : Nat), (∀ i, p i = true → q i = true) → cnt p u ≤ cnt q u := by
          intro p q u hpq
          induction u with
          | zero => exact Nat.le_refl _
          | succ u ih =>
            simp only [cnt]
            have := hpq u
            cases hp : p u <;> cases hq : q u <;> simp_all <;> omega
        have h3 := hmono (fun c => c == 0 || c == lab e n k x) (fun c => lab e n k c == c) v (fun i hi => by
          simp at hi
          rcases hi with rfl | rfl
          · exact h0
          · simpa using hl)
        omega
      omega
  · intro h
    unfold parts
    rw [← hq]
    refine cnt_congr fun c hc => ?_
    have := lab_least hn (h c hc).symm
    rw [Bool.eq_iff_iff, beq_iff_eq, beq_iff_eq]
    constructor
    · intro h1; omega
    · rintro rfl; omega
def upd (D : Nat → Int) (y : Nat) (v : Int) : Nat → Int := fun c => if c = y then v else D c
/-- One direction of one cell. -/
def relax (s : Nat → Nat → Int) (x d : Nat) (S : (Nat → Int) × List Nat) : (Nat → Int) × List Nat :=
  if 0 ≤ s x d ∧ S.1 (s x d).toNat < 0 then (upd S.1 (s x d).toNat (S.1 x + 1), S.2 ++ [(s x d).toNat]) else S
def bround (s : Nat → Nat → Int) (x : Nat) (S : (Nat → Int) × List Nat) : (Nat → Int) × List Nat := relax s x 3 (relax s x 2 (relax s x 1 (relax s x 0 S)))
def bfsF (s : Nat → Nat → Int) : Nat → (Nat → Int) × List Nat → Nat → (Nat → Int)
  | 0, S, _ => S.1
  | f + 1, S, i => match S.2[i]? with
    | none => S.1
    | some x => bfsF s f (bround s x S) (i + 1)
/-- The distances from a cell, or -1. -/
def bfsD (s : Nat → Nat → Int) (v src : Nat) : Nat → Int := bfsF s (v + 1) (upd (fun _ => -1) src 0, [src]) 0
/-- Steps stay among v cells. -/
def Rng (s : Nat → Nat → Int) (v : Nat) : Prop := ∀ x d, x < v → d < 4 → s x d = -1 ∨ (0 ≤ s x d ∧ s x d < (v : Int))

structure BInv (s : Nat → Nat → Int) (v src : Nat) (S : (Nat → Int) × List Nat) (i : Nat) (m : Nat) : Prop where
  src0 : S.1 src = 0
  zero : ∀ c, S.1 c = 0 → c = src
  srcq : src ∈ S.2
  inr : ∀ c ∈ S.2, c < v
  nodup : S.2.Nodup
  neg : ∀ c, S.1 c = -1 ∨ 0 ≤ S.1 c
  mem : ∀ c, 0 ≤ S.1 c ↔ c ∈ S.2
  sorted : S.2.Pairwise (fun a b => S.1 a ≤ S.1 b)
  top : ∀ x, S.2[i]? = some x → ∀ c ∈ S.2, S.1 c ≤ S.1 x + 1
  done : ∀ j x, S.2[j]? = some x → ∀ d, d < 4 → (j < i ∨ (j = i ∧ d < m)) → 0 ≤ s x d → 0 ≤ S.1 (s x d).toNat ∧ S.1 (s x d).toNat ≤ S.1 x + 1
  pred : ∀ c ∈ S.2, c = src ∨ ∃ c' d, c' ∈ S.2 ∧ d < 4 ∧ s c' d = (c : Int) ∧ S.1 c = S.1 c' + 1
theorem BInv.start {s : Nat → Nat → Int} {v src : Nat} (h : src < v) : BInv s v src (upd (fun _ => -1) src 0, [src]) 0 0 where
  src0 := by simp [upd]
  zero := fun c => by simp only [upd]; split <;> simp_all
  srcq := by simp
  inr := by simpa using h
  nodup := by simp
  neg := fun c => by simp only [upd]; split <;> simp
  mem := fun c => by
    simp only [upd, List.mem_singleton]
    split
    · rename_i e; simp [e]
    · rename_i e; simp [e]
  sorted := by simp
  top := fun x hx c hc => by
    simp at hx hc
    subst hx hc
    omega
  done := fun j x hx d hd hj => by omega
  pred := fun c hc => .inl (by simpa using hc)
theorem BInv.relax {s : Nat → Nat → Int} {v src : Nat} (hs : Rng s v) {S : (Nat → Int) × List Nat} {i m x : Nat} (hm : m < 4) (hx : S.2[i]? = some x) (I : BInv s v src S i m) :
    BInv s v src (relax s x m S) i (m + 1) ∧ (relax s x m S).2[i]? = some x := by
  have hxq : x ∈ S.2 := List.mem_of_getElem? hx
  have hi : i < S.2.length := by
    rcases Nat.lt_or_ge i S.2.length with h | h
    · exact h
    · rw [List.getElem?_eq_none h] at hx; cases hx
  have hxv := I.inr x hxq
  have hx0 := (I.mem x).2 hxq
  unfold Go.Proofs.Ytoohcdfokejkdaa.P.relax
  by_cases hc : 0 ≤ s x m ∧ S.1 (s x m).toNat < 0
  · rw [if_pos hc]
    obtain ⟨y, hy⟩ : ∃ y : Nat, s x m = y := ⟨(s x m).toNat, by omega⟩
    have hyv : y < v := by have := hs x m hxv hm; omega
    rw [hy] at hc ⊢
    simp only [Int.toNat_natCast] at hc ⊢
    have hyq : y ∉ S.2 := fun h => by have := (I.mem y).2 h; omega
    have keep : ∀ c, c ∈ S.2 → upd S.1 y (S.1 x + 1) c = S.1 c := by
      intro c h
      unfold upd
      rw [if_neg]
      rintro rfl
      exact hyq h
    have uy : upd S.1 y (S.1 x + 1) y = S.1 x + 1 := by unfold upd; rw [if_pos rfl]
    have idx : ∀ j z, (S.2 ++ [y])[j]? = some z → S.2[j]? = some z ∨ (j = S.2.length ∧ z = y) := by
      intro j z h
      rcases Nat.lt_or_ge j S.2.length with h1 | h1
      · rw [List.getElem?_append_left h1] at h; exact .inl h
      · rw [List.getElem?_append_right h1] at h
        have : j - S.2.length = 0 := by
          rcases Nat.eq_zero_or_pos (j - S.2.length) with h2 | h2
          · exact h2
          · rw [List.getElem?_eq_none (by simp only [List.length_singleton]; omega)] at h; cases h
        rw [this] at h
        simp at h
        exact .inr ⟨by omega, h.symm⟩
    have I0 : ∀ c, (upd S.1 y (S.1 x + 1), S.2 ++ [y]).1 c = 0 → c = src := by
      intro c
      show upd _ _ _ c = 0 → _
      unfold upd
      split
      · intro h; omega
      · exact I.zero c
    refine ⟨{ src0 := ?_, zero := I0, srcq := ?_, inr := ?_, nodup := ?_, neg := ?_, mem := ?_, sorted := ?_, top := ?_, done := ?_, pred := ?_ }, by rw [List.getElem?_append_left hi]; exact hx⟩
    · show upd _ _ _ src = 0
      rw [keep _ I.srcq]; exact I.src0
    · exact List.mem_append_left _ I.srcq
    · intro c hcq
      rcases List.mem_append.1 hcq with h | h
      · exact I.inr c h
      · simp at h; omega
    · rw [List.nodup_append]
      refine ⟨I.nodup, by simp, ?_⟩
      intro a ha b hb hab
      simp at hb
      subst hab hb
      exact hyq ha
    · intro c
      show upd _ _ _ c = -1 ∨ 0 ≤ upd _ _ _ c
      by_cases e : c = y
      · subst e; rw [uy]; omega
      · rw [show upd S.1 y (S.1 x + 1) c = S.1 c from if_neg e]; exact I.neg c
    · intro c
      rw [List.mem_append, List.mem_singleton]
      show 0 ≤ upd _ _ _ c ↔ _
      unfold upd
      by_cases e : c = y
      · rw [if_pos e]; exact ⟨fun _ => .inr e, fun _ => by omega⟩
      · rw [if_neg e, I.mem]; simp [e]
    · rw [List.pairwise_append]
      refine ⟨I.sorted.imp_of_mem fun {a b} ha hb h => ?_, by simp, ?_⟩
      · show upd _ _ _ a ≤ upd _ _ _ b
        rw [keep a ha, keep b hb]; exact h
      · intro a ha b hb
        simp at hb
        subst hb
        show upd _ _ _ a ≤ upd _ _ _ b
        rw [keep a ha, uy]
        exact I.top x hx a ha
    · intro z hz c hcq
      rw [List.getElem?_append_left hi, hx] at hz
      obtain rfl := Option.some.inj hz
      show upd _ _ _ c ≤ upd _ _ _ x + 1
      rw [keep x hxq]
      rcases List.mem_append.1 hcq with h | h
      · rw [keep c h]; exact I.top x hx c h
      · simp at h; subst h; rw [uy]; omega
    · intro j z hz d hd hj h0
      rcases idx j z hz with h | ⟨h, _⟩
      · have hzq : z ∈ S.2 := List.mem_of_getElem? h
        show 0 ≤ upd _ _ _ _ ∧ upd _ _ _ _ ≤ upd _ _ _ z + 1
        rw [keep z hzq]
        by_cases e : j = i ∧ d = m
        · obtain ⟨rfl, rfl⟩ := e
          rw [hx] at h
          obtain rfl := Option.some.inj h
          rw [hy, Int.toNat_natCast, uy]
          omega
        · have := I.done j z h d hd (by omega) h0
          have h1 := (I.mem _).1 this.1
          rw [keep _ h1]
          exact this
      · omega
    · intro c hcq
      rcases List.mem_append.1 hcq with h | h
      · rcases I.pred c h with h1 | ⟨c', d, h1, h2, h3, h4⟩
        · exact .inl h1
        · refine .inr ⟨c', d, List.mem_append_left _ h1, h2, h3, ?_⟩
          show upd _ _ _ c = upd _ _ _ c' + 1
          rw [keep c h, keep c' h1]; exact h4
      · simp at h
        subst h
        refine .inr ⟨x, m, List.mem_append_left _ hxq, hm, hy, ?_⟩
        show upd _ _ _ c = upd _ _ _ x + 1
        rw [uy, keep x hxq]
  · rw [if_neg hc]
    refine ⟨{ I with done := ?_ }, hx⟩
    intro j z hz d hd hj h0
    by_cases e : j = i ∧ d = m
    · obtain ⟨rfl, rfl⟩ := e
      rw [hx] at hz
      obtain rfl := Option.some.inj hz
      have h1 : 0 ≤ S.1 (s x d).toNat := by
        have := I.neg (s x d).toNat
        omega
      exact ⟨h1, I.top x hx _ ((I.mem _).1 h1)⟩
    · exact I.done j z hz d hd (by omega) h0
theorem BInv.next {s : Nat → Nat → Int} {v src : Nat} {S : (Nat → Int) × List Nat} {i x : Nat} (hx : S.2[i]? = some x) (I : BInv s v src S i 4) : BInv s v src S (i + 1) 0 :=
  { I with
    top := fun z hz c hc => by
      have h1 := I.top x hx c hc
      have h2 := List.pairwise_iff_getElem.1 I.sorted i (i + 1)
      obtain ⟨a, rfl⟩ := List.getElem?_eq_some_iff.1 hx
      obtain ⟨b, rfl⟩ := List.getElem?_eq_some_iff.1 hz
      have := h2 a b (by omega)
      omega
    done := fun j z hz d hd hj h0 => I.done j z hz d hd (by omega) h0 }
theorem BInv.round {s : Nat → Nat → Int} {v src : Nat} (hs : Rng s v) {S : (Nat → Int) × List Nat} {i x : Nat} (hx : S.2[i]? = some x) (I : BInv s v src S i 0) : BInv s v src (bround s x S) (i + 1) 0 := by
  obtain ⟨I1, h1⟩ := I.relax hs (by omega) hx
  obtain ⟨I2, h2⟩ := I1.relax hs (by omega) h1
  obtain ⟨I3, h3⟩ := I2.relax hs (by omega) h2
  obtain ⟨I4, h4⟩ := I3.relax hs (by omega) h3
  exact I4.next h4
theorem nodup_len {v : Nat} : ∀ {q : List Nat}, q.Nodup → (∀ c ∈ q, c < v) → q.length ≤ v := by
  induction v with
  | zero =>
    intro q _ h
    cases q with
    | nil => simp
    | cons a l => have := h a (by simp); omega
  | succ v ih =>
    intro q hn h
    have h1 := ih (q := q.erase v) (hn.erase v) (fun c hc => by
      have h1 := h c (List.mem_of_mem_erase hc)
      have : c ≠ v := by rintro rfl; exact absurd hc (List.Nodup.not_mem_erase hn)
      omega)
    have h2 := List.length_erase (a := v) (l := q)
    split at h2 <;> omega
theorem BInv.len {s : Nat → Nat → Int} {v src : Nat} {S : (Nat → Int) × List Nat} {i m : Nat} (I : BInv s v src S i m) : S.2.length ≤ v := nodup_len I.nodup I.inr
/-- What distances are. -/
structure Dist (s : Nat → Nat → Int) (v src : Nat) (D : Nat → Int) : Prop where
  src0 : D src = 0
  zero : ∀ c, D c = 0 → c = src
  neg : ∀ c, D c = -1 ∨ 0 ≤ D c
  inr : ∀ c, 0 ≤ D c → c < v
  lip : ∀ x d, d < 4 → 0 ≤ D x → 0 ≤ s x d → 0 ≤ D (s x d).toNat ∧ D (s x d).toNat ≤ D x + 1
  pred : ∀ c, 0 < D c → ∃ c' d, d < 4 ∧ s c' d = (c : Int) ∧ 0 ≤ D c' ∧ D c = D c' + 1
theorem BInv.dist {s : Nat → Nat → Int} {v src : Nat} {S : (Nat → Int) × List Nat} {i : Nat} (hi : S.2[i]? = none) (I : BInv s v src S i 0) : Dist s v src S.1 where
  src0 := I.src0
  zero := I.zero
  neg := I.neg
  inr := fun c h => I.inr c ((I.mem c).1 h)
  lip := fun x d hd hx h0 => by
    obtain ⟨j, hj⟩ := List.mem_iff_getElem?.1 ((I.mem x).1 hx)
    refine I.done j x hj d hd (.inl ?_) h0
    rcases Nat.lt_or_ge j i with h | h
    · exact h
    · rw [List.getElem?_eq_none_iff] at hi
      rw [List.getElem?_eq_none (by omega)] at hj
      cases hj
  pred := fun c h => by
    rcases I.pred c ((I.mem c).1 (by omega)) with h1 | ⟨c', d, h1, h2, h3, h4⟩
    · rw [h1, I.src0] at h; omega
    · exact ⟨c', d, h2, h3, (I.mem c').2 h1, h4⟩
theorem bfsF_dist {s : Nat → Nat → Int} {v src : Nat} (hs : Rng s v) : ∀ (f : Nat) (S : (Nat → Int) × List Nat) (i : Nat), BInv s v src S i 0 → i ≤ S.2.length → v + 1 - i ≤ f → Dist s v src (bfsF s f S i)
  | 0, S, i, I, hi, hf => by have := I.len; omega
  | f + 1, S, i, I, hi, hf => by
    simp only [bfsF]
    cases h : S.2[i]? with
    | none => exact I.dist h
    | some x =>
      have I2 := I.round hs h
      have hl : S.2.length ≤ (bround s x S).2.length := by
        have h1 : ∀ m T, T.2.length ≤ (Go.Proofs.Ytoohcdfokejkdaa.P.relax s x m T).2.length := by
          intro m T
          unfold Go.Proofs.Ytoohcdfokejkdaa.P.relax
          split <;> simp
        exact Nat.le_trans (h1 0 S) (Nat.le_trans (h1 1 _) (Nat.le_trans (h1 2 _) (h1 3 _)))
      have h2 := (List.getElem?_eq_some_iff.1 h).1
      exact bfsF_dist hs f _ (i + 1) I2 (by omega) (by omega)
theorem bfsD_dist {s : Nat → Nat → Int} {v src : Nat} (hs : Rng s v) (h : src < v) : Dist s v src (bfsD s v src) := bfsF_dist hs _ _ 0 (BInv.start h) (by simp) (by omega)
/-- Steps are the edges of n. -/
structure Net (s : Nat → Nat → Int) (e : Nat → Nat × Nat) (v n : Nat) : Prop where
  rng : Rng s v
  edge : ∀ x d, x < v → d < 4 → 0 ≤ s x d → ∃ k, n.testBit k = true ∧ (e k = (x, (s x d).toNat) ∨ e k = ((s x d).toNat, x))
  lt : ∀ k, n.testBit k = true → (e k).1 < v ∧ (e k).2 < v
  fwd : ∀ k, n.testBit k = true → ∃ d, d < 4 ∧ s (e k).1 d = ((e k).2 : Int)
  bwd : ∀ k, n.testBit k = true → ∃ d, d < 4 ∧ s (e k).2 d = ((e k).1 : Int)
theorem Dist.cn {s : Nat → Nat → Int} {e : Nat → Nat × Nat} {v n src : Nat} {D : Nat → Int} (N : Net s e v n) (I : Dist s v src D) (c : Nat) : 0 ≤ D c ↔ Cn e n src c := by
  constructor
  · intro h
    obtain ⟨m, hm⟩ : ∃ m : Nat, D c = m := ⟨(D c).toNat, by omega⟩
    clear h
    induction m using Nat.strongRecOn generalizing c with
    | _ m ih =>
      by_cases h0 : 0 < D c
      · obtain ⟨c', d, hd, h1, h2, h3⟩ := I.pred c h0
        have := ih (D c').toNat (by omega) c' (by omega)
        obtain ⟨k, hk, hk2⟩ := N.edge c' d (I.inr _ h2) hd (by omega)
        rw [h1] at hk2
        simp only [Int.toNat_natCast] at hk2
        rcases hk2 with h | h
        · have e1 := Cn.edge (e := e) hk
          rw [h] at e1
          exact this.trans e1
        · have e1 := Cn.edge' (e := e) hk
          rw [h] at e1
          exact this.trans e1
      · rw [I.zero c (by omega)]
        exact .refl _
  · intro h
    induction h with
    | refl => rw [I.src0]; omega
    | fwd k hk _ ih =>
      obtain ⟨d, hd, h1⟩ := N.fwd k hk
      have := I.lip _ d hd ih (by omega)
      rw [h1] at this
      simpa using this.1
    | bwd k hk _ ih =>
      obtain ⟨d, hd, h1⟩ := N.bwd k hk
      have := I.lip _ d hd ih (by omega)
      rw [h1] at this
      simpa using this.1
def cellsN (w h : Int) : Nat := (cellsOf w h).toNat
theorem cellsN_cast (w h : Int) : ((cellsN w h : Nat) : Int) = cellsOf w h := by have := cellsOf_range w h; unfold cellsN; omega
theorem cellsN_le (w h : Int) : cellsN w h ≤ 16 := by have := cellsOf_range w h; unfold cellsN; omega
def ends (w h : Int) (g : Nat) : Nat × Nat := ((endsI w h g).1.toNat, (endsI w h g).2.toNat)
def st (w h : Int) (n : Nat) (c d : Nat) : Int := stepI w h n c d
theorem ends_facts {w h : Int} {g : Nat} (hg : g < gapsN w h) : endsI w h g = (((ends w h g).1 : Int), ((ends w h g).2 : Int)) ∧ (ends w h g).1 < (ends w h g).2 ∧ (ends w h g).2 < cellsN w h := by
  have hc := gapsN_cast w h
  have hc2 := cellsN_cast w h
  obtain ⟨h1, h2, h3, _⟩ := end_facts (w := w) (h := h) (g := g) (by omega) (by omega)
  unfold ends
  refine ⟨?_, by simp only; omega, by simp only; omega⟩
  apply Prod.ext
  · simp only; omega
  · simp only; omega
theorem gr_grid (w h : Int) : Gr (ends w h) (cellsN w h) (gapsN w h) := fun g hg => by
  have := ends_facts hg
  omega
theorem step_open {w h : Int} {n : Nat} {c d : Int} (hn : n < 2 ^ gapsN w h) (h0 : 0 ≤ stepI w h n c d) : ∃ g : Nat, g < gapsN w h ∧ gapI w h c d = g ∧ n.testBit g = true ∧ stepI w h n c d = nbI w h c d ∧ endsI w h g = (min c (nbI w h c d), max c (nbI w h c d)) := by
  have hc := gapsN_cast w h
  unfold stepI at *
  by_cases ho : openI n (gapI w h c d) = true
  · rw [if_pos ho] at *
    rcases step_facts w h c d with ⟨h1, _⟩ | ⟨h1, h2, h3, h4, h5, h6, _⟩
    · omega
    · refine ⟨(gapI w h c d).toNat, by omega, by omega, ?_, rfl, ?_⟩
      · unfold openI at ho
        simp only [Bool.and_eq_true] at ho
        exact ho.2
      · rw [show (((gapI w h c d).toNat : Nat) : Int) = gapI w h c d by omega]; exact h6
  · rw [if_neg ho] at h0; omega
theorem net_grid {w h : Int} {n : Nat} (hn : n < 2 ^ gapsN w h) : Net (st w h n) (ends w h) (cellsN w h) n where
  rng := fun x d _ _ => by
    have := cellsN_cast w h
    unfold st
    rcases step_lt (w := w) (h := h) (c := x) (d := d) (n := n) with h1 | h1
    · exact .inl h1
    · exact .inr (by omega)
  edge := fun x d hx hd h0 => by
    unfold st at *
    obtain ⟨g, h1, h2, h3, h4, h5⟩ := step_open hn h0
    refine ⟨g, h3, ?_⟩
    unfold ends
    rw [h5, h4]
    rw [h4] at h0
    rcases Int.le_total x (nbI w h x d) with hl | hl
    · left
      rw [Int.min_eq_left hl, Int.max_eq_right hl]; rfl
    · right
      rw [Int.min_eq_right hl, Int.max_eq_left hl]; rfl
  lt := fun k hk => by
    have := ends_facts (lt_of_testBit hn hk)
    omega
  fwd := fun k hk => by
    have hkg := lt_of_testBit hn hk
    have hc := gapsN_cast w h
    obtain ⟨e1, e2, e3⟩ := ends_facts hkg
    obtain ⟨_, _, _, h4⟩ := end_facts (w := w) (h := h) (g := k) (by omega) (by omega)
    rw [e1] at h4
    simp only at h4
    have ho : openI n (k : Int) = true := by unfold openI; simp [hk]
    rcases h4 with ⟨a, b⟩ | ⟨a, b⟩
    · exact ⟨1, by omega, by unfold st stepI; rw [show ((1 : Nat) : Int) = 1 from rfl, b, if_pos ho, a]⟩
    · exact ⟨2, by omega, by unfold st stepI; rw [show ((2 : Nat) : Int) = 2 from rfl, b, if_pos ho, a]⟩
  bwd := fun k hk => by
    have hkg := lt_of_testBit hn hk
    have hc := gapsN_cast w h
    obtain ⟨e1, e2, e3⟩ := ends_facts hkg
    obtain ⟨_, _, _, h4⟩ := end_facts (w := w) (h := h) (g := k) (by omega) (by omega)
    rw [e1] at h4
    simp only at h4
    have ho : openI n (k : Int) = true := by unfold openI; simp [hk]
    rcases h4 with ⟨a, b⟩ | ⟨a, b⟩
    · rcases step_facts w h (ends w h k).1 1 with ⟨q, _⟩ | ⟨q1, q2, q3, q4, q5, q6, q7, q8⟩
      · omega
      · rw [a] at q7 q8
        exact ⟨3, by omega, by unfold st stepI; rw [show ((3 : Nat) : Int) = (1 + 2) % 4 from rfl, q8, b, if_pos ho, q7]⟩
    · rcases step_facts w h (ends w h k).1 2 with ⟨q, _⟩ | ⟨q1, q2, q3, q4, q5, q6, q7, q8⟩
      · omega
      · rw [a] at q7 q8
        exact ⟨0, by omega, by unfold st stepI; rw [show ((0 : Nat) : Int) = (2 + 2) % 4 from rfl, q8, b, if_pos ho, q7]⟩
/-- The distance from a cell, or -1. -/
def distN (w h : Int) (n s : Nat) : Nat → Int := bfsD (st w h n) (cellsN w h) s
theorem distN_dist {w h : Int} {n s : Nat} (hn : n < 2 ^ gapsN w h) (hs : s < cellsN w h) : Dist (st w h n) (cellsN w h) s (distN w h n s) := bfsD_dist (net_grid hn).rng hs
theorem distN_cn {w h : Int} {n s : Nat} (hn : n < 2 ^ gapsN w h) (hs : s < cellsN w h) (c : Nat) : 0 ≤ distN w h n s c ↔ Cn (ends w h) n s c := (distN_dist hn hs).cn (net_grid hn) c
end Go.Proofs.Ytoohcdfokejkdaa.P
namespace Go.Proofs.Ytoohcdfokejkdaa.P
open Go.RowKit Go.Proofs.YtoohcdfokejkdaaW.PrintWords Go.Proofs.YtoohcdfokejkdaaW.PrintLast Go.Proofs.YtoohcdfokejkdaaW.PrintMore
attribute [local go_sem] max2_int min2_int max_two min_two max_three min_three max_four min_four   -- for this text's walks alone
set_option linter.unusedVariables false
set_option linter.unusedSimpArgs false

/-! ### spec_l04Distances: function 132 -/
end Go.Proofs.Ytoohcdfokejkdaa.P
namespace Go.Proofs.Ytoohcdfokejkdaa.P
open Go.RowKit Go.Proofs.YtoohcdfokejkdaaW.PrintWords
set_option linter.unusedVariables false
set_option linter.unusedSimpArgs false

def ints (q : List Nat) : List Int := q.map fun (x : Nat) => (x : Int)
theorem ints_length (q : List Nat) : (ints q).length = q.length := by simp [ints]
theorem ints_app (q : List Nat) (y : Nat) : ints (q ++ [y]) = ints q ++ [(y : Int)] := by simp [ints]
theorem rd_ints {q : List Nat} {i x : Nat} (h : q[i]? = some x) : rd (ints q) (i : Int) = x := by
  rw [rd_nat, List.getD_eq_getElem?_getD]
  simp [ints, h]
/-- A function on the numbers under v as a list. -/
def dlist (v : Nat) (D : Nat → Int) : List Int := (List.range v).map D
theorem dlist_length (v : Nat) (D : Nat → Int) : (dlist v D).length = v := by simp [dlist]
theorem rd_dlist {v : Nat} {D : Nat → Int} {c : Nat} (h : c < v) : rd (dlist v D) (c : Int) = D c := by
  rw [rd_get (by rw [dlist_length]; exact h)]
  simp [dlist]
theorem dlist_set {v : Nat} {D : Nat → Int} {y : Nat} {a : Int} (h : y < v) : (dlist v D).set y a = dlist v (upd D y a) := by
  refine List.ext_getElem (by simp [dlist]) fun i h1 h2 => ?_
  rw [List.getElem_set]
  simp only [dlist, upd, List.getElem_map, List.getElem_range]
  by_cases e : y = i
  · rw [if_pos e, if_pos e.symm]
  · rw [if_neg e, if_neg (fun e' => e e'.symm)]
/-- What is kept while the search goes on. -/
structure SI (v : Nat) (S : (Nat → Int) × List Nat) : Prop where
  le : ∀ c, S.1 c ≤ S.2.length
  low : ∀ c, -1 ≤ S.1 c
  lt : ∀ c ∈ S.2, c < v
theorem SI.relax {v : Nat} {s : Nat → Nat → Int} (hs : Rng s v) {S : (Nat → Int) × List Nat} (I : SI v S) {x d : Nat} (hx : x < v) (hd : d < 4) : SI v (relax s x d S) ∧ (relax s x d S).2.length ≤ S.2.length + 1 ∧ ∀ (i z : Nat), S.2[i]? = some z → (relax s x d S).2[i]? = some z := by
  unfold Go.Proofs.Ytoohcdfokejkdaa.P.relax
  split
  · rename_i hc
    refine ⟨⟨fun c => ?_, fun c => ?_, fun c hcq => ?_⟩, by simp, fun i z hz => ?_⟩
    · have := I.le c
      have := I.le x
      show upd _ _ _ c ≤ _
      unfold upd
      simp only [List.length_append, List.length_singleton]
      split <;> omega
    · have := I.low c
      have := I.low x
      show _ ≤ upd _ _ _ c
      unfold upd
      split <;> omega
    · rcases List.mem_append.1 hcq with h | h
      · exact I.lt c h
      · simp at h
        have := hs x d hx hd
        omega
    · have hi := (List.getElem?_eq_some_iff.1 hz).1
      rw [List.getElem?_append_left hi]; exact hz
  · exact ⟨I, by omega, fun i z hz => hz⟩
def relaxL (s : Nat → Nat → Int) (x : Nat) : List Nat → (Nat → Int) × List Nat → (Nat → Int) × List Nat
  | [], S => S
  | d :: ds, S => relaxL s x ds (relax s x d S)
theorem relaxL_filter (s : Nat → Nat → Int) (x : Nat) : ∀ l S, relaxL s x (l.filter fun d => decide (0 ≤ s x d)) S = relaxL s x l S
  | [], S => rfl
  | d :: ds, S => by
    rw [List.filter_cons]
    by_cases h : 0 ≤ s x d
    · simp only [h, decide_true, if_true, relaxL]
      exact relaxL_filter s x ds _
    · simp only [h, decide_false, Bool.false_eq_true, if_false, relaxL]
      rw [relaxL_filter s x ds S, show relax s x d S = S from if_neg fun hc => h hc.1]
theorem bround_eq (s : Nat → Nat → Int) (x : Nat) (S : (Nat → Int) × List Nat) : bround s x S = relaxL s x [0, 1, 2, 3] S := rfl
theorem waysI_ints (w h : Int) (n c : Nat) : waysI w h n c = ints ([0, 1, 2, 3].filter fun d => decide (0 ≤ st w h n c d)) := by
  unfold waysI waysFrom st ints
  simp only [List.drop_zero, List.filter_cons, List.filter_nil]
  by_cases a : 0 ≤ stepI w h n c 0 <;> by_cases b : 0 ≤ stepI w h n c 1 <;> by_cases c' : 0 ≤ stepI w h n c 2 <;> by_cases d : 0 ≤ stepI w h n c 3 <;> simp [a, b, c', d]
section
variable {w h : Int} {n : Nat} (hg : gridOk w h = true) (hn : n < 2 ^ gapsN w h)
include hg hn
theorem impl_dist_l1 {x i : Nat} (W : List Nat) (hW : ∀ d ∈ W, d < 4 ∧ 0 ≤ st w h n x d) (hW4 : W.length ≤ 4) (res : List Int) :
    ∀ (e j : Nat) (S : (Nat → Int) × List Nat), j + e = W.length → SI (cellsN w h) S → S.2[i]? = some x → S.2.length ≤ 100 + j →
      (∀ S', S' = relaxL (st w h n) x (W.drop j) S → SI (cellsN w h) S' → Ev (fun k => impl_distances.l0 k (dlist (cellsN w h) S'.1) (ints S'.2) ((i + 1 : Nat) : Int) w h n) res) →
      Ev (fun k => impl_distances.l1 k (dlist (cellsN w h) S.1) (ints S.2) i (ints W) ((ints W).length : Int) j w h n) res
  | 0, j, S, hj, I, hx, hl, next => by
    have hi := (List.getElem?_eq_some_iff.1 hx).1
    refine Ev.step (fun _ => impl_distances.l1.eq_2 ..) (Ev.ff (by rw [ints_length]; omega) ?_)
    rw [wsucc (by omega)]
    exact next S (by rw [List.drop_eq_nil_of_le (by omega)]; rfl) I
  | e + 1, j, S, hj, I, hx, hl, next => by
    have hcast := cellsN_cast w h
    have hi := (List.getElem?_eq_some_iff.1 hx).1
    have hxv := I.lt x (List.mem_of_getElem? hx)
    have hjW : j < W.length := by omega
    obtain ⟨hd4, hd0⟩ := hW _ (List.getElem_mem hjW)
    have hdrop : W.drop j = W[j] :: W.drop (j + 1) := List.drop_eq_getElem_cons hjW
    have hwj : rd (ints W) (j : Int) = (W[j] : Nat) := rd_ints (List.getElem?_eq_getElem hjW)
    have hrng := (net_grid hn).rng x W[j] hxv hd4
    obtain ⟨y, hy⟩ : ∃ y : Nat, st w h n x W[j] = y := ⟨(st w h n x W[j]).toNat, by omega⟩
    have hyv : y < cellsN w h := by omega
    obtain ⟨I', hl', hk'⟩ := I.relax (net_grid hn).rng hxv hd4
    have ih := impl_dist_l1 W hW hW4 res e (j + 1) (relax (st w h n) x W[j] S) (by omega) I' (hk' i x hx) (by omega) (fun S' hS' I'' => next S' (by rw [hS', hdrop]; rfl) I'')
    refine Ev.step (fun _ => impl_distances.l1.eq_2 ..) ?_
    refine Ev.tt (by rw [ints_length]; omega) (Ev.tt (by omega) (Ev.tt (by rw [ints_length]; omega) (Ev.tt (by omega) (Ev.tt (by rw [ints_length]; omega) ?_))))
    rw [hwj, rd_ints hx]
    refine Ev.bind (impl_Step_ev hg hn x (W[j] : Nat)) ?_
    rw [show stepI w h n x (W[j] : Nat) = y from hy, wsucc (by omega)]
    refine Ev.tt (by omega) (Ev.tt (by rw [dlist_length]; omega) ?_)
    rw [rd_dlist hyv, rd_dlist hxv]
    refine Ev.ite (fun h1 => ?_) (fun h1 => ?_)
    · refine Ev.tt (by omega) (Ev.tt (by rw [dlist_length]; omega) (Ev.tt (by rw [ints_length]; omega) ?_))
      have hb1 := I.le x
      have hb2 : 0 ≤ S.1 x ∨ S.1 x < 0 := by omega
      have hrel : relax (st w h n) x W[j] S = (upd S.1 y (S.1 x + 1), S.2 ++ [y]) := by
        unfold relax
        rw [hy, Int.toNat_natCast, if_pos ⟨by omega, h1⟩]
      rw [hrel] at ih
      rw [Int.toNat_natCast, dlist_set hyv, ← ints_app]
      have := I.low x
      rw [wrap64_id (by omega) (by omega)]
      exact ih
    · have hrel : relax (st w h n) x W[j] S = S := by
        unfold relax
        rw [hy, Int.toNat_natCast, if_neg (fun hc => h1 hc.2)]
      rw [hrel] at ih
      exact ih
theorem impl_dist_l0 {src : Nat} (hs : src < cellsN w h) : ∀ (f i : Nat) (S : (Nat → Int) × List Nat), BInv (st w h n) (cellsN w h) src S i 0 → SI (cellsN w h) S → i ≤ S.2.length → cellsN w h + 1 - i ≤ f →
    Ev (fun k => impl_distances.l0 k (dlist (cellsN w h) S.1) (ints S.2) i w h n) (dlist (cellsN w h) (bfsF (st w h n) f S i))
  | 0, i, S, B, I, hi, hf => by have := B.len; omega
  | f + 1, i, S, B, I, hi, hf => by
    have h16 := cellsN_le w h
    have hlen := B.len
    refine Ev.step (fun _ => impl_distances.l0.eq_2 ..) ?_
    simp only [bfsF]
    cases hx : S.2[i]? with
    | none =>
      rw [List.getElem?_eq_none_iff] at hx
      exact Ev.ff (by rw [ints_length]; omega) (Ev.ret rfl)
    | some x =>
      have hil := (List.getElem?_eq_some_iff.1 hx).1
      have hxv := I.lt x (List.mem_of_getElem? hx)
      refine Ev.tt (by rw [ints_length]; omega) (Ev.tt (by omega) ?_)
      rw [rd_ints hx]
      refine Ev.bind (impl_Ways_ev hg hn _) ?_
      rw [waysI_ints]
      have hW : ∀ d ∈ ([0, 1, 2, 3].filter fun d => decide (0 ≤ st w h n x d)), d < 4 ∧ 0 ≤ st w h n x d := fun d hd => by
        rw [List.mem_filter] at hd
        refine ⟨?_, of_decide_eq_true hd.2⟩
        have := hd.1
        simp at this
        omega
      refine impl_dist_l1 hg hn (i := i) (x := x) _ hW (List.length_filter_le _ _) _ _ 0 S (Nat.zero_add _) I hx (by omega) (fun S' hS' I' => ?_)
      rw [List.drop_zero, relaxL_filter, ← bround_eq] at hS'
      subst hS'
      have B' := B.round (net_grid hn).rng hx
      refine impl_dist_l0 hs f (i + 1) _ B' I' ?_ (by omega)
      have h1 : ∀ m T, T.2.length ≤ (relax (st w h n) x m T).2.length := by
        intro m T
        unfold relax
        split <;> simp
      have := Nat.le_trans (h1 0 S) (Nat.le_trans (h1 1 _) (Nat.le_trans (h1 2 _) (h1 3 _)))
      show i + 1 ≤ (bround (st w h n) x S).2.length
      unfold bround
      omega
omit hg hn in
theorem SI.start {v src : Nat} (h : src < v) : SI v (upd (fun _ => -1) src 0, [src]) where
  le := fun c => by simp only [upd]; split <;> simp
  low := fun c => by simp only [upd]; split <;> omega
  lt := fun c hc => by simp at hc; omega
theorem impl_distances_ev {src : Nat} (hs : src < cellsN w h) : Ev (fun k => impl_distances.f k w h n src) (dlist (cellsN w h) (distN w h n src)) := by
  have h16 := cellsN_le w h
  have hcast := cellsN_cast w h
  unfold impl_distances.f
  refine Ev.bnd0 (impl_CountCells_eq w h) (Ev.bnd0 (a := dlist (cellsN w h) fun _ => -1) ?_ ?_)
  · unfold slices_Repeat_int_int.f
    rw [if_pos ⟨by simp, by omega, by omega⟩]
    congr 1
    refine List.ext_getElem (by simp [dlist]; omega) fun i h1 h2 => ?_
    simp [dlist, rd]
  · refine Ev.tt (by omega) (Ev.tt (by rw [dlist_length]; omega) ?_)
    rw [Int.toNat_natCast, dlist_set hs]
    exact impl_dist_l0 hg hn hs _ 0 _ (BInv.start hs) (SI.start hs) (by simp) (by omega)
end
end Go.Proofs.Ytoohcdfokejkdaa.P
namespace Go.Proofs.Ytoohcdfokejkdaa.P
open Go.RowKit Go.Proofs.YtoohcdfokejkdaaW.PrintWords
set_option linter.unusedVariables false
set_option linter.unusedSimpArgs false

def sumTo : Nat → (Nat → Int) → Int
  | 0, _ => 0
  | n + 1, f => sumTo n f + f n
theorem sumTo_congr {n : Nat} {f g : Nat → Int} (h : ∀ i, i < n → f i = g i) : sumTo n f = sumTo n g := by
  induction n with
  | zero => rfl
  | succ n ih => simp only [sumTo]; rw [ih (fun i hi => h i (by omega)), h n (by omega)]
theorem sumTo_zero {n : Nat} {f : Nat → Int} (h : ∀ i, i < n → f i = 0) : sumTo n f = 0 := by
  induction n with
  | zero => rfl
  | succ n ih => simp only [sumTo]; rw [ih (fun i hi => h i (by omega)), h n (by omega)]; rfl
/-- Two sums that differ at one place. -/
theorem sumTo_one {n : Nat} {f g : Nat → Int} {k : Nat} (hk : k < n) (h : ∀ i, i < n → i ≠ k → g i = f i) : sumTo n g = sumTo n f + (g k - f k) := by
  induction n with
  | zero => omega
  | succ n ih =>
    simp only [sumTo]
    by_cases e : k = n
    · subst e
      rw [sumTo_congr (fun i hi => h i (by omega) (by omega))]
      omega
    · rw [ih (by omega) (fun i hi hne => h i (by omega) hne), h n (by omega) (fun e' => e e'.symm)]
      omega
/-- s without k. -/
def del (s k : Nat) : Nat := andNot s (2 ^ k)
theorem testBit_del (s k i : Nat) : (del s k).testBit i = (s.testBit i && decide (i ≠ k)) := by
  unfold del
  rw [testBit_andNot, Nat.testBit_two_pow]
  by_cases h : i = k
  · simp [h]
  · simp [h, show ¬ k = i from fun e => h e.symm]
theorem del_le (s k : Nat) : del s k ≤ s := andNot_le _ _
theorem del_lt {s k : Nat} (h : s.testBit k = true) : del s k < s := by
  refine Nat.lt_of_le_of_ne (del_le s k) fun e => ?_
  have := testBit_del s k k
  rw [e, h] at this
  simp at this
theorem pop_del {n s k : Nat} (hk : k < n) (h : s.testBit k = true) : pop n s = pop n (del s k) + 1 := by
  induction n with
  | zero => omega
  | succ n ih =>
    simp only [pop]
    by_cases e : k = n
    · subst e
      rw [testBit_del, h, pop_congr (s := del s k) (t := s) (fun i hi => by rw [testBit_del]; simp; omega)]
      simp
    · rw [ih (by omega), testBit_del]
      simp [show ¬ n = k from fun e' => e e'.symm]
      omega
/-- How many of s stand above k, under n. -/
def above (n s k : Nat) : Nat := pop n (s / 2 ^ (k + 1))
/-- 1, or -1 for an odd number. -/
def sgn (c : Nat) : Int := if c % 2 = 0 then 1 else -1
theorem sgn_succ (c : Nat) : sgn (c + 1) = -sgn c := by
  unfold sgn
  by_cases h : c % 2 = 0
  · rw [if_pos h, if_neg (by omega)]
  · rw [if_neg h, if_pos (by omega)]; rfl
/-- The determinant of the first r rows, over the columns of s. -/
def Dn (a : Nat → Nat → Int) (n : Nat) : Nat → Nat → Int
  | 0, _ => 1
  | r + 1, s => sumTo n fun k => if s.testBit k then sgn (above n s k) * a r k * Dn a n r (del s k) else 0
/-- The determinant of as many rows as s has columns. -/
def Ds (a : Nat → Nat → Int) (n s : Nat) : Int := Dn a n (pop n s) s
def term (a : Nat → Nat → Int) (n s k : Nat) : Int := sgn (above n s k) * a (pop n s - 1) k * Ds a n (del s k)
theorem Ds_sum {a : Nat → Nat → Int} {n s : Nat} (h : pop n s ≠ 0) : Ds a n s = sumTo n fun k => if s.testBit k then term a n s k else 0 := by
  unfold Ds
  obtain ⟨r, hr⟩ : ∃ r, pop n s = r + 1 := ⟨pop n s - 1, by omega⟩
  rw [hr]
  simp only [Dn]
  refine sumTo_congr fun k hk => ?_
  by_cases hb : s.testBit k = true
  · rw [if_pos hb, if_pos hb]
    unfold term Ds
    rw [pop_del hk hb] at hr
    rw [pop_del hk hb, show pop n (del s k) = r by omega]
    rfl
  · rw [if_neg hb, if_neg hb]
theorem pop_ne {n s : Nat} (hs : s < 2 ^ n) (h0 : s ≠ 0) : pop n s ≠ 0 := by
  intro h
  apply h0
  apply Nat.eq_of_testBit_eq
  intro i
  rw [Nat.zero_testBit]
  by_cases hi : i < n
  · cases hb : s.testBit i
    · rfl
    · have := pop_del hi hb; omega
  · exact Nat.testBit_lt_two_pow (Nat.lt_of_lt_of_le hs (Nat.pow_le_pow_right (by decide) (by omega)))
theorem Ds_zero (a : Nat → Nat → Int) (n : Nat) : Ds a n 0 = 1 := by
  unfold Ds
  rw [show pop n 0 = 0 from by rw [pop_big (n := 0) (by decide) (by omega)]; rfl]
  rfl
theorem pop_full (n : Nat) : pop n (2 ^ n - 1) = n := by
  have : ∀ m, m ≤ n → pop m (2 ^ n - 1) = m := by
    intro m
    induction m with
    | zero => intro _; rfl
    | succ m ih =>
      intro h
      simp only [pop]
      rw [ih (by omega), Nat.testBit_two_pow_sub_one]
      simp
      omega
  exact this n (Nat.le_refl n)
def p1 (x : Nat) : Nat := ((x / 2) &&& 6148914691236517205) + (x &&& 6148914691236517205)
def p2 (x : Nat) : Nat := ((x / 4) &&& 3689348814741910323) + (x &&& 3689348814741910323)
def p3 (x : Nat) : Nat := (x / 16 + x) &&& 1085102592571150095
theorem and_split {a m : Nat} (b M : Nat) (ha : a < 256) (hm : m < 256) : (256 * b + a) &&& (256 * M + m) = 256 * (b &&& M) + (a &&& m) := by
  apply Nat.eq_of_testBit_eq
  intro i
  have h1 := Nat.testBit_two_pow_mul_add b (i := 8) ha i
  have h2 := Nat.testBit_two_pow_mul_add M (i := 8) hm i
  have h3 := Nat.testBit_two_pow_mul_add (b &&& M) (i := 8) (b := a &&& m) (Nat.lt_of_le_of_lt Nat.and_le_left ha) i
  simp only [show (2 : Nat) ^ 8 = 256 from rfl] at h1 h2 h3
  rw [Nat.testBit_and, h1, h2, h3]
  split <;> simp [Nat.testBit_and]
theorem p1_split (b a : Nat) (ha : a < 256) : p1 (256 * b + a) = 256 * (((b / 2) &&& 24019198012642645) + (b &&& 24019198012642645)) + p1 a := by
  have e1 : (256 * b + a) / 2 = 256 * (b / 2) + (128 * (b % 2) + a / 2) := by omega
  have e2 : ∀ c, c < 2 → ∀ a, a < 256 → (128 * c + a / 2) &&& 85 = (a / 2) &&& 6148914691236517205 := by decide +kernel
  have e3 : ∀ a, a < 256 → a &&& 85 = a &&& 6148914691236517205 := by decide +kernel
  unfold p1
  rw [e1, show (6148914691236517205 : Nat) = 256 * 24019198012642645 + 85 from rfl, and_split _ _ (by omega) (by decide), and_split _ _ ha (by decide), ← show (6148914691236517205 : Nat) = 256 * 24019198012642645 + 85 from rfl, e2 _ (Nat.mod_lt _ (by decide)) a ha, e3 a ha]
  omega
theorem p2_split (b a : Nat) (ha : a < 256) : p2 (256 * b + a) = 256 * (((b / 4) &&& 14411518807585587) + (b &&& 14411518807585587)) + p2 a := by
  have e1 : (256 * b + a) / 4 = 256 * (b / 4) + (64 * (b % 4) + a / 4) := by omega
  have e2 : ∀ c, c < 4 → ∀ a, a < 256 → (64 * c + a / 4) &&& 51 = (a / 4) &&& 3689348814741910323 := by decide +kernel
  have e3 : ∀ a, a < 256 → a &&& 51 = a &&& 3689348814741910323 := by decide +kernel
  unfold p2
  rw [e1, show (3689348814741910323 : Nat) = 256 * 14411518807585587 + 51 from rfl, and_split _ _ (by omega) (by decide), and_split _ _ ha (by decide), ← show (3689348814741910323 : Nat) = 256 * 14411518807585587 + 51 from rfl, e2 _ (Nat.mod_lt _ (by decide)) a ha, e3 a ha]
  omega
theorem p3_split (b a : Nat) (ha : a < 72) (hb : b % 16 ≤ 4) : p3 (256 * b + a) = 256 * ((b / 16 + b) &&& 4238682002231055) + p3 a := by
  have e1 : (256 * b + a) / 16 + (256 * b + a) = 256 * (b / 16 + b) + (16 * (b % 16) + a / 16 + a) := by omega
  have e2 : ∀ c, c < 5 → ∀ a, a < 72 → (16 * c + a / 16 + a) &&& 15 = (a / 16 + a) &&& 1085102592571150095 := by decide +kernel
  unfold p3
  rw [e1, show (1085102592571150095 : Nat) = 256 * 4238682002231055 + 15 from rfl, and_split _ _ (by omega) (by decide), ← show (1085102592571150095 : Nat) = 256 * 4238682002231055 + 15 from rfl, e2 _ (by omega) a ha]
theorem byte : ∀ a, a < 256 → p1 a < 256 ∧ p1 a % 4 ≤ 2 ∧ p2 (p1 a) < 72 ∧ p2 (p1 a) % 16 ≤ 4 ∧ p3 (p2 (p1 a)) = pop 8 a := by decide +kernel
theorem and_low {b M : Nat} (hb : b < 65536) : b &&& M = b &&& (M % 65536) := by
  have h := Nat.and_mod_two_pow (a := b) (b := M) (n := 16)
  simp only [show (2 : Nat) ^ 16 = 65536 from rfl] at h
  rw [Nat.mod_eq_of_lt hb, Nat.mod_eq_of_lt (Nat.lt_of_le_of_lt Nat.and_le_left hb)] at h
  exact h
theorem p1_hi {b : Nat} (hb : b < 65536) : ((b / 2) &&& 24019198012642645) + (b &&& 24019198012642645) = p1 b := by
  unfold p1
  rw [and_low (show b / 2 < 65536 by omega), and_low hb, and_low (M := 6148914691236517205) (show b / 2 < 65536 by omega), and_low (M := 6148914691236517205) hb]
theorem p2_hi {b : Nat} (hb : b < 65536) : ((b / 4) &&& 14411518807585587) + (b &&& 14411518807585587) = p2 b := by
  unfold p2
  rw [and_low (show b / 4 < 65536 by omega), and_low hb, and_low (M := 3689348814741910323) (show b / 4 < 65536 by omega), and_low (M := 3689348814741910323) hb]
theorem p3_hi {b : Nat} (hb : b < 61680) : (b / 16 + b) &&& 4238682002231055 = p3 b := by
  unfold p3
  rw [and_low (show b / 16 + b < 65536 by omega), and_low (M := 1085102592571150095) (show b / 16 + b < 65536 by omega)]
theorem p3_three {a b c : Nat} (ha : a < 256) (hb : b < 256) (hc : c < 256) : p3 (p2 (p1 (256 * (256 * c + b) + a))) = 256 * (256 * pop 8 c + pop 8 b) + pop 8 a := by
  obtain ⟨a1, _, a2, a3, a4⟩ := byte a ha
  obtain ⟨b1, _, b2, b3, b4⟩ := byte b hb
  obtain ⟨c1, _, c2, c3, c4⟩ := byte c hc
  rw [p1_split _ _ ha, p1_hi (by omega), p1_split _ _ hb, p1_hi (by omega)]
  rw [p2_split _ _ a1, p2_hi (by omega), p2_split _ _ b1, p2_hi (by omega)]
  rw [p3_split _ _ a2 (by omega), p3_hi (by omega), p3_split _ _ b2 c3, p3_hi (by omega), a4, b4, c4]
theorem pop24 (a b c : Nat) (ha : a < 256) (hb : b < 256) (hc : c < 256) : pop 24 (256 * (256 * c + b) + a) = pop 8 a + pop 8 b + pop 8 c := by
  rw [show 24 = 8 + (8 + 8) from rfl, pop_add, pop_add, show (2 : Nat) ^ 8 = 256 from rfl, show (256 * (256 * c + b) + a) / 256 = 256 * c + b by omega, show (256 * c + b) / 256 = c by omega]
  rw [← pop_mod 8 (256 * (256 * c + b) + a), ← pop_mod 8 (256 * c + b), show (2 : Nat) ^ 8 = 256 from rfl, show (256 * (256 * c + b) + a) % 256 = a by omega, show (256 * c + b) % 256 = b by omega, Nat.add_assoc]
theorem u64_small {n : Nat} (h : n < 18446744073709551616) : IntKind.u64.wrap (n : Int) = n := by
  rw [IntKind.wrap_u64]; omega
theorem u64_and {a b : Nat} (ha : a < 9223372036854775808) (hb : b < 9223372036854775808) : Go.bits .and .u64 a b = ((a &&& b : Nat) : Int) :=
  (bits_nat .u64 63 (by decide) (fun n h0 h1 => by rw [IntKind.wrap_u64]; omega) a b (by simpa using ha) (by simpa using hb)).1
def s1 (a : Int) : Int := IntKind.u64.wrap ((Go.bits .and .u64 (a / 2) 6148914691236517205) + (Go.bits .and .u64 a 6148914691236517205))
def s2 (a : Int) : Int := IntKind.u64.wrap ((Go.bits .and .u64 (a / 4) 3689348814741910323) + (Go.bits .and .u64 a 3689348814741910323))
def s3 (a : Int) : Int := Go.bits .and .u64 (IntKind.u64.wrap (a / 16 + a)) 1085102592571150095
def s4 (a : Int) : Int := IntKind.u64.wrap (a + a / 256)
def s5 (a : Int) : Int := IntKind.u64.wrap (a + a / 65536)
def s6 (a : Int) : Int := IntKind.u64.wrap (a + a / 4294967296)
theorem ones_steps (a : Int) : bits_OnesCount.f a = some (Go.bits .and .i64 (wrap64 (s6 (s5 (s4 (s3 (s2 (s1 a))))))) 127) := rfl
theorem s1_nat {a : Nat} (h : a < 16777216) : s1 (a : Int) = (p1 a : Int) := by
  unfold s1 p1
  rw [show ((a : Int) / 2) = ((a / 2 : Nat) : Int) by omega, show (6148914691236517205 : Int) = ((6148914691236517205 : Nat) : Int) from rfl, u64_and (by omega) (by decide), u64_and (by omega) (by decide)]
  have h1 : (a / 2 &&& 6148914691236517205) ≤ a / 2 := Nat.and_le_left
  have h2 : (a &&& 6148914691236517205) ≤ a := Nat.and_le_left
  rw [← Int.natCast_add, u64_small (by omega)]
theorem s2_nat {a : Nat} (h : a < 67108864) : s2 (a : Int) = (p2 a : Int) := by
  unfold s2 p2
  rw [show ((a : Int) / 4) = ((a / 4 : Nat) : Int) by omega, show (3689348814741910323 : Int) = ((3689348814741910323 : Nat) : Int) from rfl, u64_and (by omega) (by decide), u64_and (by omega) (by decide)]
  have h1 : (a / 4 &&& 3689348814741910323) ≤ a / 4 := Nat.and_le_left
  have h2 : (a &&& 3689348814741910323) ≤ a := Nat.and_le_left
  rw [← Int.natCast_add, u64_small (by omega)]
theorem s3_nat {a : Nat} (h : a < 268435456) : s3 (a : Int) = (p3 a : Int) := by
  unfold s3 p3
  rw [show ((a : Int) / 16 + a) = ((a / 16 + a : Nat) : Int) by omega, u64_small (by omega), show (1085102592571150095 : Int) = ((1085102592571150095 : Nat) : Int) from rfl, u64_and (by omega) (by decide)]
/-- The library's count of bits. -/
theorem ones_eq {s : Nat} (h : s < 16777216) : bits_OnesCount.f (s : Int) = some (pop 24 s : Int) := by
  rw [ones_steps]
  have h1 : p1 s < 67108864 := by
    unfold p1
    have h1 : (s / 2 &&& 6148914691236517205) ≤ s / 2 := Nat.and_le_left
    have h2 : (s &&& 6148914691236517205) ≤ s := Nat.and_le_left
    omega
  have h2 : p2 (p1 s) < 268435456 := by
    unfold p2
    have h3 : (p1 s / 4 &&& 3689348814741910323) ≤ p1 s / 4 := Nat.and_le_left
    have h4 : (p1 s &&& 3689348814741910323) ≤ p1 s := Nat.and_le_left
    omega
  rw [s1_nat h, s2_nat h1, s3_nat h2]
  obtain ⟨a, b, c, ha, hb, hc, rfl⟩ : ∃ a b c, a < 256 ∧ b < 256 ∧ c < 256 ∧ s = 256 * (256 * c + b) + a := ⟨s % 256, s / 256 % 256, s / 65536, by omega, by omega, by omega, by omega⟩
  rw [p3_three ha hb hc, pop24 _ _ _ ha hb hc]
  have qa := pop_le 8 a
  have qb := pop_le 8 b
  have qc := pop_le 8 c
  generalize pop 8 a = x at *
  generalize pop 8 b = y at *
  generalize pop 8 c = z at *
  have e4 : s4 ((256 * (256 * z + y) + x : Nat) : Int) = ((65536 * z + 256 * (y + z) + (x + y) : Nat) : Int) := by
    unfold s4
    rw [show (((256 * (256 * z + y) + x : Nat) : Int) + ((256 * (256 * z + y) + x : Nat) : Int) / 256) = ((65536 * z + 256 * (y + z) + (x + y) : Nat) : Int) by omega, u64_small (by omega)]
  have e5 : s5 ((65536 * z + 256 * (y + z) + (x + y) : Nat) : Int) = ((65536 * z + 256 * (y + z) + (x + y + z) : Nat) : Int) := by
    unfold s5
    rw [show (((65536 * z + 256 * (y + z) + (x + y) : Nat) : Int) + ((65536 * z + 256 * (y + z) + (x + y) : Nat) : Int) / 65536) = ((65536 * z + 256 * (y + z) + (x + y + z) : Nat) : Int) by omega, u64_small (by omega)]
  have e6 : s6 ((65536 * z + 256 * (y + z) + (x + y + z) : Nat) : Int) = ((65536 * z + 256 * (y + z) + (x + y + z) : Nat) : Int) := by
    unfold s6
    rw [show (((65536 * z + 256 * (y + z) + (x + y + z) : Nat) : Int) + ((65536 * z + 256 * (y + z) + (x + y + z) : Nat) : Int) / 4294967296) = ((65536 * z + 256 * (y + z) + (x + y + z) : Nat) : Int) by omega, u64_small (by omega)]
  rw [e4, e5, e6, wrap64_id (by omega) (by omega), show (127 : Int) = ((127 : Nat) : Int) from rfl, bits_and (by omega) (by decide)]
  congr 2
  rw [show (127 : Nat) = 2 ^ 7 - 1 from rfl, Nat.and_two_pow_sub_one_eq_mod]
  omega
theorem ones_eq' {n s : Nat} (hn : n ≤ 24) (h : s < 2 ^ n) : bits_OnesCount.f (s : Int) = some (pop n s : Int) := by
  rw [ones_eq (Nat.lt_of_lt_of_le h (Nat.pow_le_pow_right (by decide) hn)), pop_big h hn]
theorem wrap64_shift (x q : Int) : wrap64 (x + 18446744073709551616 * q) = wrap64 x := by unfold wrap64; omega
theorem wrap64_rep (x : Int) : ∃ q, wrap64 x = x + 18446744073709551616 * q := by
  refine ⟨-((x + 9223372036854775808) / 18446744073709551616), ?_⟩
  unfold wrap64
  omega
theorem wrap64_wrap (x : Int) : wrap64 (wrap64 x) = wrap64 x := by unfold wrap64; omega
theorem wrap64_add (x y : Int) : wrap64 (wrap64 x + wrap64 y) = wrap64 (x + y) := by unfold wrap64; omega
theorem wrap64_mull (x y : Int) : wrap64 (wrap64 x * y) = wrap64 (x * y) := by
  obtain ⟨q, hq⟩ := wrap64_rep x
  rw [hq, Int.add_mul, Int.mul_assoc, wrap64_shift]
theorem wrap64_mulr (x y : Int) : wrap64 (x * wrap64 y) = wrap64 (x * y) := by
  rw [Int.mul_comm, wrap64_mull, Int.mul_comm]
theorem wrap64_mul (x y : Int) : wrap64 (wrap64 x * wrap64 y) = wrap64 (x * y) := by rw [wrap64_mull, wrap64_mulr]
end Go.Proofs.Ytoohcdfokejkdaa.P
namespace Go.Proofs.Ytoohcdfokejkdaa.P
open Go.RowKit Go.Proofs.YtoohcdfokejkdaaW.PrintWords Go.Proofs.YtoohcdfokejkdaaW.PrintLast Go.Proofs.YtoohcdfokejkdaaW.PrintMore
attribute [local go_sem] max2_int min2_int max_two min_two max_three min_three max_four min_four   -- for this text's walks alone
set_option linter.unusedVariables false
set_option linter.unusedSimpArgs false

/-! ### laws_szIntS: function 59 -/
/-! ### laws_toIntS: function 62 -/
/-! ### laws_eqIntS: function 63 -/
/-! ### laws_markIntS: function 64 -/
/-! ### laws_heldIntS: function 65 -/
/-! ### laws_szIntSS: function 22 -/
/-! ### laws_toIntSS: function 24 -/
/-! ### laws_eqIntSS: function 25 -/
end Go.Proofs.Ytoohcdfokejkdaa.P
namespace Go.Proofs.Ytoohcdfokejkdaa.P
open Go.RowKit Go.Proofs.YtoohcdfokejkdaaW.PrintWords Go.Proofs.Ytoohcdfokejkdaa.Sup
set_option linter.unusedVariables false
set_option linter.unusedSimpArgs false

theorem rdL_get {l : List (List Int)} {i : Nat} (h : i < l.length) : rd_L2 l (i : Int) = l[i] := by simp [rd_L2, List.getD_eq_getElem?_getD, List.getElem?_eq_getElem h]
end Go.Proofs.Ytoohcdfokejkdaa.P
namespace Go.Proofs.Ytoohcdfokejkdaa.P
open Go.RowKit Go.Proofs.YtoohcdfokejkdaaW.PrintWords
set_option linter.unusedVariables false
set_option linter.unusedSimpArgs false

/-- An entry of a matrix. -/
def ent (m : List (List Int)) (r k : Nat) : Int := rd (rd_L2 m r) k
theorem rd_set {X : List Int} {i j : Nat} {v : Int} (hi : i < X.length) : rd (X.set i v) j = if j = i then v else rd X j := by
  by_cases e : j = i
  · subst e
    rw [if_pos rfl, rd_get (by simpa using hi)]
    simp
  · rw [if_neg e, rd_nat, rd_nat, List.getD_eq_getElem?_getD, List.getD_eq_getElem?_getD, List.getElem?_set_ne (fun e' => e e'.symm)]
theorem shl_det {n : Nat} (h : n ≤ 16) : shl .i64 1 (n : Int) = ((2 ^ n : Nat) : Int) := shl_pow (by omega)
theorem pow_small {n : Nat} (h : n ≤ 16) : 2 ^ n ≤ 65536 := Nat.pow_le_pow_right (by decide) h
theorem tmod_two (c : Nat) : (Int.tmod (c : Int) 2 = 1) ↔ ¬ c % 2 = 0 := by
  rw [Int.tmod_eq_emod_of_nonneg (by omega)]
  omega
def rowSum (a : Nat → Nat → Int) (n s j : Nat) : Int := sumTo j fun k => if s.testBit k then term a n s k else 0
theorem rowSum_skip {a : Nat → Nat → Int} {n s j : Nat} (h : s.testBit j = true → a (pop n s - 1) j = 0) : rowSum a n s (j + 1) = rowSum a n s j := by
  unfold rowSum
  simp only [sumTo]
  by_cases hb : s.testBit j = true
  · rw [if_pos hb]
    unfold term
    rw [h hb]
    simp
  · rw [if_neg hb, Int.add_zero]
theorem rowSum_next {a : Nat → Nat → Int} {n s j : Nat} (hb : s.testBit j = true) : rowSum a n s (j + 1) = rowSum a n s j + term a n s j := by
  unfold rowSum
  simp only [sumTo]
  rw [if_pos hb]
section
variable {m : List (List Int)} {n : Nat}
theorem impl_det_l1 (hn : n = m.length) (h16 : n ≤ 16) {s : Nat} (hs : s < 2 ^ n) (h0 : s ≠ 0) (row : List Int) (hr : row = rd_L2 m (pop n s - 1 : Nat)) (hl : row.length = n) (res : Int)
    (next : ∀ X : List Int, X.length = 2 ^ n → (∀ t : Nat, t < 2 ^ n → rd X t = if t < s + 1 then wrap64 (Ds (ent m) n t) else 0) → Ev (fun k => impl_determinant.l0 k m X ((s + 1 : Nat) : Int)) res) :
    ∀ (d j : Nat) (X : List Int), n - j = d → j ≤ n → X.length = 2 ^ n → (∀ t : Nat, t < 2 ^ n → t ≠ s → rd X t = if t < s then wrap64 (Ds (ent m) n t) else 0) → rd X s = wrap64 (rowSum (ent m) n s j) →
      Ev (fun k => impl_determinant.l1 k m X s row (n : Int) j) res
  | 0, j, X, hd, hj, hX, hi, hj2 => by
    have hp := pow_small h16
    refine Ev.step (fun _ => impl_determinant.l1.eq_2 ..) ?_
    refine Ev.ff (by omega) ?_
    rw [wsucc (by omega)]
    refine next X hX fun t ht => ?_
    by_cases e : t = s
    · subst e
      rw [if_pos (by omega), hj2, Ds_sum (pop_ne hs h0), show n = j by omega]
      rfl
    · rw [hi t ht e]
      by_cases h : t < s
      · rw [if_pos h, if_pos (by omega)]
      · rw [if_neg h, if_neg (by omega)]
  | d + 1, j, X, hd, hj, hX, hi, hj2 => by
    have hp := pow_small h16
    have ih := impl_det_l1 hn h16 hs h0 row hr hl res next d (j + 1)
    have hw : rd row j = ent m (pop n s - 1) j := by rw [hr]; rfl
    refine Ev.step (fun _ => impl_determinant.l1.eq_2 ..) ?_
    refine Ev.tt (by omega) (Ev.tt (by omega) (Ev.tt (by omega) ?_))
    have skip : (s.testBit j = true → ent m (pop n s - 1) j = 0) → Ev (fun k => impl_determinant.j2 k m X s j (rd row j) row (n : Int) j true) res := by
      intro h
      refine Ev.step (fun _ => impl_determinant.j2.eq_2 ..) ?_
      refine Ev.tt rfl ?_
      rw [wsucc (by omega)]
      exact ih X (by omega) (by omega) hX hi (by rw [hj2, rowSum_skip h])
    by_cases hv : rd row j = 0
    · exact Ev.tt hv (skip fun _ => by rw [← hw]; exact hv)
    · refine Ev.ff hv ?_
      rw [bit_zero (by omega)]
      cases hb : s.testBit j
      · exact skip fun h => by rw [hb] at h; cases h
      · refine Ev.step (fun _ => impl_determinant.j2.eq_2 ..) ?_
        refine Ev.ff (by simp) ?_
        have hdl := del_le s j
        have hdn : Go.bits .andNot .i64 (s : Int) (shl .i64 1 (j : Int)) = ((del s j : Nat) : Int) := by
          rw [shl_det (by omega), bits_andNot (by omega) (by have := pow_small (show j ≤ 16 by omega); omega)]
          rfl
        rw [wsucc (by omega)]
        refine Ev.tt (by omega) ?_
        rw [shr_nat (by omega), u64_small (by have := Nat.div_le_self s (2 ^ (j + 1)); omega)]
        refine Ev.bnd0 (ones_eq' (n := n) (by omega) (Nat.lt_of_le_of_lt (Nat.div_le_self _ _) hs)) ?_
        rw [hdn]
        have hD : rd X (del s j : Nat) = wrap64 (Ds (ent m) n (del s j)) := by
          have := del_lt hb
          rw [hi _ (by omega) (by omega), if_pos this]
        rw [hD, hj2]
        have fin : ∀ v : Int, wrap64 v = wrap64 (rowSum (ent m) n s (j + 1)) → v = wrap64 v → Ev (fun k => impl_determinant.l1 k m (X.set ((s : Int)).toNat v) s row (n : Int) ((j + 1 : Nat) : Int)) res := by
          intro v hv1 hv2
          rw [Int.toNat_natCast]
          refine ih _ (by omega) (by omega) (by rw [List.length_set]; exact hX) (fun t ht hne => ?_) ?_
          · rw [rd_set (by omega), if_neg hne]
            exact hi t ht hne
          · rw [rd_set (by omega), if_pos rfl, hv2, hv1]
        have ht := rowSum_next (a := ent m) (n := n) (s := s) (j := j) hb
        unfold term at ht
        rw [← hw] at ht
        refine Ev.ite (fun ho => ?_) (fun ho => ?_)
        · refine Ev.tt (by omega) (Ev.tt (by omega) (Ev.tt (by omega) (Ev.tt (by omega) (Ev.tt (by omega) ?_))))
          refine fin _ ?_ (wrap64_wrap _).symm
          rw [wrap64_wrap, wrap64_mul, wrap64_add, ht]
          have hsg : sgn (above n s j) = -1 := by unfold sgn; rw [if_neg]; exact (tmod_two _).1 ho
          rw [hsg]
          congr 2
          simp
        · refine Ev.tt (by omega) (Ev.tt (by omega) (Ev.tt (by omega) (Ev.tt (by omega) (Ev.tt (by omega) ?_))))
          refine fin _ ?_ (wrap64_wrap _).symm
          rw [wrap64_wrap, wrap64_mulr, wrap64_add, ht]
          have hsg : sgn (above n s j) = 1 := by unfold sgn; rw [if_pos]; exact Decidable.not_not.1 (fun h => ho ((tmod_two _).2 h))
          rw [hsg]
          congr 2
          simp
theorem impl_det_l0 (hn : n = m.length) (h16 : n ≤ 16) (hrow : ∀ r, r < n → (rd_L2 m (r : Nat)).length = n) : ∀ (d s : Nat) (X : List Int), 2 ^ n - s = d → s ≤ 2 ^ n → s ≠ 0 → X.length = 2 ^ n → (∀ t : Nat, t < 2 ^ n → rd X t = if t < s then wrap64 (Ds (ent m) n t) else 0) →
      Ev (fun k => impl_determinant.l0 k m X s) (wrap64 (Ds (ent m) n (2 ^ n - 1)))
  | 0, s, X, hd, hs, h0, hX, hi => by
    have hp := pow_small h16
    have hp1 : 0 < 2 ^ n := Nat.two_pow_pos n
    refine Ev.step (fun _ => impl_determinant.l0.eq_2 ..) ?_
    refine Ev.ff (by omega) ?_
    rw [hX, show wrap64 (((2 ^ n : Nat) : Int) - 1) = ((2 ^ n - 1 : Nat) : Int) by rw [wrap64_id (by omega) (by omega)]; omega]
    refine Ev.tt (by omega) (Ev.tt (by omega) (Ev.ret ?_))
    rw [hi _ (by omega), if_pos (by omega)]
  | d + 1, s, X, hd, hs, h0, hX, hi => by
    have hp := pow_small h16
    have hsl : s < 2 ^ n := by omega
    have hpn := pop_ne hsl h0
    have hpl := pop_le n s
    refine Ev.step (fun _ => impl_determinant.l0.eq_2 ..) ?_
    refine Ev.tt (by omega) ?_
    rw [u64_small (by omega)]
    refine Ev.bnd0 (ones_eq' (n := n) (by omega) hsl) ?_
    rw [show wrap64 ((pop n s : Int) - 1) = ((pop n s - 1 : Nat) : Int) by rw [wrap64_id (by omega) (by omega)]; omega]
    refine Ev.tt (by omega) (Ev.tt (by omega) ?_)
    have hl := hrow (pop n s - 1) (by omega)
    rw [hl]
    refine impl_det_l1 hn h16 hsl h0 _ rfl hl _ (fun X' hX' hi' => impl_det_l0 hn h16 hrow d (s + 1) X' (by omega) (by omega) (by omega) hX' hi') n 0 X (by omega) (by omega) hX (fun t ht hne => ?_) ?_
    · rw [hi t ht]
    · rw [hi s hsl, if_neg (by omega), show rowSum (ent m) n s 0 = 0 from rfl, wrap64_id (by decide) (by decide)]
theorem impl_det_ev (hn : n = m.length) (h16 : n ≤ 16) (hrow : ∀ r, r < n → (rd_L2 m (r : Nat)).length = n) : Ev (fun k => impl_determinant.f k m) (wrap64 (Ds (ent m) n (2 ^ n - 1))) := by
  have hp := pow_small h16
  have hp1 : 0 < 2 ^ n := Nat.two_pow_pos n
  unfold impl_determinant.f
  rw [← hn, shl_det h16]
  refine Ev.tt (by omega) (Ev.tt (by omega) (Ev.bnd0 rfl (Ev.tt (by rw [List.length_replicate]; omega) ?_)))
  refine impl_det_l0 hn h16 hrow (2 ^ n - 1) 1 _ rfl (by omega) (by omega) (by rw [List.length_set, List.length_replicate]; omega) fun t ht => ?_
  rw [show ((0 : Int)).toNat = 0 from rfl, rd_set (by rw [List.length_replicate]; omega)]
  by_cases e : t = 0
  · subst e
    rw [if_pos rfl, if_pos (by omega), Ds_zero, wrap64_id (by decide) (by decide)]
  · rw [if_neg e, if_neg (by omega), rd_nat, List.getD_eq_getElem?_getD]
    cases h : (List.replicate (((2 ^ n : Nat) : Int)).toNat (0 : Int))[t]? with
    | none => rfl
    | some v => exact (List.mem_replicate.1 (List.mem_of_getElem? h)).2
end
end Go.Proofs.Ytoohcdfokejkdaa.P
namespace Go.Proofs.Ytoohcdfokejkdaa.P
open Go.RowKit Go.Proofs.YtoohcdfokejkdaaW.PrintWords
set_option linter.unusedVariables false
set_option linter.unusedSimpArgs false

theorem sumTo_add (n : Nat) (f g : Nat → Int) : sumTo n (fun i => f i + g i) = sumTo n f + sumTo n g := by
  induction n with
  | zero => rfl
  | succ n ih => simp only [sumTo]; rw [ih]; omega
theorem sumTo_mul (n : Nat) (c : Int) (f : Nat → Int) : sumTo n (fun i => c * f i) = c * sumTo n f := by
  induction n with
  | zero => simp [sumTo]
  | succ n ih => simp only [sumTo]; rw [ih, Int.mul_add]
theorem sumTo_neg (n : Nat) (f : Nat → Int) : sumTo n (fun i => -f i) = -sumTo n f := by
  induction n with
  | zero => rfl
  | succ n ih => simp only [sumTo]; rw [ih]; omega
theorem sumTo_comm (m n : Nat) (f : Nat → Nat → Int) : sumTo m (fun i => sumTo n (fun j => f i j)) = sumTo n (fun j => sumTo m (fun i => f i j)) := by
  induction m with
  | zero => simp only [sumTo]; exact (sumTo_zero fun _ _ => rfl).symm
  | succ m ih => simp only [sumTo]; rw [ih, ← sumTo_add]
/-- A sum with two places set apart. -/
theorem sumTo_two {n i : Nat} {f g : Nat → Int} (h1 : i + 1 < n) (hs : g i + g (i + 1) = -(f i + f (i + 1))) (h : ∀ k, k < n → k ≠ i → k ≠ i + 1 → g k = -f k) : sumTo n g = -sumTo n f := by
  have e1 : sumTo n (fun k => g k + f k) = 0 := by
    have : ∀ m, m ≤ n → sumTo m (fun k => g k + f k) = if m = i + 1 then g i + f i else 0 := by
      intro m
      induction m with
      | zero => intro _; simp [sumTo]
      | succ m ih =>
        intro hm
        simp only [sumTo]
        rw [ih (by omega)]
        by_cases a : m = i
        · subst a; simp
        · by_cases b : m = i + 1
          · subst b; simp; omega
          · have := h m (by omega) a b
            simp [a, b]; omega
    rw [this n (Nat.le_refl n), if_neg (by omega)]
  rw [sumTo_add] at e1
  omega
theorem sgn_par {a b : Nat} (h : a % 2 = b % 2) : sgn a = sgn b := by unfold sgn; rw [h]
/-- Without the vector i. -/
def er (i : Nat) (A : Nat → Nat → Int) : Nat → Nat → Int := fun j => if j < i then A j else A (j + 1)
/-- Without the coordinate c. -/
def ec (c : Nat) (A : Nat → Nat → Int) : Nat → Nat → Int := fun j d => if d < c then A j d else A j (d + 1)
/-- With another vector at i. -/
def rp (A : Nat → Nat → Int) (i : Nat) (v : Nat → Int) : Nat → Nat → Int := fun j => if j = i then v else A j
def swp (A : Nat → Nat → Int) (i j : Nat) : Nat → Nat → Int := fun k => if k = i then A j else if k = j then A i else A k
/-- The determinant of r vectors, along the last coordinate. -/
def dt : Nat → (Nat → Nat → Int) → Int
  | 0, _ => 1
  | r + 1, A => sumTo (r + 1) fun i => sgn (r - i) * A i r * dt r (er i A)
theorem dt_congr : ∀ {r : Nat} {A B : Nat → Nat → Int}, (∀ i c, i < r → c < r → A i c = B i c) → dt r A = dt r B
  | 0, _, _, _ => rfl
  | r + 1, A, B, h => by
    simp only [dt]
    refine sumTo_congr fun i hi => ?_
    rw [h i r hi (by omega), dt_congr (A := er i A) (B := er i B)]
    intro j c hj hc
    unfold er
    split
    · exact h j c (by omega) (by omega)
    · exact h (j + 1) c (by omega) (by omega)
theorem er_rp_same (A : Nat → Nat → Int) (i : Nat) (v : Nat → Int) : er i (rp A i v) = er i A := by
  funext j
  unfold er rp
  split
  · rw [if_neg (by omega)]
  · rw [if_neg (by omega)]
theorem er_rp (A : Nat → Nat → Int) {k i : Nat} (h : k ≠ i) (v : Nat → Int) : er k (rp A i v) = rp (er k A) (if i < k then i else i - 1) v := by
  funext j
  simp only [er, rp]
  by_cases hk : i < k
  · rw [if_pos hk]
    repeat' split
    all_goals first | rfl | omega
  · rw [if_neg hk]
    repeat' split
    all_goals first | rfl | omega
theorem rp_same (A : Nat → Nat → Int) (i : Nat) (v : Nat → Int) : rp A i v i = v := if_pos rfl
theorem rp_ne (A : Nat → Nat → Int) {i j : Nat} (h : j ≠ i) (v : Nat → Int) : rp A i v j = A j := if_neg h
theorem dt_lin : ∀ {r : Nat} (A : Nat → Nat → Int) {i : Nat} (hi : i < r) (c d : Int) (u v : Nat → Int), dt r (rp A i (fun x => c * u x + d * v x)) = c * dt r (rp A i u) + d * dt r (rp A i v)
  | 0, _, _, hi, _, _, _, _ => by omega
  | r + 1, A, i, hi, c, d, u, v => by
    simp only [dt]
    rw [← sumTo_mul, ← sumTo_mul, ← sumTo_add]
    refine sumTo_congr fun k hk => ?_
    by_cases e : k = i
    · subst e
      simp only [rp_same, er_rp_same]
      grind
    · simp only [rp_ne _ e, er_rp _ e]
      rw [dt_lin (er k A) (by split <;> omega)]
      grind
theorem dt_adj : ∀ {r : Nat} (A : Nat → Nat → Int) {i : Nat} (hi : i + 1 < r), dt r (swp A i (i + 1)) = -dt r A
  | 0, _, _, hi => by omega
  | r + 1, A, i, hi => by
    simp only [dt]
    have h1 : er i (swp A i (i + 1)) = er (i + 1) A := by
      funext j; unfold er swp
      repeat' split
      all_goals first | rfl | omega | (congr 1; omega)
    have h2 : er (i + 1) (swp A i (i + 1)) = er i A := by
      funext j; unfold er swp
      repeat' split
      all_goals first | rfl | omega | (congr 1; omega)
    refine sumTo_two (i := i) hi ?_ ?_
    · rw [h1, h2, show swp A i (i + 1) i = A (i + 1) from if_pos rfl, show swp A i (i + 1) (i + 1) = A i by unfold swp; rw [if_neg (by omega), if_pos rfl], show r - i = (r - (i + 1)) + 1 by omega, sgn_succ]
      grind
    · intro k hk n1 n2
      have h3 : er k (swp A i (i + 1)) = swp (er k A) (if i < k then i else i - 1) ((if i < k then i else i - 1) + 1) := by
        funext j; simp only [er, swp]
        by_cases hk : i < k
        · rw [if_pos hk]
          repeat' split
          all_goals first | rfl | omega | (congr 1; omega)
        · rw [if_neg hk]
          repeat' split
          all_goals first | rfl | omega | (congr 1; omega)
      rw [h3, dt_adj (er k A) (by split <;> omega), show swp A i (i + 1) k = A k by unfold swp; rw [if_neg n1, if_neg n2]]
      grind
theorem dt_same : ∀ (d : Nat) {r : Nat} (A : Nat → Nat → Int) {i : Nat}, i + 1 + d < r → (∀ c, A i c = A (i + 1 + d) c) → dt r A = 0
  | 0, r, A, i, hj, h => by
    have h1 := dt_adj A (i := i) hj
    have h2 : swp A i (i + 1) = A := by
      funext k c; unfold swp
      split
      · rename_i e; subst e; exact (h c).symm
      · split
        · rename_i e; subst e; exact h c
        · rfl
    rw [h2] at h1
    omega
  | d + 1, r, A, i, hj, h => by
    have h1 := dt_adj A (i := i + 1 + d) (by omega)
    have h2 := dt_same d (r := r) (swp A (i + 1 + d) (i + 1 + d + 1)) (i := i) (by omega) (fun c => by
      unfold swp
      rw [if_neg (by omega), if_neg (by omega), if_pos rfl]
      exact h c)
    omega
theorem dt_eq {r : Nat} (A : Nat → Nat → Int) {i j : Nat} (hij : i ≠ j) (hi : i < r) (hj : j < r) (h : ∀ c, A i c = A j c) : dt r A = 0 := by
  rcases Nat.lt_or_gt_of_ne hij with hl | hl
  · exact dt_same (j - i - 1) A (i := i) (by omega) (fun c => by rw [show i + 1 + (j - i - 1) = j by omega]; exact h c)
  · exact dt_same (i - j - 1) A (i := j) (by omega) (fun c => by rw [show j + 1 + (i - j - 1) = i by omega]; exact (h c).symm)
theorem rp_self (A : Nat → Nat → Int) (i : Nat) : rp A i (A i) = A := by
  funext j; unfold rp; split
  · rename_i e; rw [e]
  · rfl
/-- A multiple of another vector added. -/
theorem dt_addrow {r : Nat} (A : Nat → Nat → Int) {i j : Nat} (hij : i ≠ j) (hi : i < r) (hj : j < r) (d : Int) : dt r (rp A i (fun x => A i x + d * A j x)) = dt r A := by
  have h := dt_lin A hi 1 d (A i) (A j)
  rw [rp_self, dt_eq (rp A i (A j)) hij hi hj (fun c => by rw [rp_same, rp_ne _ (Ne.symm hij)])] at h
  simp only [Int.one_mul, Int.mul_zero, Int.add_zero] at h
  exact h
theorem er_ec (A : Nat → Nat → Int) (i c : Nat) : er i (ec c A) = ec c (er i A) := by
  funext j d
  by_cases h : j < i <;> by_cases h2 : d < c <;> simp [er, ec, h, h2]
/-- Along the last vector. -/
theorem dt_lastvec : ∀ (r : Nat) (A : Nat → Nat → Int), dt (r + 1) A = sumTo (r + 1) fun c => sgn (r - c) * A r c * dt r (ec c A)
  | 0, A => rfl
  | r + 1, A => by
    have L : dt (r + 2) A = sumTo (r + 1) (fun i => sgn (r + 1 - i) * A i (r + 1) * dt (r + 1) (er i A)) + sgn (r + 1 - (r + 1)) * A (r + 1) (r + 1) * dt (r + 1) (er (r + 1) A) := rfl
    rw [L]
    show _ = sumTo (r + 1) (fun c => sgn (r + 1 - c) * A (r + 1) c * dt (r + 1) (ec c A)) + sgn (r + 1 - (r + 1)) * A (r + 1) (r + 1) * dt (r + 1) (ec (r + 1) A)
    have e1 : dt (r + 1) (er (r + 1) A) = dt (r + 1) (ec (r + 1) A) := dt_congr fun i c hi hc => by unfold er ec; rw [if_pos hi, if_pos hc]
    rw [e1]
    congr 1
    have e2 : sumTo (r + 1) (fun i => sgn (r + 1 - i) * A i (r + 1) * dt (r + 1) (er i A)) = sumTo (r + 1) (fun i => sumTo (r + 1) fun c => sgn (r + 1 - i) * sgn (r - c) * (A i (r + 1) * A (r + 1) c) * dt r (ec c (er i A))) := by
      refine sumTo_congr fun i hi => ?_
      rw [dt_lastvec r (er i A), ← sumTo_mul]
      refine sumTo_congr fun c hc => ?_
      rw [show er i A r = A (r + 1) from if_neg (by omega)]
      grind
    have e3 : sumTo (r + 1) (fun c => sgn (r + 1 - c) * A (r + 1) c * dt (r + 1) (ec c A)) = sumTo (r + 1) (fun c => sumTo (r + 1) fun i => sgn (r + 1 - i) * sgn (r - c) * (A i (r + 1) * A (r + 1) c) * dt r (ec c (er i A))) := by
      refine sumTo_congr fun c hc => ?_
      show _ * dt (r + 1) (ec c A) = _
      simp only [dt]
      rw [← sumTo_mul]
      refine sumTo_congr fun i hi => ?_
      rw [show ec c A i r = A i (r + 1) from if_neg (by omega), er_ec, show r + 1 - c = (r - c) + 1 by omega, show r + 1 - i = (r - i) + 1 by omega, sgn_succ, sgn_succ]
      grind
    rw [e2, e3, sumTo_comm]
def tr (A : Nat → Nat → Int) : Nat → Nat → Int := fun i c => A c i
theorem dt_tr : ∀ (r : Nat) (A : Nat → Nat → Int), dt r (tr A) = dt r A
  | 0, A => rfl
  | r + 1, A => by
    rw [dt_lastvec r A]
    simp only [dt]
    refine sumTo_congr fun i hi => ?_
    have : er i (tr A) = tr (ec i A) := by
      funext j c; simp only [er, tr, ec]
      split <;> rfl
    rw [this, dt_tr r (ec i A)]
    rfl
/-- Along any vector. -/
theorem dt_vec {r : Nat} : ∀ (d p : Nat) (A : Nat → Nat → Int), p + d = r → dt (r + 1) A = sumTo (r + 1) fun c => sgn (p + c) * A p c * dt r (er p (ec c A))
  | 0, p, A, h => by
    have : p = r := by omega
    subst this
    rw [dt_lastvec]
    refine sumTo_congr fun c hc => ?_
    rw [sgn_par (show (p - c) % 2 = (p + c) % 2 by omega)]
    congr 1
    exact dt_congr fun i c' hi hc' => by unfold er; rw [if_pos hi]
  | d + 1, p, A, h => by
    have h1 := dt_adj A (i := p) (r := r + 1) (by omega)
    have h2 := dt_vec (r := r) d (p + 1) (swp A p (p + 1)) (by omega)
    rw [h2] at h1
    have h3 : sumTo (r + 1) (fun c => sgn (p + 1 + c) * swp A p (p + 1) (p + 1) c * dt r (er (p + 1) (ec c (swp A p (p + 1))))) = -sumTo (r + 1) fun c => sgn (p + c) * A p c * dt r (er p (ec c A)) := by
      rw [← sumTo_neg]
      refine sumTo_congr fun c hc => ?_
      have h4 : er (p + 1) (ec c (swp A p (p + 1))) = er p (ec c A) := by
        funext j d
        have h4 : er (p + 1) (swp A p (p + 1)) = er p A := by
          funext j; simp only [er, swp]
          repeat' split
          all_goals first | rfl | omega | (congr 1; omega)
        rw [er_ec, h4, er_ec]
      rw [h4, show swp A p (p + 1) (p + 1) = A p by unfold swp; rw [if_neg (by omega), if_pos rfl], show p + 1 + c = p + c + 1 by omega, sgn_succ]
      grind
    omega
theorem sumTo_single {n q : Nat} {f : Nat → Int} (hq : q < n) (h : ∀ i, i < n → i ≠ q → f i = 0) : sumTo n f = f q := by
  have := sumTo_one (f := fun _ => 0) (g := f) hq (fun i hi hne => h i hi hne)
  rw [sumTo_zero (f := fun _ => 0) (fun _ _ => rfl)] at this
  omega
/-- Along a vector with one entry. -/
theorem dt_unit {r : Nat} (A : Nat → Nat → Int) {p q : Nat} (hp : p ≤ r) (hq : q ≤ r) (h : ∀ c, c ≤ r → c ≠ q → A p c = 0) : dt (r + 1) A = sgn (p + q) * A p q * dt r (er p (ec q A)) := by
  rw [dt_vec (r - p) p A (by omega)]
  refine sumTo_single (f := fun c => sgn (p + c) * A p c * dt r (er p (ec c A))) (by omega) fun c hc hne => ?_
  rw [h c (by omega) hne]
  simp
theorem dt_zero {r : Nat} (A : Nat → Nat → Int) {i : Nat} (hi : i < r) (h : ∀ c, c < r → A i c = 0) : dt r A = 0 := by
  have := dt_lin A hi 0 0 (A i) (A i)
  rw [show dt r (rp A i fun x => 0 * A i x + 0 * A i x) = dt r A from dt_congr fun j c hj hc => by
    unfold rp; split
    · rename_i e; subst e; rw [h c hc]; simp
    · rfl] at this
  simpa using this
end Go.Proofs.Ytoohcdfokejkdaa.P
namespace Go.Proofs.Ytoohcdfokejkdaa.P
open Go.RowKit Go.Proofs.YtoohcdfokejkdaaW.PrintWords
set_option linter.unusedVariables false
set_option linter.unusedSimpArgs false

def dl (x y : Nat) : Int := if x = y then 1 else 0
theorem dl_self (x : Nat) : dl x x = 1 := if_pos rfl
theorem dl_ne {x y : Nat} (h : x ≠ y) : dl x y = 0 := if_neg h
/-- An edge as a vector over the vertices that stand for their parts, without the root. -/
def vg (l : Nat → Nat) (r : Nat) (e : Nat × Nat) (x : Nat) : Int := if x = r then 0 else dl x (l e.1) - dl x (l e.2)
/-- The matrix over all vertices: 1 at the root and at vertices that do not stand for a part. -/
def dg (l : Nat → Nat) (r x y : Nat) : Int := if x = y ∧ (l x ≠ x ∨ x = r) then 1 else 0
def sg (e : Nat → Nat × Nat) (E : Nat) (l : Nat → Nat) (r : Nat) (U : Nat → Bool) (x y : Nat) : Int := sumTo E fun g => if U g then vg l r (e g) x * vg l r (e g) y else 0
def big (e : Nat → Nat × Nat) (E : Nat) (l : Nat → Nat) (r : Nat) (U : Nat → Bool) (x y : Nat) : Int := dg l r x y + sg e E l r U x y
theorem unit_row {r : Nat} {A : Nat → Nat → Int} {t : Nat} (ht : t ≤ r) (h : ∀ c, c ≤ r → A t c = dl t c) : dt (r + 1) A = dt r (er t (ec t A)) := by
  rw [dt_unit A ht ht (fun c hc hne => by rw [h c hc, dl_ne (Ne.symm hne)]), h t ht, dl_self, sgn_par (show (t + t) % 2 = 0 % 2 by omega)]
  simp [sgn]
theorem minor_congr {r : Nat} {A B : Nat → Nat → Int} {t : Nat} (ht : t ≤ r) (h : ∀ x y, x ≤ r → y ≤ r → x ≠ t → y ≠ t → A x y = B x y) : dt r (er t (ec t A)) = dt r (er t (ec t B)) := by
  refine dt_congr fun i c hi hc => ?_
  by_cases h1 : i < t <;> by_cases h2 : c < t <;> simp only [er, ec, h1, h2, if_true, if_false] <;> exact h _ _ (by omega) (by omega) (by omega) (by omega)
section
variable {e : Nat → Nat × Nat} {E : Nat} {l : Nat → Nat} {r : Nat} {U : Nat → Bool} {g P Q : Nat}
def lq (l : Nat → Nat) (P Q : Nat) : Nat → Nat := fun x => if l x = Q then P else l x
def uq (U : Nat → Bool) (g : Nat) : Nat → Bool := fun h => U h && decide (h ≠ g)
theorem sg_split (hg : g < E) (hU : U g = true) (x y : Nat) : sg e E l r U x y = sg e E l r (uq U g) x y + vg l r (e g) x * vg l r (e g) y := by
  unfold sg
  rw [sumTo_one hg (f := fun h => if uq U g h then vg l r (e h) x * vg l r (e h) y else 0) (g := fun h => if U h then vg l r (e h) x * vg l r (e h) y else 0) (fun i hi hne => by simp [uq, hne])]
  simp [uq, hU]
theorem lq_ne (hPQ : P ≠ Q) (x : Nat) : lq l P Q x ≠ Q := by
  unfold lq; split
  · exact hPQ
  · assumption
theorem dl_lq (hPQ : P ≠ Q) {x : Nat} (hx : x ≠ Q) (a : Nat) : dl x (lq l P Q a) = dl x (l a) + if x = P then dl Q (l a) else 0 := by
  unfold lq dl
  by_cases h : l a = Q
  · rw [if_pos h, h, if_neg hx, if_pos rfl]; simp
  · rw [if_neg h, if_neg (show ¬ Q = l a from fun e => h e.symm)]; simp
variable (hl : ∀ x, l (l x) = l x) (hr : l r = r) (hg : g < E) (hU : U g = true) (hP : P = l (e g).1 ∧ Q = l (e g).2 ∨ P = l (e g).2 ∧ Q = l (e g).1) (hPQ : P ≠ Q)
include hl hr hg hU hP hPQ
omit hr hg hU hPQ in
theorem lP : l P = P := by rcases hP with ⟨h, _⟩ | ⟨h, _⟩ <;> rw [h, hl]
omit hr hg hU hPQ in
theorem lQ : l Q = Q := by rcases hP with ⟨_, h⟩ | ⟨_, h⟩ <;> rw [h, hl]
omit hl hr hPQ in
theorem sg_w (x y : Nat) : sg e E l r U x y = sg e E l r (uq U g) x y + (if x = r then 0 else dl x P - dl x Q) * (if y = r then 0 else dl y P - dl y Q) := by
  rw [sg_split hg hU]
  congr 1
  unfold vg
  rcases hP with ⟨h1, h2⟩ | ⟨h1, h2⟩
  · rw [h1, h2]
  · rw [h1, h2]
    split <;> split <;> grind
omit hr hg hU in
theorem dg_lq {x : Nat} (hx : x ≠ Q) (y : Nat) : dg (lq l P Q) r x y = dg l r x y := by
  have h1 := lP hl hP
  unfold dg lq
  by_cases h : l x = Q
  · rw [if_pos h]
    have : x ≠ P := by rintro rfl; exact hPQ (h1.symm.trans h)
    simp [h, Ne.symm hx, Ne.symm this]
  · rw [if_neg h]
omit hr in
/-- The root is elsewhere. -/
theorem big_join_far {v : Nat} (hPv : P < v) (hQv : Q < v) (h1 : r ≠ P) (h2 : r ≠ Q) : dt v (big e E l r U) = dt v (big e E l r (uq U g)) + dt v (big e E (lq l P Q) r (uq U g)) := by
  obtain ⟨v, rfl⟩ : ∃ u, v = u + 1 := ⟨v - 1, by omega⟩
  have l1 := lP hl hP
  have l2 := lQ hl hP
  generalize hB : big e E l r (uq U g) = B
  generalize hw : (fun x => if x = r then (0 : Int) else dl x P - dl x Q) = w
  have hwP : w P = 1 := by rw [← hw]; simp [h1.symm, dl, hPQ]
  have hwQ : w Q = -1 := by rw [← hw]; simp [h2.symm, dl, hPQ.symm]
  have hw0 : ∀ x, x ≠ P → x ≠ Q → w x = 0 := fun x a b => by rw [← hw]; simp [dl, a, b]
  have hM : ∀ x y, big e E l r U x y = B x y + w x * w y := by
    intro x y
    rw [← hB, ← hw]
    unfold big
    rw [sg_w hg hU hP x y, ← Int.add_assoc]
  generalize hMM : big e E l r U = M at *
  have a1 := dt_addrow M (i := P) (j := Q) hPQ hPv hQv 1
  have a2 : (fun c => M P c + 1 * M Q c) = fun c => B P c + B Q c := by
    funext c
    rw [hM, hM, hwP, hwQ]; omega
  rw [a2] at a1
  have a3 : rp M P (fun c => B P c + B Q c) = rp (rp B P (fun c => B P c + 1 * B Q c)) Q (fun c => 1 * B Q c + (-1) * w c) := by
    funext x c
    unfold rp
    by_cases x1 : x = P
    · subst x1; simp [hPQ]
    · by_cases x2 : x = Q
      · subst x2; rw [if_neg x1, if_pos rfl, hM, hwQ]; omega
      · rw [if_neg x1, if_neg x2, if_neg x1, hM, hw0 x x1 x2]; omega
  rw [a3, dt_lin _ hQv, show rp (rp B P (fun c => B P c + 1 * B Q c)) Q (B Q) = rp B P (fun c => B P c + 1 * B Q c) by
    funext x; unfold rp
    by_cases x2 : x = Q
    · subst x2; rw [if_pos rfl, if_neg hPQ.symm]
    · rw [if_neg x2], dt_addrow B hPQ hPv hQv 1] at a1
  -- the second one
  generalize hG : rp (rp B P (fun c => B P c + 1 * B Q c)) Q w = G at *
  have b1 := dt_addrow (tr G) (i := P) (j := Q) hPQ hPv hQv 1
  rw [dt_tr, ← dt_tr] at b1
  generalize hG' : tr (rp (tr G) P (fun x => tr G P x + 1 * tr G Q x)) = G' at *
  have c1 : ∀ x y, G' x y = if y = P then G x P + G x Q else G x y := by
    intro x y
    rw [← hG']
    unfold tr rp
    split <;> simp
  have gQ : ∀ y, G Q y = w y := fun y => by rw [← hG, rp_same]
  have b2 : dt (v + 1) G' = -dt v (er Q (ec Q G')) := by
    rw [dt_unit G' (p := Q) (q := Q) (by omega) (by omega) (fun c hc hne => by
      rw [c1]
      by_cases x1 : c = P
      · rw [if_pos x1, gQ, gQ, hwP, hwQ]; rfl
      · rw [if_neg x1, gQ, hw0 c x1 hne]), c1, if_neg hPQ.symm, gQ, hwQ, sgn_par (show (Q + Q) % 2 = 0 % 2 by omega)]
    simp [sgn]
  have b3 : dt (v + 1) (big e E (lq l P Q) r (uq U g)) = dt v (er Q (ec Q (big e E (lq l P Q) r (uq U g)))) := by
    refine unit_row (by omega) fun c hc => ?_
    have z : ∀ h, vg (lq l P Q) r (e h) Q = 0 := fun h => by
      unfold vg
      rw [dl_ne (Ne.symm (lq_ne hPQ _)), dl_ne (Ne.symm (lq_ne hPQ _))]; simp
    unfold big sg dg
    rw [sumTo_zero fun i hi => by rw [z]; simp]
    have : lq l P Q Q ≠ Q := lq_ne hPQ _
    simp [this, dl]
  have b4 : dt v (er Q (ec Q (big e E (lq l P Q) r (uq U g)))) = dt v (er Q (ec Q G')) := by
    refine minor_congr (by omega) fun x y hx hy hxQ hyQ => ?_
    have vx : ∀ x, x ≠ Q → ∀ h, vg (lq l P Q) r (e h) x = vg l r (e h) x + if x = P then vg l r (e h) Q else 0 := by
      intro x hxQ h
      unfold vg
      rw [dl_lq hPQ hxQ, dl_lq hPQ hxQ, if_neg h2.symm]
      by_cases x1 : x = P
      · rw [if_pos x1, if_neg (by rw [x1]; exact h1.symm), if_pos x1, if_pos x1]; rw [if_neg (by rw [x1]; exact h1.symm)]; omega
      · rw [if_neg x1, if_neg x1, if_neg x1]; simp
    have sgP : ∀ y, B P y = sg e E l r (uq U g) P y := fun y => by
      rw [← hB]; unfold big dg
      rw [if_neg (fun hh => hh.2.elim (fun h => h l1) (fun h => h1 h.symm))]; omega
    have sgQ : ∀ y, B Q y = sg e E l r (uq U g) Q y := fun y => by
      rw [← hB]; unfold big dg
      rw [if_neg (fun hh => hh.2.elim (fun h => h l2) (fun h => h2 h.symm))]; omega
    have sgx : ∀ x, x ≠ Q → B x Q = sg e E l r (uq U g) x Q := fun x hxQ => by
      rw [← hB]; unfold big dg
      rw [if_neg (by rintro ⟨h, _⟩; exact hxQ h)]; omega
    have sgxP : ∀ x, x ≠ P → B x P = sg e E l r (uq U g) x P := fun x hxQ => by
      rw [← hB]; unfold big dg
      rw [if_neg (by rintro ⟨h, _⟩; exact hxQ h)]; omega
    have dP : ∀ y, dg l r P y = 0 := fun y => by unfold dg; rw [if_neg (fun hh => hh.2.elim (fun h => h l1) (fun h => h1 h.symm))]
    have dP' : ∀ x, x ≠ P → dg l r x P = 0 := fun x hx => by unfold dg; rw [if_neg (by rintro ⟨h, _⟩; exact hx h)]
    have gP : ∀ y, G P y = B P y + B Q y := fun y => by rw [← hG, rp_ne _ hPQ, rp_same]; omega
    have gx : ∀ x, x ≠ P → x ≠ Q → G x = B x := fun x a b => by rw [← hG, rp_ne _ b, rp_ne _ a]
    have key : big e E (lq l P Q) r (uq U g) x y = dg l r x y + (sg e E l r (uq U g) x y + (if x = P then sg e E l r (uq U g) Q y else 0) + (if y = P then sg e E l r (uq U g) x Q else 0) + (if x = P ∧ y = P then sg e E l r (uq U g) Q Q else 0)) := by
      unfold big
      rw [dg_lq hl hP hPQ hxQ]
      congr 1
      unfold sg
      simp only [vx x hxQ, vx y hyQ]
      by_cases x1 : x = P <;> by_cases y1 : y = P <;> simp only [x1, y1, if_true, if_false, and_self, and_true, and_false, false_and, true_and, Int.add_zero]
      · rw [← sumTo_add, ← sumTo_add, ← sumTo_add]
        refine sumTo_congr fun i hi => ?_
        split <;> grind
      · rw [← sumTo_add]
        refine sumTo_congr fun i hi => ?_
        split <;> grind
      · rw [← sumTo_add]
        refine sumTo_congr fun i hi => ?_
        split <;> grind
    rw [key, c1]
    by_cases x1 : x = P
    · subst x1
      by_cases y1 : y = x
      · subst y1
        simp only [if_true, and_self]
        rw [gP, gP, sgP, sgP, sgQ, sgQ, dP]; omega
      · simp only [if_true, y1, if_false, and_false]
        rw [gP, sgP, sgQ, dP]; omega
    · rw [gx x x1 hxQ]
      simp only [x1, false_and, if_false]
      by_cases y1 : y = P
      · subst y1
        rw [if_pos rfl, if_pos rfl, sgxP x x1, sgx x hxQ, dP' x x1]; omega
      · rw [if_neg y1, if_neg y1, ← hB]
        unfold big; omega
  rw [b3, b4]
  omega
omit hr in
/-- The root is one of the two. -/
theorem big_join_near {v : Nat} (hPv : P < v) (hQv : Q < v) (h : r = P ∨ r = Q) : dt v (big e E l r U) = dt v (big e E l r (uq U g)) + dt v (big e E (lq l P Q) P (uq U g)) := by
  obtain ⟨v, rfl⟩ : ∃ u, v = u + 1 := ⟨v - 1, by omega⟩
  have l1 := lP hl hP
  have l2 := lQ hl hP
  obtain ⟨t, htv, htr, ht⟩ : ∃ t, t < v + 1 ∧ t ≠ r ∧ (r = P ∧ t = Q ∨ r = Q ∧ t = P) := by
    rcases h with h | h
    · exact ⟨Q, hQv, by rw [h]; exact hPQ.symm, .inl ⟨h, rfl⟩⟩
    · exact ⟨P, hPv, by rw [h]; exact hPQ, .inr ⟨h, rfl⟩⟩
  generalize hB : big e E l r (uq U g) = B
  have hM : ∀ x y, big e E l r U x y = B x y + dl x t * dl y t := by
    intro x y
    rw [← hB]
    unfold big
    rw [sg_w hg hU hP x y, ← Int.add_assoc]
    congr 1
    rcases ht with ⟨e1, e2⟩ | ⟨e1, e2⟩
    · rw [e1, e2]
      unfold dl
      by_cases a : x = P <;> by_cases b : y = P <;> by_cases c : x = Q <;> by_cases d : y = Q <;> simp_all
    · rw [e1, e2]
      unfold dl
      by_cases a : x = P <;> by_cases b : y = P <;> by_cases c : x = Q <;> by_cases d : y = Q <;> simp_all
  have a1 : big e E l r U = rp B t (fun c => 1 * B t c + 1 * dl t c) := by
    funext x c
    rw [hM]
    unfold rp
    by_cases e1 : x = t
    · subst e1
      rw [if_pos rfl, dl_self, show dl c x = dl x c by unfold dl; simp [eq_comm]]; omega
    · rw [if_neg e1, dl_ne e1]; omega
  rw [a1, dt_lin _ htv, rp_self]
  have b1 : dt (v + 1) (rp B t (dl t)) = dt v (er t (ec t (rp B t (dl t)))) := unit_row (by omega) fun c hc => by rw [rp_same]
  have b3 : dt (v + 1) (big e E (lq l P Q) P (uq U g)) = dt v (er t (ec t (big e E (lq l P Q) P (uq U g)))) := by
    refine unit_row (by omega) fun c hc => ?_
    have z : ∀ h, vg (lq l P Q) P (e h) t = 0 := fun h => by
      unfold vg
      rcases ht with ⟨e1, e2⟩ | ⟨e1, e2⟩
      · rw [e2, dl_ne (Ne.symm (lq_ne hPQ _)), dl_ne (Ne.symm (lq_ne hPQ _))]; simp
      · rw [if_pos e2]
    unfold big sg dg
    rw [sumTo_zero fun i hi => by rw [z]; simp]
    have : lq l P Q t ≠ t ∨ t = P := by
      rcases ht with ⟨e1, e2⟩ | ⟨e1, e2⟩
      · left; rw [e2]; exact lq_ne hPQ _
      · right; exact e2
    simp [this, dl]
  have b4 : dt v (er t (ec t (big e E (lq l P Q) P (uq U g)))) = dt v (er t (ec t (rp B t (dl t)))) := by
    refine minor_congr (by omega) fun x y hx hy hxt hyt => ?_
    rw [rp_ne _ hxt, ← hB]
    unfold big
    have vx : ∀ x, x ≠ t → ∀ h, vg (lq l P Q) P (e h) x = vg l r (e h) x := by
      intro x hxt h
      unfold vg
      rcases ht with ⟨e1, e2⟩ | ⟨e1, e2⟩
      · rw [e2] at hxt
        rw [e1]
        by_cases x1 : x = P
        · rw [if_pos x1, if_pos x1]
        · rw [if_neg x1, if_neg x1, dl_lq hPQ hxt, dl_lq hPQ hxt, if_neg x1, if_neg x1]; omega
      · rw [e2] at hxt
        rw [e1, if_neg hxt]
        by_cases x1 : x = Q
        · rw [if_pos x1, x1, dl_ne (Ne.symm (lq_ne hPQ _)), dl_ne (Ne.symm (lq_ne hPQ _))]; rfl
        · rw [if_neg x1, dl_lq hPQ x1, dl_lq hPQ x1, if_neg hxt, if_neg hxt]; omega
    congr 1
    · rcases ht with ⟨e1, e2⟩ | ⟨e1, e2⟩
      · rw [e2] at hxt
        have := dg_lq (r := r) hl hP hPQ hxt y
        rwa [e1] at this ⊢
      · rw [e2] at hxt
        by_cases x1 : x = Q
        · have := lq_ne (l := l) hPQ Q
          rw [x1, e1]
          unfold dg
          simp [this]
        · rw [show dg (lq l P Q) P x y = dg (lq l P Q) r x y by unfold dg; rw [e1]; simp [hxt, x1]]
          exact dg_lq hl hP hPQ x1 y
    · unfold sg
      simp only [vx x hxt, vx y hyt]
  rw [b1, b3, b4]
  omega
end
end Go.Proofs.Ytoohcdfokejkdaa.P
namespace Go.Proofs.Ytoohcdfokejkdaa.P
open Go.RowKit Go.Proofs.YtoohcdfokejkdaaW.PrintWords
set_option linter.unusedVariables false
set_option linter.unusedSimpArgs false

theorem cnt_add {p q r : Nat → Bool} {v : Nat} (h : ∀ i, i < v → (p i).toNat = (q i).toNat + (r i).toNat) : cnt p v = cnt q v + cnt r v := by
  induction v with
  | zero => rfl
  | succ n ih => simp only [cnt]; rw [ih (fun i hi => h i (by omega)), h n (by omega)]; omega
theorem cnt_single {p : Nat → Bool} {v m : Nat} (hm : m < v) (h : ∀ i, i < v → i ≠ m → p i = false) : cnt p v = (p m).toNat := by
  cases hp : p m with
  | false => rw [cnt_zero_iff.2 fun i hi => by by_cases e : i = m; · rw [e, hp]
                                               · exact h i hi e]; rfl
  | true =>
    rw [cnt_one (q := fun _ => false) hm hp rfl (fun i hi hne => h i hi hne), cnt_zero_iff.2 (fun _ _ => rfl)]
    rfl
theorem cnt_pos {p : Nat → Bool} {v m : Nat} (hm : m < v) (hp : p m = true) : 0 < cnt p v := by
  rcases Nat.eq_zero_or_pos (cnt p v) with h | h
  · rw [cnt_zero_iff.1 h m hm] at hp; cases hp
  · exact h
/-- Neither chosen nor banned. -/
def und (c b : Nat) : Nat → Bool := fun g => !c.testBit g && !b.testBit g
/-- One part, and no loop. -/
def perf (e : Nat → Nat × Nat) (V E t : Nat) : Bool := decide (parts e V E t = 1 ∧ pop E t + 1 = V)
def sup (E c b t : Nat) : Bool := decide (∀ i, i < E → (c.testBit i = true → t.testBit i = true) ∧ (b.testBit i = true → t.testBit i = false))
/-- How many perfect ones have all that is chosen and nothing that is banned. -/
def trees (e : Nat → Nat × Nat) (V E c b : Nat) : Nat := cnt (fun t => sup E c b t && perf e V E t) (2 ^ E)
theorem sup_iff {E c b t : Nat} : sup E c b t = true ↔ ∀ i, i < E → (c.testBit i = true → t.testBit i = true) ∧ (b.testBit i = true → t.testBit i = false) := by unfold sup; rw [decide_eq_true_eq]
theorem sup_split {E c b g t : Nat} (hg : g < E) (hu : und c b g = true) : (sup E c b t).toNat = (sup E (setB c g true) b t).toNat + (sup E c (setB b g true) t).toNat := by
  simp only [und, Bool.and_eq_true, Bool.not_eq_true'] at hu
  have h1 : sup E (setB c g true) b t = (sup E c b t && t.testBit g) := by
    rw [Bool.eq_iff_iff, Bool.and_eq_true, sup_iff, sup_iff]
    simp only [testBit_setB]
    constructor
    · intro h
      refine ⟨fun i hi => ⟨fun hc => (h i hi).1 (by split <;> simp [hc]), (h i hi).2⟩, (h g hg).1 (by simp)⟩
    · rintro ⟨h, h2⟩ i hi
      refine ⟨fun hc => ?_, (h i hi).2⟩
      split at hc
      · rename_i e; rw [e]; exact h2
      · exact (h i hi).1 hc
  have h2 : sup E c (setB b g true) t = (sup E c b t && !t.testBit g) := by
    rw [Bool.eq_iff_iff, Bool.and_eq_true, sup_iff, sup_iff]
    simp only [testBit_setB, Bool.not_eq_true']
    constructor
    · intro h
      refine ⟨fun i hi => ⟨(h i hi).1, fun hc => (h i hi).2 (by split <;> simp [hc])⟩, (h g hg).2 (by simp)⟩
    · rintro ⟨h, h2⟩ i hi
      refine ⟨(h i hi).1, fun hc => ?_⟩
      split at hc
      · rename_i e; rw [e]; exact h2
      · exact (h i hi).2 hc
  rw [h1, h2]
  cases sup E c b t <;> cases t.testBit g <;> rfl
theorem trees_split {e : Nat → Nat × Nat} {V E c b g : Nat} (hg : g < E) (hu : und c b g = true) : trees e V E c b = trees e V E (setB c g true) b + trees e V E c (setB b g true) := by
  unfold trees
  refine cnt_add fun t ht => ?_
  have := sup_split (t := t) hg hu
  cases h1 : perf e V E t
  · simp
  · simpa using this
theorem perf_iff {e : Nat → Nat × Nat} {V E t : Nat} : perf e V E t = true ↔ parts e V E t = 1 ∧ pop E t + 1 = V := by unfold perf; rw [decide_eq_true_eq]
theorem perf_bridge {e : Nat → Nat × Nat} {V E t j : Nat} (hg : Gr e V E) (ht : t < 2 ^ E) (hp : perf e V E t = true) (hb : t.testBit j = true) : ¬ Cn e (setB t j false) (e j).1 (e j).2 := by
  rw [perf_iff] at hp
  exact bridge_of_forest hg ht (by omega) hb
/-- No tree holds a loop. -/
theorem trees_loop {e : Nat → Nat × Nat} {V E c b g : Nat} (hG : Gr e V E) (hc : c < 2 ^ E) (hg : g < E) (hu : und c b g = true) (hl : Cn e c (e g).1 (e g).2) : trees e V E (setB c g true) b = 0 := by
  simp only [und, Bool.and_eq_true, Bool.not_eq_true'] at hu
  unfold trees
  rw [cnt_zero_iff]
  intro t ht
  rw [Bool.and_eq_false_iff]
  cases hp : perf e V E t
  · exact .inr rfl
  · left
    rw [Bool.eq_false_iff]
    intro hs
    rw [sup_iff] at hs
    have hb : t.testBit g = true := (hs g hg).1 (setB_bit ..)
    refine perf_bridge hG ht hp hb (hl.mono fun i hi => ?_)
    have hne : i ≠ g := by rintro rfl; rw [hu.1] at hi; cases hi
    rw [setB_ne _ hne]
    exact (hs i (lt_of_testBit hc hi)).1 (by rw [setB_ne _ hne]; exact hi)
theorem dt_one : ∀ {r : Nat} {A : Nat → Nat → Int}, (∀ x y, x < r → y < r → A x y = dl x y) → dt r A = 1
  | 0, _, _ => rfl
  | r + 1, A, h => by
    rw [unit_row (t := r) (Nat.le_refl r) (fun c hc => h r c (by omega) (by omega))]
    refine dt_one fun x y hx hy => ?_
    simp only [er, ec, hx, hy, if_true]
    exact h x y (by omega) (by omega)
theorem lab_join {e : Nat → Nat × Nat} {E c g : Nat} (hc : c < 2 ^ E) (hg : g < E) (x : Nat) :
    lab e (setB c g true) E x = lq (lab e c E) (min (lab e c E (e g).1) (lab e c E (e g).2)) (max (lab e c E (e g).1) (lab e c E (e g).2)) x := by
  have hc' : setB c g true < 2 ^ E := setB_lt true hc hg
  have m : ∀ {x y}, Cn e c x y → Cn e (setB c g true) x y := fun h => h.mono fun i hi => by rw [testBit_setB]; split <;> simp [hi]
  have hk : Cn e (setB c g true) (e g).1 (e g).2 := Cn.edge (setB_bit ..)
  have c1 := m (lab_cn (e := e) hc (e g).1)
  have c2 := m (lab_cn (e := e) hc (e g).2)
  have cx := m (lab_cn (e := e) hc x)
  have hcn : Cn e (setB c g true) x (lq (lab e c E) (min (lab e c E (e g).1) (lab e c E (e g).2)) (max (lab e c E (e g).1) (lab e c E (e g).2)) x) := by
    unfold lq
    split
    · rename_i h
      rcases Nat.le_total (lab e c E (e g).1) (lab e c E (e g).2) with hle | hle
      · rw [Nat.max_eq_right hle] at h
        rw [Nat.min_eq_left hle]
        rw [h] at cx
        exact ((cx.trans c2.symm).trans hk.symm).trans c1
      · rw [Nat.max_eq_left hle] at h
        rw [Nat.min_eq_right hle]
        rw [h] at cx
        exact ((cx.trans c1.symm).trans hk).trans c2
    · exact cx
  have hle : ∀ z, Cn e (setB c g true) x z → lq (lab e c E) (min (lab e c E (e g).1) (lab e c E (e g).2)) (max (lab e c E (e g).1) (lab e c E (e g).2)) x ≤ z := by
    intro z hz
    rw [Cn_add] at hz
    unfold lq
    rcases hz with h | ⟨h1, h2⟩ | ⟨h1, h2⟩
    · have := lab_least hc h
      split
      · rename_i e1; omega
      · exact this
    · have e1 := (lab_iff hc _ _).2 h1
      have e2 := lab_least hc h2
      split
      · omega
      · rename_i e3; omega
    · have e1 := (lab_iff hc _ _).2 h1
      have e2 := lab_least hc h2
      split
      · omega
      · rename_i e3; omega
  have a := lab_least hc' hcn
  have b := hle _ (lab_cn hc' x)
  omega
/-- The matrix with all that is neither chosen nor banned. -/
def treeM (e : Nat → Nat × Nat) (E c b k : Nat) : Nat → Nat → Int := big e E (lab e c E) (lab e c E k) (und c b)
theorem und_ban (c b g : Nat) : und c (setB b g true) = uq (und c b) g := by
  funext h
  simp only [und, uq, testBit_setB]
  by_cases e : h = g
  · simp [e]
  · simp [e]
theorem und_choose (c b g : Nat) : und (setB c g true) b = uq (und c b) g := by
  funext h
  simp only [und, uq, testBit_setB]
  by_cases e : h = g
  · simp [e]
  · simp [e]
theorem treeM_split {e : Nat → Nat × Nat} {V E c b g k : Nat} (hG : Gr e V E) (hc : c < 2 ^ E) (hg : g < E) (hu : und c b g = true) (hk : k < V) (hl : ¬ Cn e c (e g).1 (e g).2) :
    dt V (treeM e E c b k) = dt V (treeM e E c (setB b g true) k) + dt V (treeM e E (setB c g true) b k) := by
  have hne : lab e c E (e g).1 ≠ lab e c E (e g).2 := fun h => hl ((lab_iff hc _ _).1 h)
  have q1 := lab_le e c E (e g).1
  have q2 := lab_le e c E (e g).2
  have q3 := (hG g hg).1
  have q4 := (hG g hg).2
  have hPQ : min (lab e c E (e g).1) (lab e c E (e g).2) ≠ max (lab e c E (e g).1) (lab e c E (e g).2) := by omega
  have hPP : min (lab e c E (e g).1) (lab e c E (e g).2) = lab e c E (e g).1 ∧ max (lab e c E (e g).1) (lab e c E (e g).2) = lab e c E (e g).2 ∨ min (lab e c E (e g).1) (lab e c E (e g).2) = lab e c E (e g).2 ∧ max (lab e c E (e g).1) (lab e c E (e g).2) = lab e c E (e g).1 := by omega
  have hlf : lab e (setB c g true) E = lq (lab e c E) (min (lab e c E (e g).1) (lab e c E (e g).2)) (max (lab e c E (e g).1) (lab e c E (e g).2)) := funext fun x => lab_join hc hg x
  unfold treeM
  rw [und_ban, und_choose, hlf]
  by_cases hr : lab e c E k = min (lab e c E (e g).1) (lab e c E (e g).2) ∨ lab e c E k = max (lab e c E (e g).1) (lab e c E (e g).2)
  · have hr' : lq (lab e c E) (min (lab e c E (e g).1) (lab e c E (e g).2)) (max (lab e c E (e g).1) (lab e c E (e g).2)) k = min (lab e c E (e g).1) (lab e c E (e g).2) := by
      unfold lq
      split
      · rfl
      · rcases hr with h | h
        · exact h
        · contradiction
    rw [hr']
    exact big_join_near (fun x => lab_lab e c E x) hg hu hPP hPQ (by omega) (by omega) hr
  · have hr' : lq (lab e c E) (min (lab e c E (e g).1) (lab e c E (e g).2)) (max (lab e c E (e g).1) (lab e c E (e g).2)) k = lab e c E k := by
      unfold lq
      rw [if_neg fun h => hr (.inr h)]
    rw [hr']
    exact big_join_far (fun x => lab_lab e c E x) hg hu hPP hPQ (by omega) (by omega) (fun h => hr (.inl h)) (fun h => hr (.inr h))
theorem treeM_loop {e : Nat → Nat × Nat} {V E c b g k : Nat} (hc : c < 2 ^ E) (hl : Cn e c (e g).1 (e g).2) : dt V (treeM e E c b k) = dt V (treeM e E c (setB b g true) k) := by
  refine dt_congr fun x y hx hy => ?_
  unfold treeM big sg
  congr 1
  refine sumTo_congr fun h hh => ?_
  rw [und_ban]
  unfold uq
  by_cases e1 : h = g
  · subst e1
    have : vg (lab e c E) (lab e c E k) (e h) x = 0 := by unfold vg; rw [(lab_iff hc _ _).2 hl]; split <;> omega
    rw [this]; simp
  · simp [e1]
theorem trees_det {e : Nat → Nat × Nat} {V E k : Nat} (hG : Gr e V E) (hk : k < V) : ∀ d c b, c < 2 ^ E → b < 2 ^ E → (∀ i, c.testBit i = true → b.testBit i = false) → pop E c + parts e V E c = V → cnt (und c b) E = d →
    dt V (treeM e E c b k) = (trees e V E c b : Int)
  | 0, c, b, hc, hb, hd, hf, h0 => by
    rw [cnt_zero_iff] at h0
    have hM : ∀ x y, treeM e E c b k x y = dg (lab e c E) (lab e c E k) x y := fun x y => by
      unfold treeM big sg
      rw [sumTo_zero fun i hi => by rw [h0 i hi]; rfl]; omega
    have hcb : ∀ i, i < E → (b.testBit i = !c.testBit i) := fun i hi => by
      have h1 := h0 i hi
      have h2 := hd i
      unfold und at h1
      cases a : c.testBit i <;> cases a2 : b.testBit i <;> simp_all
    have hN : trees e V E c b = (perf e V E c).toNat := by
      unfold trees
      rw [cnt_single hc (fun t ht hne => by
        rw [Bool.and_eq_false_iff]; left
        rw [Bool.eq_false_iff]
        intro hs
        rw [sup_iff] at hs
        apply hne
        apply Nat.eq_of_testBit_eq
        intro i
        by_cases hi : i < E
        · have := hs i hi
          have := hcb i hi
          cases a : c.testBit i <;> simp_all
        · rw [Nat.testBit_lt_two_pow (Nat.lt_of_lt_of_le ht (Nat.pow_le_pow_right (by decide) (by omega))), Nat.testBit_lt_two_pow (Nat.lt_of_lt_of_le hc (Nat.pow_le_pow_right (by decide) (by omega)))])]
      rw [show sup E c b c = true from sup_iff.2 fun i hi => ⟨id, fun h => by
        have := hcb i hi; rw [h] at this
        cases a : c.testBit i
        · rfl
        · rw [a] at this; exact absurd this (by decide)⟩, Bool.true_and]
    rw [hN]
    have hp : perf e V E c = decide (parts e V E c = 1) := by
      unfold perf
      rw [decide_eq_decide]
      omega
    have hkl := lab_le e c E k
    have hkk := lab_lab e c E k
    rw [hp]
    by_cases h1 : ∀ x, x < V → lab e c E x ≠ x ∨ x = lab e c E k
    · have : parts e V E c = 1 := by
        unfold parts
        rw [cnt_single (m := lab e c E k) (by omega) (fun x hx hne => by
          rcases h1 x hx with h | h
          · simpa using h
          · exact absurd h hne)]
        simp [hkk]
      rw [this, dt_one fun x y hx hy => by
        rw [hM]; unfold dg dl
        by_cases e1 : x = y
        · rw [if_pos ⟨e1, h1 x hx⟩, if_pos e1]
        · rw [if_neg (fun h => e1 h.1), if_neg e1]]
      rfl
    · have ⟨x, hx⟩ := Classical.not_forall.1 h1
      rw [Classical.not_imp, not_or, Classical.not_not] at hx
      obtain ⟨hxV, hx1, hx2⟩ := hx
      rw [dt_zero _ hxV fun y hy => by rw [hM]; unfold dg; exact if_neg fun h => h.2.elim (fun h => h hx1) hx2]
      have : parts e V E c ≠ 1 := by
        intro h
        unfold parts at h
        have h2 := cnt_one (p := fun x => lab e c E x == x) (q := fun z => (lab e c E z == z) && decide (z ≠ x)) hxV (by simp [hx1]) (by simp) (fun i hi hne => by simp [hne])
        have h3 := cnt_pos (p := fun z => (lab e c E z == z) && decide (z ≠ x)) (v := V) (m := lab e c E k) (by omega) (by simp [hkk, Ne.symm hx2])
        omega
      simp [this]
  | d + 1, c, b, hc, hb, hd, hf, h0 => by
    obtain ⟨g, hg, hu⟩ : ∃ g, g < E ∧ und c b g = true := by
      apply Classical.byContradiction
      intro h
      have : cnt (und c b) E = 0 := cnt_zero_iff.2 fun i hi => by
        rw [Bool.eq_false_iff]
        intro h2
        exact h ⟨i, hi, h2⟩
      omega
    have hu' := hu
    simp only [und, Bool.and_eq_true, Bool.not_eq_true'] at hu'
    have hcd : cnt (uq (und c b) g) E = d := by
      have := cnt_one (p := und c b) (q := uq (und c b) g) hg hu (by simp [uq]) (fun i hi hne => by simp [uq, hne])
      omega
    have hB := trees_det hG hk d c (setB b g true) hc (setB_lt true hb hg) (fun i hi => by
      rw [testBit_setB]
      split
      · rename_i e1; rw [e1, hu'.1] at hi; cases hi
      · exact hd i hi) hf (by rw [und_ban]; exact hcd)
    rw [trees_split hg hu]
    have hpa := parts_add (e := e) hc hg (hG g hg).1 (hG g hg).2
    by_cases hl : Cn e c (e g).1 (e g).2
    · rw [treeM_loop hc hl, hB, trees_loop hG hc hg hu hl, Nat.zero_add]
    · have hC := trees_det hG hk d (setB c g true) b (setB_lt true hc hg) hb (fun i hi => by
        rw [testBit_setB] at hi
        split at hi
        · rename_i e1; rw [e1]; exact hu'.2
        · exact hd i hi) (by rw [pop_setB hg hu'.1]; have := hpa.2 hl; omega) (by rw [und_choose]; exact hcd)
      rw [treeM_split hG hc hg hu hk hl, hB, hC]
      omega
theorem cnt_all {p : Nat → Bool} {n : Nat} (h : ∀ i, i < n → p i = true) : cnt p n = n := by
  induction n with
  | zero => rfl
  | succ n ih => simp only [cnt]; rw [ih fun i hi => h i (by omega), h n (by omega)]; rfl
theorem cnt_shift (p : Nat → Bool) (t : Nat) (ht : p t = false) : ∀ x, cnt (fun i => if i < t then p i else p (i + 1)) x = cnt p (if x < t then x else x + 1)
  | 0 => by
    by_cases h : 0 < t
    · rw [if_pos h]; rfl
    · have : t = 0 := by omega
      subst this
      simp [cnt, ht]
  | x + 1 => by
    simp only [cnt]
    rw [cnt_shift p t ht x]
    by_cases h : x + 1 < t
    · rw [if_pos (by omega), if_pos (by omega), if_pos h]; rfl
    · rw [if_neg h]
      by_cases e : x < t
      · have e1 : t = x + 1 := by omega
        subst e1
        rw [if_pos e, if_pos e]
        simp only [cnt, ht]
        rfl
      · rw [if_neg e, if_neg e]; rfl
theorem dt_comp : ∀ (d V : Nat) (p : Nat → Bool) (A B : Nat → Nat → Int), cnt p V + d = V → (∀ x y, x < V → y < V → p x = false → A x y = dl x y) → (∀ x y, x < V → y < V → p x = true → p y = true → B (cnt p x) (cnt p y) = A x y) → dt V A = dt (cnt p V) B
  | 0, V, p, A, B, hc, hu, hB => by
    have hall : ∀ i, i < V → p i = true := by
      intro i hi
      cases hp : p i
      · have := cnt_one (p := fun j => p j || decide (j = i)) (q := p) hi (by simp) hp (fun j _ hne => by simp [hne])
        have := cnt_le (fun j => p j || decide (j = i)) V
        omega
      · rfl
    rw [cnt_all hall]
    refine dt_congr fun x y hx hy => ?_
    have := hB x y hx hy (hall x hx) (hall y hy)
    rw [cnt_all fun i hi => hall i (by omega), cnt_all fun i hi => hall i (by omega)] at this
    exact this.symm
  | d + 1, V, p, A, B, hc, hu, hB => by
    obtain ⟨t, ht, hpt⟩ : ∃ t, t < V ∧ p t = false := by
      apply Classical.byContradiction
      intro h
      have := cnt_all (p := p) (n := V) fun i hi => by
        cases hp : p i
        · exact absurd ⟨i, hi, hp⟩ h
        · rfl
      omega
    obtain ⟨r, rfl⟩ : ∃ r, V = r + 1 := ⟨V - 1, by omega⟩
    rw [unit_row (show t ≤ r by omega) fun c hc => hu t c ht (by omega) hpt]
    have hs : ∀ x, cnt (fun i => if i < t then p i else p (i + 1)) x = cnt p (if x < t then x else x + 1) := cnt_shift p t hpt
    have hr := hs r
    rw [if_neg (by omega)] at hr
    have hA : ∀ x y, er t (ec t A) x y = A (if x < t then x else x + 1) (if y < t then y else y + 1) := fun x y => by
      unfold er ec
      by_cases h1 : x < t <;> by_cases h2 : y < t <;> simp [h1, h2]
    rw [dt_comp d r (fun i => if i < t then p i else p (i + 1)) (er t (ec t A)) B (by omega) ?_ ?_, hr]
    · intro x y hx hy hp
      rw [hA]
      by_cases h1 : x < t <;> by_cases h2 : y < t <;> simp only [h1, h2, if_true, if_false] at hp ⊢
      · exact hu _ _ (by omega) (by omega) hp
      · rw [hu _ _ (by omega) (by omega) hp, dl_ne (by omega), dl_ne (by omega)]
      · rw [hu _ _ (by omega) (by omega) hp, dl_ne (by omega), dl_ne (by omega)]
      · rw [hu _ _ (by omega) (by omega) hp]; unfold dl; by_cases e : x = y
        · rw [if_pos (by omega), if_pos e]
        · rw [if_neg (by omega), if_neg e]
    · intro x y hx hy hpx hpy
      rw [hs, hs, hA]
      refine hB _ _ (by split <;> omega) (by split <;> omega) ?_ ?_
      · by_cases h1 : x < t
        · simpa only [h1, if_true] using hpx
        · simpa only [h1, if_false] using hpx
      · by_cases h1 : y < t
        · simpa only [h1, if_true] using hpy
        · simpa only [h1, if_false] using hpy
end Go.Proofs.Ytoohcdfokejkdaa.P
namespace Go.Proofs.Ytoohcdfokejkdaa.P
open Go.RowKit Go.Proofs.YtoohcdfokejkdaaW.PrintWords
set_option linter.unusedVariables false
set_option linter.unusedSimpArgs false

/-- The place of a vertex's part among the parts. -/
def plc (e : Nat → Nat × Nat) (E c x : Nat) : Nat := cnt (fun z => lab e c E z == z) (lab e c E x)
def pm (e : Nat → Nat × Nat) (E : Nat) (P : Nat → Nat) (U : Nat → Bool) (i j : Nat) : Int := sumTo E fun g => if U g then (dl i (P (e g).1) - dl i (P (e g).2)) * (dl j (P (e g).1) - dl j (P (e g).2)) else 0
theorem cnt_lt {p : Nat → Bool} {m n : Nat} (h : m < n) (hp : p m = true) : cnt p m < cnt p n := by
  obtain ⟨d, rfl⟩ := Nat.exists_eq_add_of_lt h
  induction d with
  | zero => simp only [Nat.add_zero, cnt, hp]; simp
  | succ d ih =>
    have := ih (by omega)
    have e : cnt p (m + (d + 1) + 1) = cnt p (m + d + 1) + (p (m + d + 1)).toNat := rfl
    omega
theorem cnt_inj {p : Nat → Bool} {m n : Nat} (hm : p m = true) (hn : p n = true) (h : cnt p m = cnt p n) : m = n := by
  rcases Nat.lt_trichotomy m n with h1 | h1 | h1
  · have := cnt_lt h1 hm; omega
  · exact h1
  · have := cnt_lt h1 hn; omega
section
variable {e : Nat → Nat × Nat} {V E c b : Nat}
theorem lab_rep (x : Nat) : (lab e c E (lab e c E x) == lab e c E x) = true := by rw [lab_lab]; simp
theorem plc_lt {x : Nat} (hx : x < V) : plc e E c x < parts e V E c := cnt_lt (Nat.lt_of_le_of_lt (lab_le e c E x) hx) (lab_rep x)
theorem plc_eq {x y : Nat} : plc e E c x = plc e E c y ↔ lab e c E x = lab e c E y :=
  ⟨fun h => cnt_inj (p := fun z => lab e c E z == z) (lab_rep x) (lab_rep y) h, fun h => by unfold plc; rw [h]⟩
theorem lab_zero : lab e c E 0 = 0 := Nat.le_zero.1 (lab_le e c E 0)
theorem cnt_drop0 (q : Nat → Bool) (h0 : q 0 = true) : ∀ x, cnt (fun z => q z && decide (z ≠ 0)) x = cnt q x - 1
  | 0 => rfl
  | 1 => by simp [cnt, h0]
  | x + 2 => by
    have ih := cnt_drop0 q h0 (x + 1)
    have h1 : 0 < cnt q (x + 1) := cnt_pos (m := 0) (by omega) h0
    have e1 : cnt (fun z => q z && decide (z ≠ 0)) (x + 2) = cnt (fun z => q z && decide (z ≠ 0)) (x + 1) + (q (x + 1) && decide (x + 1 ≠ 0)).toNat := rfl
    have e2 : cnt q (x + 2) = cnt q (x + 1) + (q (x + 1)).toNat := rfl
    rw [e1, e2, ih]
    simp
    omega
theorem trees_place (hG : Gr e V E) (hV : 0 < V) (hc : c < 2 ^ E) (hb : b < 2 ^ E) (hd : ∀ i, c.testBit i = true → b.testBit i = false) (hf : pop E c + parts e V E c = V) :
    (trees e V E c b : Int) = dt (parts e V E c - 1) (fun i j => pm e E (plc e E c) (und c b) (i + 1) (j + 1)) := by
  rw [← trees_det hG hV _ c b hc hb hd hf rfl]
  have hq0 : (fun z => lab e c E z == z) 0 = true := by simp [lab_zero]
  have hcn := cnt_drop0 (fun z => lab e c E z == z) hq0
  have hpos : 0 < parts e V E c := parts_pos hc hV
  have hcV : cnt (fun z => (lab e c E z == z) && decide (z ≠ 0)) V = parts e V E c - 1 := hcn V
  rw [dt_comp (V - (parts e V E c - 1)) V (fun z => (lab e c E z == z) && decide (z ≠ 0)) (treeM e E c b 0) (fun i j => pm e E (plc e E c) (und c b) (i + 1) (j + 1)) (by rw [hcV]; have := cnt_le (fun z => lab e c E z == z) V; unfold parts; omega), hcV]
  · intro x y hx hy hp
    have hr : lab e c E x ≠ x ∨ x = 0 := by
      simp only [Bool.and_eq_false_iff, decide_eq_false_iff_not, beq_eq_false_iff_ne, ne_eq, Classical.not_not] at hp
      exact hp
    unfold treeM big
    rw [lab_zero]
    have hv : ∀ g, vg (lab e c E) 0 (e g) x = 0 := fun g => by
      unfold vg
      rcases hr with h | h
      · have : ∀ a, dl x (lab e c E a) = 0 := fun a => dl_ne fun h' => h (by rw [h', lab_lab])
        rw [this, this]; simp
      · rw [if_pos h]
    have : sg e E (lab e c E) 0 (und c b) x y = 0 := by
      unfold sg
      exact sumTo_zero fun g _ => by rw [hv]; simp
    rw [this]
    unfold dg dl
    by_cases e1 : x = y
    · rw [if_pos ⟨e1, hr⟩, if_pos e1]; rfl
    · rw [if_neg fun h => e1 h.1, if_neg e1]; rfl
  · intro x y hx hy hpx hpy
    simp only [Bool.and_eq_true, beq_iff_eq, decide_eq_true_eq] at hpx hpy
    rw [hcn, hcn]
    have hx1 : 0 < cnt (fun z => lab e c E z == z) x := cnt_pos (m := 0) (by omega) hq0
    have hy1 : 0 < cnt (fun z => lab e c E z == z) y := cnt_pos (m := 0) (by omega) hq0
    have hk : ∀ z, lab e c E z = z → ∀ a, dl (cnt (fun z => lab e c E z == z) z) (plc e E c a) = dl z (lab e c E a) := fun z hz a => by
      have e1 : cnt (fun z => lab e c E z == z) z = plc e E c z := by unfold plc; rw [hz]
      unfold dl
      rw [e1]
      by_cases h : z = lab e c E a
      · rw [if_pos h, if_pos (plc_eq.2 (by rw [hz, h]))]
      · rw [if_neg h, if_neg fun h' => h (by rw [← plc_eq.1 h', hz])]
    unfold treeM big pm
    rw [lab_zero, Nat.sub_add_cancel hx1, Nat.sub_add_cancel hy1]
    have : dg (lab e c E) 0 x y = 0 := by
      unfold dg
      exact if_neg fun h => h.2.elim (fun h => h hpx.1) (fun h => hpx.2 h)
    rw [this, Int.zero_add]
    unfold sg
    refine sumTo_congr fun g _ => ?_
    unfold vg
    rw [if_neg hpx.2, if_neg hpy.2, hk x hpx.1, hk x hpx.1, hk y hpy.1, hk y hpy.1]
end
end Go.Proofs.Ytoohcdfokejkdaa.P
namespace Go.Proofs.Ytoohcdfokejkdaa.P
open Go.RowKit Go.Proofs.YtoohcdfokejkdaaW.PrintWords
set_option linter.unusedVariables false
set_option linter.unusedSimpArgs false

def mat (n m : Nat) (f : Nat → Nat → Int) : List (List Int) := (List.range n).map fun i => dlist m (f i)
theorem mat_len (n m : Nat) (f : Nat → Nat → Int) : (mat n m f).length = n := by simp [mat]
theorem rd_mat {n m i : Nat} {f : Nat → Nat → Int} (h : i < n) : rd_L2 (mat n m f) (i : Int) = dlist m (f i) := by
  rw [rdL_get (by rw [mat_len]; exact h)]
  simp [mat]
theorem mat_get {n m r : Nat} {f : Nat → Nat → Int} (h : r < (mat n m f).length) : (mat n m f)[r] = dlist m (f r) := by
  have h2 : r < ((List.range n).map fun i => dlist m (f i)).length := h
  show ((List.range n).map fun i => dlist m (f i))[r] = _
  rw [List.getElem_map, List.getElem_range]
theorem mat_set {n m a : Nat} {f : Nat → Nat → Int} {D : Nat → Int} : (mat n m f).set a (dlist m D) = mat n m (fun r => if r = a then D else f r) := by
  apply List.ext_getElem
  · simp [mat_len]
  · intro r h1 h2
    rw [List.getElem_set, mat_get h2]
    by_cases e : a = r
    · rw [if_pos e]
      simp only [e, if_true]
    · rw [if_neg e, mat_get]
      simp only [Ne.symm e, if_false]
theorem zeros_dlist (m : Nat) : List.replicate m (0 : Int) = dlist m fun _ => 0 := by
  apply List.ext_getElem
  · simp [dlist]
  · intro i h1 h2
    simp [dlist]
/-- One entry changed. -/
def put (f : Nat → Nat → Int) (a b : Nat) (v : Int) : Nat → Nat → Int := fun r => if r = a then upd (f a) b v else f r
theorem mat_put {n m a b : Nat} {f : Nat → Nat → Int} {v : Int} (ha : a < n) (hb : b < m) : (mat n m f).set a ((rd_L2 (mat n m f) (a : Int)).set b v) = mat n m (put f a b v) := by
  rw [rd_mat ha, dlist_set hb, mat_set]
  rfl
/-- Bounded entries. -/
def Bd (f : Nat → Nat → Int) (B : Int) : Prop := ∀ i j, -B ≤ f i j ∧ f i j ≤ B
theorem bd_put {f : Nat → Nat → Int} {B v : Int} {a b : Nat} (h : Bd f B) (hB : 0 ≤ B) (h0 : -(B + 1) ≤ v) (h1 : v ≤ B + 1) : Bd (put f a b v) (B + 1) := by
  intro i j
  have := h i j
  have := h a j
  unfold put upd
  by_cases e1 : i = a
  · simp only [e1, if_true]
    by_cases e2 : j = b
    · simp only [e2, if_true]; exact ⟨h0, h1⟩
    · simp only [e2, if_false]; omega
  · simp only [e1, if_false]; omega
theorem Bd.mono {f : Nat → Nat → Int} {B C : Int} (h : Bd f B) (hc : B ≤ C) : Bd f C := fun i j => by have := h i j; omega
theorem mat_inc {n m a b : Nat} {f : Nat → Nat → Int} {B : Int} (hB : Bd f B) (hs : B ≤ 1000) (ha : a < n) (hb : b < m) :
    (mat n m f).set a ((rd_L2 (mat n m f) (a : Int)).set b (wrap64 (rd (rd_L2 (mat n m f) (a : Int)) (b : Int) + 1))) = mat n m (put f a b (f a b + 1)) := by
  have h1 : rd (rd_L2 (mat n m f) (a : Int)) (b : Int) = f a b := by rw [rd_mat ha, rd_dlist hb]
  have := hB a b
  rw [mat_put ha hb, h1, wrap64_id (by omega) (by omega)]
theorem mat_dec {n m a b : Nat} {f : Nat → Nat → Int} {B : Int} (hB : Bd f B) (hs : B ≤ 1000) (ha : a < n) (hb : b < m) :
    (mat n m f).set a ((rd_L2 (mat n m f) (a : Int)).set b (wrap64 (rd (rd_L2 (mat n m f) (a : Int)) (b : Int) - 1))) = mat n m (put f a b (f a b - 1)) := by
  have h1 : rd (rd_L2 (mat n m f) (a : Int)) (b : Int) = f a b := by rw [rd_mat ha, rd_dlist hb]
  have := hB a b
  rw [mat_put ha hb, h1, wrap64_id (by omega) (by omega)]
/-- What a gap between a and b brings. -/
def addE (f : Nat → Nat → Int) (a b : Nat) : Nat → Nat → Int := fun i j => f i j + (dl i a - dl i b) * (dl j a - dl j b)
theorem four_put (f : Nat → Nat → Int) (a b : Nat) :
    put (put (put (put f a a (f a a + 1)) b b (put f a a (f a a + 1) b b + 1)) a b (put (put f a a (f a a + 1)) b b (put f a a (f a a + 1) b b + 1) a b - 1)) b a
      (put (put (put f a a (f a a + 1)) b b (put f a a (f a a + 1) b b + 1)) a b (put (put f a a (f a a + 1)) b b (put f a a (f a a + 1) b b + 1) a b - 1) b a - 1) = addE f a b := by
  funext i j
  unfold addE put upd dl
  by_cases e : a = b
  · subst e
    by_cases e1 : i = a
    · subst e1
      by_cases e2 : j = i
      · subst e2; simp
      · simp [e2]
    · simp [e1]
  · have e' : ¬ b = a := fun h => e h.symm
    by_cases e1 : i = a
    · subst e1
      by_cases e2 : j = i
      · subst e2; simp [e, e']
      · by_cases e3 : j = b
        · subst e3; simp [e, e']; omega
        · simp [e, e', e2, e3]
    · by_cases e4 : i = b
      · subst e4
        by_cases e2 : j = a
        · subst e2; simp [e, e']; omega
        · by_cases e3 : j = i
          · subst e3; simp [e, e']
          · simp [e, e', e2, e3]
      · simp [e1, e4]
theorem pm_succ (e : Nat → Nat × Nat) (g : Nat) (P : Nat → Nat) (U : Nat → Bool) : pm e (g + 1) P U = if U g = true then addE (pm e g P U) (P (e g).1) (P (e g).2) else pm e g P U := by
  funext i j
  unfold pm addE
  simp only [sumTo]
  by_cases h : U g = true
  · rw [if_pos h, if_pos h]
  · rw [if_neg h, if_neg h]; omega
theorem dl_small (i a b : Nat) : dl i a - dl i b = -1 ∨ dl i a - dl i b = 0 ∨ dl i a - dl i b = 1 := by
  unfold dl
  split <;> split <;> simp
theorem pm_bd (e : Nat → Nat × Nat) (P : Nat → Nat) (U : Nat → Bool) : ∀ g : Nat, Bd (pm e g P U) g
  | 0 => fun i j => by unfold pm; simp [sumTo]
  | g + 1 => by
    intro i j
    have := pm_bd e P U g i j
    rw [pm_succ]
    split
    · unfold addE
      rcases dl_small i (P (e g).1) (P (e g).2) with h1 | h1 | h1 <;> rcases dl_small j (P (e g).1) (P (e g).2) with h2 | h2 | h2 <;> rw [h1, h2] <;> omega
    · omega
/-- A matrix without a row and the column of the same number. -/
def minorL (m : List (List Int)) (r : Nat) : List (List Int) := (m.eraseIdx r).map fun row => row.eraseIdx r
theorem minor_snoc (l : List (List Int)) (x : List Int) (r : Nat) : minorL (l ++ [x]) r = if r = l.length then l.map (fun row => row.eraseIdx r) else minorL l r ++ [x.eraseIdx r] := by
  unfold minorL
  rcases Nat.lt_trichotomy r l.length with h | h | h
  · rw [if_neg (by omega), List.eraseIdx_append_of_lt_length h, List.map_append]; rfl
  · rw [if_pos h, List.eraseIdx_append_of_length_le (by omega), h, Nat.sub_self]; simp
  · rw [if_neg (by omega), List.eraseIdx_append_of_length_le (by omega), List.eraseIdx_of_length_le (by omega : l.length ≤ r), List.eraseIdx_of_length_le (show [x].length ≤ r - l.length by simp; omega), List.map_append]
    rfl
theorem minor_len_le (l : List (List Int)) (r : Nat) : (minorL l r).length ≤ l.length := by
  unfold minorL
  rw [List.length_map, List.length_eraseIdx]
  split <;> omega
theorem without_l0 (m : List (List Int)) (r : Nat) (hm : m.length ≤ 1048576) (hrow : ∀ row ∈ m, r < row.length ∧ row.length ≤ 1048576) : ∀ (d i : Nat), i + d = m.length →
    Ev (fun k => impl_without.l0 k r (minorL (m.take i) r) m (m.length : Int) i) (minorL m r)
  | 0, i, hd => by
    refine Ev.step (fun _ => impl_without.l0.eq_2 ..) (Ev.ff (by omega) (Ev.ret ?_))
    rw [List.take_of_length_le (by omega)]
  | d + 1, i, hd => by
    have hi : i < m.length := by omega
    have ht : m.take (i + 1) = m.take i ++ [m[i]] := by rw [List.take_succ_eq_append_getElem hi]
    have hl : (m.take i).length = i := by rw [List.length_take]; omega
    have hle := minor_len_le (m.take i) r
    obtain ⟨q1, q2⟩ := hrow _ (List.getElem_mem hi)
    have ih := without_l0 m r hm hrow d (i + 1) (by omega)
    rw [ht, minor_snoc, hl] at ih
    refine Ev.step (fun _ => impl_without.l0.eq_2 ..) (Ev.tt (by omega) (Ev.tt (by omega) (Ev.tt (by omega) ?_)))
    rw [wsucc (by omega)]
    refine Ev.ite (fun e => ?_) (fun e => ?_)
    · have er : r = i := by omega
      rw [if_pos er] at ih
      have : minorL (m.take i) r = (m.take i).map fun row => row.eraseIdx r := by
        unfold minorL
        rw [List.eraseIdx_of_length_le (by omega)]
      rw [this]
      exact ih
    · rw [if_neg (by omega)] at ih
      have hdel : slices_Delete_int_int.f (rd_L2 m (i : Int)) (r : Int) (wrap64 ((r : Int) + 1)) = some (m[i].eraseIdx r) := by
        rw [rdL_get hi, wsucc (by omega)]
        unfold slices_Delete_int_int.f
        rw [if_pos ⟨by omega, by omega, by omega, by omega⟩]
        congr 1
        rw [Int.toNat_natCast, Int.toNat_natCast, ← List.eraseIdx_eq_take_drop_succ]
      exact Ev.bnd0 hdel (Ev.tt (by omega) ih)
theorem without_ev (m : List (List Int)) (r : Nat) (hm : m.length ≤ 1048576) (hrow : ∀ row ∈ m, r < row.length ∧ row.length ≤ 1048576) : Ev (fun k => impl_without.f k m r) (minorL m r) := by
  unfold impl_without.f
  have := without_l0 m r hm hrow m.length 0 (by omega)
  rwa [List.take_zero, show minorL [] r = [] by simp [minorL]] at this
theorem dlist_erase0 (n : Nat) (D : Nat → Int) : (dlist (n + 1) D).eraseIdx 0 = dlist n fun i => D (i + 1) := by
  unfold dlist
  rw [List.range_succ_eq_map]
  simp [Function.comp_def]
/-- The first row and column left out. -/
theorem minor_mat0 {n : Nat} {f : Nat → Nat → Int} : minorL (mat (n + 1) (n + 1) f) 0 = mat n n fun i j => f (i + 1) (j + 1) := by
  unfold minorL mat
  rw [List.range_succ_eq_map]
  simp only [List.map_cons, List.eraseIdx_zero, List.tail_cons, List.map_map]
  refine List.map_congr_left fun i _ => ?_
  have := dlist_erase0 n (f (i + 1))
  rwa [List.eraseIdx_zero] at this
/-- A sum over the members of a set, told by their places. -/
theorem sumTo_place {n s : Nat} {F G : Nat → Int} (h : ∀ k, k < n → s.testBit k = true → G (pop k s) = F k) : sumTo n (fun k => if s.testBit k then F k else 0) = sumTo (pop n s) G := by
  induction n with
  | zero => rfl
  | succ n ih =>
    simp only [sumTo, pop]
    rw [ih fun k hk hb => h k (by omega) hb]
    cases hb : s.testBit n
    · simp
    · simp only [if_true, Bool.toNat_true, sumTo]
      rw [h n (by omega) hb]
theorem above_pop {n s k : Nat} (hk : k < n) (hs : s < 2 ^ n) (hb : s.testBit k = true) : above n s k + pop k s + 1 = pop n s := by
  have h1 : pop n s = pop (k + 1) s + pop (n - (k + 1)) (s / 2 ^ (k + 1)) := by
    have := pop_add (k + 1) (n - (k + 1)) s
    rwa [show k + 1 + (n - (k + 1)) = n by omega] at this
  have h2 : above n s k = pop (n - (k + 1)) (s / 2 ^ (k + 1)) := by
    unfold above
    exact pop_big (Nat.div_lt_of_lt_mul (by rw [← Nat.pow_add]; exact Nat.lt_of_lt_of_le hs (Nat.pow_le_pow_right (by decide) (by omega)))) (by omega)
  simp only [pop, hb, Bool.toNat_true] at h1
  omega
theorem pop_del_lt {s k j : Nat} (h : j ≤ k) : pop j (del s k) = pop j s := pop_congr fun i hi => by rw [testBit_del]; simp; omega
theorem pop_mono {m n s : Nat} (h : m ≤ n) : pop m s ≤ pop n s := by
  obtain ⟨d, rfl⟩ := Nat.exists_eq_add_of_le h
  rw [pop_add]; omega
theorem Ds_dt (a : Nat → Nat → Int) (n : Nat) : ∀ (r s : Nat) (B : Nat → Nat → Int), s < 2 ^ n → pop n s = r → (∀ k, k < n → s.testBit k = true → ∀ c, B (pop k s) c = a c k) → Ds a n s = dt r B
  | 0, s, B, hs, hr, hB => by unfold Ds; rw [hr]; rfl
  | r + 1, s, B, hs, hr, hB => by
    rw [Ds_sum (by omega)]
    simp only [dt]
    rw [← hr]
    refine sumTo_place fun k hk hb => ?_
    have h1 := above_pop hk hs hb
    have h2 := pop_del hk hb
    unfold term
    rw [hB k hk hb, show pop n s - 1 = r by omega, show above n s k = r - pop k s by omega]
    rw [Ds_dt a n r (del s k) (er (pop k s) B) (Nat.lt_of_le_of_lt (del_le s k) hs) (by omega)]
    intro j hj hbj c
    rw [testBit_del] at hbj
    simp only [Bool.and_eq_true, decide_eq_true_eq] at hbj
    unfold er
    by_cases e : j < k
    · have h3 : pop (j + 1) s ≤ pop k s := pop_mono (by omega)
      simp only [pop, hbj.1, Bool.toNat_true] at h3
      rw [pop_del_lt (by omega), if_pos (by omega)]
      exact hB j hj hbj.1 c
    · have h3 := pop_del (n := j) (show k < j by omega) hb
      have h4 : pop (k + 1) s ≤ pop j s := pop_mono (by omega)
      simp only [pop, hb, Bool.toNat_true] at h4
      rw [if_neg (by omega), show pop j (del s k) + 1 = pop j s by omega]
      exact hB j hj hbj.1 c
theorem pop_all {n s : Nat} (h : ∀ i, i < n → s.testBit i = true) : pop n s = n := by
  induction n with
  | zero => rfl
  | succ n ih => simp only [pop]; rw [ih fun i hi => h i (by omega), h n (by omega)]; rfl
theorem Ds_full (a : Nat → Nat → Int) (n : Nat) : Ds a n (2 ^ n - 1) = dt n a := by
  have hp : 0 < 2 ^ n := Nat.two_pow_pos n
  rw [Ds_dt a n n (2 ^ n - 1) (tr a) (by omega) (pop_full n), dt_tr]
  intro k hk hb c
  rw [pop_all fun i hi => by rw [Nat.testBit_two_pow_sub_one]; simp; omega]
  rfl
theorem setB_false_sub {n j i : Nat} (h : (setB n j false).testBit i = true) : n.testBit i = true := by
  rw [testBit_setB] at h
  split at h
  · cases h
  · exact h
theorem setB_false_mono {n m j i : Nat} (hs : ∀ i, m.testBit i = true → n.testBit i = true) (h : (setB m j false).testBit i = true) : (setB n j false).testBit i = true := by
  rw [testBit_setB] at h ⊢
  split at h
  · cases h
  · rename_i hne
    rw [if_neg hne]
    exact hs i h
theorem bridges_forest {e : Nat → Nat × Nat} {V E : Nat} (hG : Gr e V E) : ∀ p n, pop E n = p → n < 2 ^ E → (∀ j, j < E → n.testBit j = true → ¬ Cn e (setB n j false) (e j).1 (e j).2) → pop E n + parts e V E n = V := by
  intro p
  induction p using Nat.strongRecOn with
  | _ p ih =>
    intro n hp hn hb
    by_cases he : ∃ g, g < E ∧ n.testBit g = true
    · obtain ⟨g, hg, hbg⟩ := he
      have hlt : setB n g false < 2 ^ E := setB_lt _ hn hg
      have p1 := pop_setB (m := E) (n := setB n g false) hg (setB_bit n g false)
      rw [setB_off_on hbg] at p1
      have p2 := (parts_add (v := V) hlt hg (hG g hg).1 (hG g hg).2).2 (hb g hg hbg)
      rw [setB_off_on hbg] at p2
      have := ih (pop E (setB n g false)) (by omega) _ rfl hlt (fun j hj hbj hc => hb j hj (setB_false_sub hbj) (Cn.mono (fun i hi => setB_false_mono (fun i hi => setB_false_sub hi) hi) hc))
      omega
    · have h0 : n = 0 := by
        refine Nat.eq_of_testBit_eq fun i => ?_
        rw [Nat.zero_testBit]
        cases hbi : n.testBit i
        · rfl
        · exact absurd ⟨i, lt_of_testBit hn hbi, hbi⟩ he
      subst h0
      have : ∀ m, pop m 0 = 0 := by
        intro m
        induction m with
        | zero => rfl
        | succ m ih => simp only [pop, Nat.zero_testBit, ih]; rfl
      rw [this, parts_zero, Nat.zero_add]
end Go.Proofs.Ytoohcdfokejkdaa.P
namespace Go.Proofs.Ytoohcdfokejkdaa.P
open Go.RowKit Go.Proofs.YtoohcdfokejkdaaW.PrintWords
set_option linter.unusedVariables false
set_option linter.unusedSimpArgs false

section
variable {e : Nat → Nat × Nat} {V E : Nat}
/-- What lies in a forest is a forest. -/
theorem forest_sub (hG : Gr e V E) {c t : Nat} (ht : t < 2 ^ E) (hc : c < 2 ^ E) (hf : pop E t + parts e V E t = V) (hs : ∀ i, c.testBit i = true → t.testBit i = true) : pop E c + parts e V E c = V := by
  refine bridges_forest hG _ c rfl hc fun j hj hb hcn => ?_
  refine bridge_of_forest hG ht hf (hs j hb) (hcn.mono fun i hi => ?_)
  rw [testBit_setB] at hi ⊢
  by_cases h : i = j
  · rw [if_pos h] at hi; cases hi
  · rw [if_neg h] at hi ⊢; exact hs i hi
theorem cnt_ex {p : Nat → Bool} {n : Nat} (h : 0 < cnt p n) : ∃ i, i < n ∧ p i = true := by
  apply Classical.byContradiction
  intro hn
  have : cnt p n = 0 := cnt_zero_iff.2 fun i hi => by
    cases hp : p i
    · rfl
    · exact absurd ⟨i, hi, hp⟩ hn
  omega
theorem trees_ex {c b : Nat} (h : 0 < trees e V E c b) : ∃ t, t < 2 ^ E ∧ sup E c b t = true ∧ perf e V E t = true := by
  obtain ⟨t, ht, hp⟩ := cnt_ex h
  rw [Bool.and_eq_true] at hp
  exact ⟨t, ht, hp⟩
theorem trees_pos {c b t : Nat} (ht : t < 2 ^ E) (hs : sup E c b t = true) (hp : perf e V E t = true) : 0 < trees e V E c b := by
  unfold trees
  exact cnt_pos ht (by rw [hs, hp]; rfl)
theorem trees_le (c b : Nat) : trees e V E c b ≤ 2 ^ E := cnt_le _ _
theorem trees_loops (hG : Gr e V E) {c b : Nat} (hc : c < 2 ^ E) (hf : ¬ pop E c + parts e V E c = V) : trees e V E c b = 0 := by
  rcases Nat.eq_zero_or_pos (trees e V E c b) with h | h
  · exact h
  · obtain ⟨t, ht, hs, hp⟩ := trees_ex h
    rw [perf_iff] at hp
    refine absurd (forest_sub hG ht hc (by omega) fun i hi => ?_) hf
    exact (sup_iff.1 hs i (lt_of_testBit hc hi)).1 hi
/-- The number of a tree among those that agree with it below k = E - d. -/
def num (e : Nat → Nat × Nat) (V E t : Nat) : Nat → Nat → Nat → Nat
  | 0, _, _ => 0
  | d + 1, c, b => if t.testBit (E - (d + 1)) then trees e V E c (setB b (E - (d + 1)) true) + num e V E t d (setB c (E - (d + 1)) true) b else num e V E t d c (setB b (E - (d + 1)) true)
/-- The tree with a number. -/
def nth (e : Nat → Nat × Nat) (V E : Nat) : Nat → Nat → Nat → Nat → Nat
  | 0, _, c, _ => c
  | d + 1, n, c, b => if n < trees e V E c (setB b (E - (d + 1)) true) then nth e V E d n c (setB b (E - (d + 1)) true) else nth e V E d (n - trees e V E c (setB b (E - (d + 1)) true)) (setB c (E - (d + 1)) true) b
/-- Below k = E - d all is decided, from k on nothing. -/
structure Dec (E d c b : Nat) : Prop where
  cl : c < 2 ^ E
  bl : b < 2 ^ E
  dis : ∀ i, c.testBit i = true → b.testBit i = false
  done : ∀ i, i < E - d → c.testBit i = false → b.testBit i = true
  todo : ∀ i, E - d ≤ i → c.testBit i = false ∧ b.testBit i = false
theorem Dec.start : Dec E E 0 0 := ⟨Nat.two_pow_pos E, Nat.two_pow_pos E, fun i h => by simp at h, fun i h => by omega, fun i _ => by simp⟩
theorem Dec.on {d c b : Nat} (h : Dec E (d + 1) c b) (hd : d + 1 ≤ E) : Dec E d (setB c (E - (d + 1)) true) b where
  cl := setB_lt true h.cl (by omega)
  bl := h.bl
  dis := fun i hi => by
    rw [testBit_setB] at hi
    split at hi
    · rename_i e1; rw [e1]; exact (h.todo _ (Nat.le_refl _)).2
    · exact h.dis i hi
  done := fun i hi hc => by
    rw [testBit_setB] at hc
    split at hc
    · cases hc
    · exact h.done i (by omega) hc
  todo := fun i hi => by
    rw [testBit_setB, if_neg (by omega)]
    exact h.todo i (by omega)
theorem Dec.off {d c b : Nat} (h : Dec E (d + 1) c b) (hd : d + 1 ≤ E) : Dec E d c (setB b (E - (d + 1)) true) where
  cl := h.cl
  bl := setB_lt true h.bl (by omega)
  dis := fun i hi => by
    rw [testBit_setB]
    split
    · rename_i e1; rw [e1, (h.todo _ (Nat.le_refl _)).1] at hi; cases hi
    · exact h.dis i hi
  done := fun i hi hc => by
    rw [testBit_setB]
    split
    · rfl
    · exact h.done i (by omega) hc
  todo := fun i hi => by
    rw [testBit_setB, if_neg (by omega)]
    exact h.todo i (by omega)
theorem Dec.und {d c b : Nat} (h : Dec E (d + 1) c b) : und c b (E - (d + 1)) = true := by
  unfold P.und
  rw [(h.todo _ (Nat.le_refl _)).1, (h.todo _ (Nat.le_refl _)).2]
  rfl
theorem Dec.split {d c b : Nat} (h : Dec E (d + 1) c b) (hd : d + 1 ≤ E) : trees e V E c b = trees e V E (setB c (E - (d + 1)) true) b + trees e V E c (setB b (E - (d + 1)) true) := trees_split (by omega) h.und
theorem sup_on {d c b t : Nat} (h : Dec E (d + 1) c b) (hs : sup E c b t = true) (ht : t.testBit (E - (d + 1)) = true) : sup E (setB c (E - (d + 1)) true) b t = true := by
  rw [sup_iff] at hs ⊢
  refine fun i hi => ⟨fun hc => ?_, (hs i hi).2⟩
  rw [testBit_setB] at hc
  split at hc
  · rename_i e1; rw [e1]; exact ht
  · exact (hs i hi).1 hc
theorem sup_off {d c b t : Nat} (h : Dec E (d + 1) c b) (hs : sup E c b t = true) (ht : t.testBit (E - (d + 1)) = false) : sup E c (setB b (E - (d + 1)) true) t = true := by
  rw [sup_iff] at hs ⊢
  refine fun i hi => ⟨(hs i hi).1, fun hb => ?_⟩
  rw [testBit_setB] at hb
  split at hb
  · rename_i e1; rw [e1]; exact ht
  · exact (hs i hi).2 hb
theorem num_lt {t : Nat} (ht : t < 2 ^ E) (hp : perf e V E t = true) : ∀ d c b, d ≤ E → Dec E d c b → sup E c b t = true → num e V E t d c b < trees e V E c b
  | 0, c, b, hd, hpre, hs => trees_pos ht hs hp
  | d + 1, c, b, hd, hpre, hs => by
    unfold num
    rw [hpre.split hd]
    cases hb : t.testBit (E - (d + 1))
    · have := num_lt ht hp d _ _ (by omega) (hpre.off hd) (sup_off hpre hs hb)
      simp only [Bool.false_eq_true, if_false]
      omega
    · have := num_lt ht hp d _ _ (by omega) (hpre.on hd) (sup_on hpre hs hb)
      simp only [if_true]
      omega
theorem pre_end {c b t : Nat} (h : Dec E 0 c b) (ht : t < 2 ^ E) (hs : sup E c b t = true) : t = c := by
  apply Nat.eq_of_testBit_eq
  intro i
  by_cases hi : i < E
  · have h1 := sup_iff.1 hs i hi
    cases hc : c.testBit i
    · exact h1.2 (h.done i (by omega) hc)
    · exact h1.1 hc
  · rw [Nat.testBit_lt_two_pow (Nat.lt_of_lt_of_le ht (Nat.pow_le_pow_right (by decide) (by omega))), Nat.testBit_lt_two_pow (Nat.lt_of_lt_of_le h.cl (Nat.pow_le_pow_right (by decide) (by omega)))]
theorem nth_num {t : Nat} (ht : t < 2 ^ E) (hp : perf e V E t = true) : ∀ d c b, d ≤ E → Dec E d c b → sup E c b t = true → nth e V E d (num e V E t d c b) c b = t
  | 0, c, b, hd, hpre, hs => (pre_end hpre ht hs).symm
  | d + 1, c, b, hd, hpre, hs => by
    unfold num nth
    cases hb : t.testBit (E - (d + 1))
    · have h1 := num_lt ht hp d _ _ (by omega) (hpre.off hd) (sup_off hpre hs hb)
      simp only [Bool.false_eq_true, if_false]
      rw [if_pos h1]
      exact nth_num ht hp d _ _ (by omega) (hpre.off hd) (sup_off hpre hs hb)
    · simp only [if_true]
      rw [if_neg (by omega), Nat.add_sub_cancel_left]
      exact nth_num ht hp d _ _ (by omega) (hpre.on hd) (sup_on hpre hs hb)
theorem num_nth : ∀ d n c b, d ≤ E → Dec E d c b → n < trees e V E c b → nth e V E d n c b < 2 ^ E ∧ perf e V E (nth e V E d n c b) = true ∧ sup E c b (nth e V E d n c b) = true ∧ num e V E (nth e V E d n c b) d c b = n
  | 0, n, c, b, hd, hpre, hn => by
    obtain ⟨t, ht, hs, hp⟩ := trees_ex (Nat.lt_of_le_of_lt (Nat.zero_le n) hn)
    have e1 := pre_end hpre ht hs
    have h1 : trees e V E c b ≤ 1 := by
      unfold trees
      rw [cnt_single hpre.cl fun i hi hne => ?_]
      · exact Bool.toNat_le _
      · cases hsi : sup E c b i
        · rfl
        · exact absurd (pre_end hpre hi hsi) hne
    subst e1
    exact ⟨ht, hp, hs, by unfold num; omega⟩
  | d + 1, n, c, b, hd, hpre, hn => by
    rw [hpre.split hd] at hn
    unfold nth
    by_cases h : n < trees e V E c (setB b (E - (d + 1)) true)
    · rw [if_pos h]
      obtain ⟨h1, h2, h3, h4⟩ := num_nth d n _ _ (by omega) (hpre.off hd) h
      have h5 := sup_iff.1 h3
      have hb : (nth e V E d n c (setB b (E - (d + 1)) true)).testBit (E - (d + 1)) = false := (h5 _ (by omega)).2 (setB_bit ..)
      refine ⟨h1, h2, sup_iff.2 fun i hi => ⟨(h5 i hi).1, fun hbi => (h5 i hi).2 ?_⟩, ?_⟩
      · rw [testBit_setB]; split
        · rfl
        · exact hbi
      · unfold num
        rw [hb]
        simpa using h4
    · rw [if_neg h]
      obtain ⟨h1, h2, h3, h4⟩ := num_nth d (n - trees e V E c (setB b (E - (d + 1)) true)) _ _ (by omega) (hpre.on hd) (by omega)
      have h5 := sup_iff.1 h3
      have hb : (nth e V E d (n - trees e V E c (setB b (E - (d + 1)) true)) (setB c (E - (d + 1)) true) b).testBit (E - (d + 1)) = true := (h5 _ (by omega)).1 (setB_bit ..)
      refine ⟨h1, h2, sup_iff.2 fun i hi => ⟨fun hci => (h5 i hi).1 ?_, (h5 i hi).2⟩, ?_⟩
      · rw [testBit_setB]; split
        · rfl
        · exact hci
      · unfold num
        rw [hb]
        simp only [if_true]
        omega
end
end Go.Proofs.Ytoohcdfokejkdaa.P
namespace Go.Proofs.Ytoohcdfokejkdaa.P
open Go.RowKit Go.Proofs.YtoohcdfokejkdaaW.PrintWords
set_option linter.unusedVariables false
set_option linter.unusedSimpArgs false

theorem filter_head {p : Nat → Bool} {m v : Nat} (hm : m < v) (hp : p m = true) (h : ∀ i, i < m → p i = false) : ∃ t, (List.range v).filter p = m :: t := by
  obtain ⟨d, rfl⟩ : ∃ d, v = m + (d + 1) := ⟨v - m - 1, by omega⟩
  rw [List.range_add, List.filter_append]
  have h1 : (List.range m).filter p = [] := by
    rw [List.filter_eq_nil_iff]
    intro a ha
    rw [h a (List.mem_range.1 ha)]
    simp
  rw [h1, List.nil_append, List.range_succ_eq_map, List.map_cons, Nat.add_zero, List.filter_cons, if_pos hp]
  exact ⟨_, rfl⟩
/-- The cells that are reached, in ascending order. -/
def reachN (w h : Int) (n s : Nat) : List Nat := (List.range (cellsN w h)).filter fun c => decide (0 ≤ distN w h n s c)
/-- The least cell of the part of a cell. -/
def labN (w h : Int) (n c : Nat) : Nat := lab (ends w h) n (gapsN w h) c
theorem reachN_head {w h : Int} {n s : Nat} (hn : n < 2 ^ gapsN w h) (hs : s < cellsN w h) : ∃ t, reachN w h n s = labN w h n s :: t := by
  have hle := lab_le (ends w h) n (gapsN w h) s
  refine filter_head (show labN w h n s < cellsN w h by unfold labN; omega) ?_ ?_
  · rw [decide_eq_true_eq, distN_cn hn hs]
    exact lab_cn hn s
  · intro i hi
    rw [decide_eq_false_iff_not, distN_cn hn hs]
    intro hc
    have := lab_least hn hc
    unfold labN at hi
    omega
def partsN (w h : Int) (n : Nat) : Nat := parts (ends w h) (cellsN w h) (gapsN w h) n
theorem partsN_le (w h : Int) (n : Nat) : partsN w h n ≤ 16 := Nat.le_trans (cnt_le _ _) (cellsN_le w h)
def perfN (w h : Int) (n : Nat) : Bool := perf (ends w h) (cellsN w h) (gapsN w h) n
theorem cells_pos {w h : Int} (hg : gridOk w h = true) : 1 ≤ cellsN w h := by
  unfold cellsN cellsOf
  rw [if_pos hg]
  obtain ⟨h1 | h1 | h1 | h1, h2 | h2 | h2 | h2⟩ := grid_cases hg <;> subst h1 <;> subst h2 <;> decide
end Go.Proofs.Ytoohcdfokejkdaa.P
namespace Go.Proofs.Ytoohcdfokejkdaa.P
open Go.RowKit Go.Proofs.YtoohcdfokejkdaaW.PrintWords Go.Proofs.Ytoohcdfokejkdaa.Sup
set_option linter.unusedVariables false
set_option linter.unusedSimpArgs false

theorem impl_isIn_one (w h o c : Int) : impl_isIn.f w h o [c] = some (mazeOk w h o && isCellI w h c) := by
  unfold impl_isIn.f
  rw [impl_MazeOk_eq, Option.bind_some]
  cases hm : mazeOk w h o
  · simp
  · rw [if_pos rfl]
    simp [impl_isCell_eq]
end Go.Proofs.Ytoohcdfokejkdaa.P
namespace Go.Proofs.Ytoohcdfokejkdaa.P
open Go.RowKit Go.Proofs.YtoohcdfokejkdaaW.PrintWords Go.Proofs.YtoohcdfokejkdaaW.PrintLast Go.Proofs.YtoohcdfokejkdaaW.PrintMore
attribute [local go_sem] max2_int min2_int max_two min_two max_three min_three max_four min_four   -- for this text's walks alone
set_option linter.unusedVariables false
set_option linter.unusedSimpArgs false

/-! ### spec_l04Has: function 131 -/
end Go.Proofs.Ytoohcdfokejkdaa.P
namespace Go.Proofs.Ytoohcdfokejkdaa.P
open Go.RowKit Go.Proofs.YtoohcdfokejkdaaW.PrintWords
set_option linter.unusedVariables false
set_option linter.unusedSimpArgs false

/-- i, i + 1, .. : d of them. -/
def run (i d : Nat) : List Int := (List.range d).map fun t => ((i + t : Nat) : Int)
theorem run_succ (i d : Nat) : run i (d + 1) = (i : Int) :: run (i + 1) d := by
  simp only [run, List.range_succ_eq_map, List.map_cons, List.map_map, Nat.add_zero]
  congr 1
  apply List.map_congr_left
  intro t _
  simp only [Function.comp, Nat.succ_eq_add_one]
  congr 1
  omega
theorem mem_run {i d : Nat} {x : Int} : x ∈ run i d ↔ (i : Int) ≤ x ∧ x < ((i + d : Nat) : Int) := by
  simp only [run, List.mem_map, List.mem_range]
  constructor
  · rintro ⟨t, ht, rfl⟩
    omega
  · intro ⟨h1, h2⟩
    exact ⟨(x - i).toNat, by omega, by omega⟩
theorem upTo_l0 (n : Nat) (hn : n ≤ 1000000) : ∀ (d i : Nat) (out : List Int), n - i = d → i ≤ n → out.length ≤ i → Ev (fun k => impl_upTo.l0 k n out i) (out ++ run i d)
  | 0, i, out, hd, hi, ho => by
    refine Ev.step (fun _ => impl_upTo.l0.eq_2 ..) (Ev.ff (by omega) (Ev.ret ?_))
    simp [run]
  | d + 1, i, out, hd, hi, ho => by
    refine Ev.step (fun _ => impl_upTo.l0.eq_2 ..) (Ev.tt (by omega) (Ev.tt (by omega) ?_))
    rw [wsucc (by omega), run_succ]
    have := upTo_l0 n hn d (i + 1) (out ++ [(i : Int)]) (by omega) (by omega) (by simp; omega)
    simpa using this
theorem impl_upTo_ev (n : Nat) (hn : n ≤ 1000000) : Ev (fun k => impl_upTo.f k n) (run 0 n) := by
  unfold impl_upTo.f
  have := upTo_l0 n hn n 0 [] (by omega) (by omega) (by simp)
  simpa using this
end Go.Proofs.Ytoohcdfokejkdaa.P
namespace Go.Proofs.Ytoohcdfokejkdaa.P
open Go.RowKit Go.Proofs.YtoohcdfokejkdaaW.PrintWords Go.Proofs.YtoohcdfokejkdaaW.PrintLast Go.Proofs.YtoohcdfokejkdaaW.PrintMore
attribute [local go_sem] max2_int min2_int max_two min_two max_three min_three max_four min_four   -- for this text's walks alone
set_option linter.unusedVariables false
set_option linter.unusedSimpArgs false

/-! ### spec_Reached: function 128 -/
/-! ### spec_CountParts: function 126 -/
end Go.Proofs.Ytoohcdfokejkdaa.P
namespace Go.Proofs.Ytoohcdfokejkdaa.P
open Go.RowKit Go.Proofs.YtoohcdfokejkdaaW.PrintWords
set_option linter.unusedVariables false
set_option linter.unusedSimpArgs false

theorem run_zero (v : Nat) : run 0 v = ints (List.range v) := by
  unfold run ints
  exact List.map_congr_left fun t _ => by omega
theorem isCellI_nat {w h : Int} {c : Nat} (hc : c < cellsN w h) : isCellI w h c = true := by
  have := cellsN_cast w h
  unfold isCellI
  rw [decide_eq_true_eq]; omega
section
variable {w h : Int} {n : Nat} (hg : gridOk w h = true) (hn : n < 2 ^ gapsN w h)
include hg hn
theorem mazeOk_nat : mazeOk w h n = true := mazeOk_iff.2 ⟨hg, n, rfl, hn⟩
theorem impl_Reached_ev {s : Nat} (hs : s < cellsN w h) : Ev (fun k => impl_Reached.f k w h n s) (ints (reachN w h n s)) := by
  have h16 := cellsN_le w h
  unfold impl_Reached.f
  refine Ev.bnd0 (impl_isIn_one w h n s) (Ev.tt (by rw [mazeOk_nat hg hn, isCellI_nat hs]; rfl) ?_)
  refine Ev.bind (impl_distances_ev hg hn hs) ?_
  rw [dlist_length]
  refine Ev.bind (impl_upTo_ev _ (by omega)) (Ev.tt ?_ (Ev.ret ?_))
  · rw [List.all_eq_true]
    intro c hc
    have := mem_run.1 hc
    rw [decide_eq_true_eq]
    omega
  · rw [run_zero]
    unfold reachN ints
    rw [List.filter_map]
    congr 1
    refine List.filter_congr fun c hc => ?_
    rw [List.mem_range] at hc
    simp only [Function.comp]
    rw [rd_dlist hc]
    by_cases h1 : distN w h n s c < 0
    · rw [decide_eq_true h1, decide_eq_false (show ¬ 0 ≤ distN w h n s c by omega)]; rfl
    · rw [decide_eq_false h1, decide_eq_true (show 0 ≤ distN w h n s c by omega)]; rfl
omit hg hn in
theorem head_is {s : Nat} (hn : n < 2 ^ gapsN w h) (hs : s < cellsN w h) : 0 < ((ints (reachN w h n s)).length : Int) ∧ rd (ints (reachN w h n s)) 0 = labN w h n s := by
  obtain ⟨t, ht⟩ := reachN_head hn hs
  rw [ht]
  exact ⟨by simp [ints], rfl⟩
theorem impl_parts_l0 : ∀ (d c m : Nat), c + d = cellsN w h → m ≤ c → Ev (fun k => impl_CountParts.l0 k m c w h n) (((m + (cnt (fun i => labN w h n i == i) (cellsN w h) - cnt (fun i => labN w h n i == i) c) : Nat)) : Int)
  | 0, c, m, hd, hm => by
    have hcast := cellsN_cast w h
    refine Ev.step (fun _ => impl_CountParts.l0.eq_2 ..) (Ev.bnd0 (impl_isIn_one w h n c) (Ev.ff ?_ (Ev.ret ?_)))
    · have : isCellI w h c = false := by unfold isCellI; rw [decide_eq_false_iff_not]; omega
      rw [this]; simp
    · rw [show c = cellsN w h by omega, Nat.sub_self, Nat.add_zero]
  | d + 1, c, m, hd, hm => by
    have h16 := cellsN_le w h
    have hcv : c < cellsN w h := by omega
    obtain ⟨e1, e2⟩ := head_is hn hcv
    refine Ev.step (fun _ => impl_CountParts.l0.eq_2 ..) (Ev.bnd0 (impl_isIn_one w h n c) (Ev.tt (by rw [mazeOk_nat hg hn, isCellI_nat hcv]; rfl) ?_))
    refine Ev.bind (impl_Reached_ev hg hn hcv) (Ev.tt e1 ?_)
    rw [e2, wsucc (by omega), wsucc (by omega)]
    have hle : cnt (fun i => labN w h n i == i) (c + 1) ≤ cnt (fun i => labN w h n i == i) (cellsN w h) := by
      obtain ⟨x, hx⟩ := Nat.exists_eq_add_of_le (show c + 1 ≤ cellsN w h by omega)
      rw [hx]
      have : ∀ x, cnt (fun i => labN w h n i == i) (c + 1) ≤ cnt (fun i => labN w h n i == i) (c + 1 + x) := by
        intro x
        induction x with
        | zero => exact Nat.le_refl _
        | succ x ih => rw [← Nat.add_assoc]; simp only [cnt]; simp only [cnt] at ih; omega
      exact this x
    simp only [cnt] at hle
    refine Ev.ite (fun h1 => ?_) (fun h1 => ?_)
    · refine Ev.eq (impl_parts_l0 d (c + 1) (m + 1) (by omega) (by omega)) ?_
      have : (labN w h n c == c) = true := by rw [beq_iff_eq]; omega
      simp only [cnt, this, Bool.toNat_true] at hle ⊢
      omega
    · refine Ev.eq (impl_parts_l0 d (c + 1) m (by omega) (by omega)) ?_
      have : (labN w h n c == c) = false := by rw [beq_eq_false_iff_ne]; omega
      simp only [cnt, this, Bool.toNat_false] at hle ⊢
      omega
theorem impl_CountParts_ev : Ev (fun k => impl_CountParts.f k w h n) (partsN w h n : Int) := by
  unfold impl_CountParts.f
  refine Ev.eq (impl_parts_l0 hg hn (cellsN w h) 0 0 (by omega) (by omega)) ?_
  simp only [cnt, Nat.zero_add, Nat.sub_zero]
  rfl
end
theorem impl_CountParts_bad {w h o : Int} (hm : mazeOk w h o = false) : Ev (fun k => impl_CountParts.f k w h o) 0 := by
  unfold impl_CountParts.f
  exact Ev.step (fun _ => impl_CountParts.l0.eq_2 ..) (Ev.bnd0 (impl_isIn_one w h o 0) (Ev.ff (by rw [hm]; simp) (Ev.ret rfl)))
end Go.Proofs.Ytoohcdfokejkdaa.P
namespace Go.Proofs.Ytoohcdfokejkdaa.P
open Go.RowKit Go.Proofs.YtoohcdfokejkdaaW.PrintWords Go.Proofs.YtoohcdfokejkdaaW.PrintLast Go.Proofs.YtoohcdfokejkdaaW.PrintMore
attribute [local go_sem] max2_int min2_int max_two min_two max_three min_three max_four min_four   -- for this text's walks alone
set_option linter.unusedVariables false
set_option linter.unusedSimpArgs false

/-! ### spec_CountPassages: function 114 -/
/-! ### spec_IsConnected: function 117 -/
/-! ### spec_IsPerfect: function 96 -/
end Go.Proofs.Ytoohcdfokejkdaa.P
namespace Go.Proofs.Ytoohcdfokejkdaa.P
open Go.RowKit Go.Proofs.YtoohcdfokejkdaaW.PrintWords
set_option linter.unusedVariables false
set_option linter.unusedSimpArgs false

section
variable {w h : Int} {n : Nat} (hg : gridOk w h = true) (hn : n < 2 ^ gapsN w h)
include hg hn
theorem impl_CountPassages_eq : impl_CountPassages.f w h n = some (pop (gapsN w h) n : Int) := by
  have hs := open_small hn
  unfold impl_CountPassages.f
  rw [impl_MazeOk_eq, Option.bind_some, if_pos (mazeOk_nat hg hn), u64_small (by omega), ones_eq' (gapsN_le w h) hn, Option.bind_some]
omit hn in
theorem perf_value : (if (decide (((partsN w h n : Nat) : Int) = 1)) = true then decide (((pop (gapsN w h) n : Nat) : Int) = wrap64 (cellsOf w h - 1)) else false) = perfN w h n := by
  have h16 := cellsN_le w h
  have hpos := cells_pos hg
  have hcast := cellsN_cast w h
  have hpop := pop_le (gapsN w h) n
  rw [wrap64_id (by omega) (by omega)]
  unfold perfN perf
  by_cases h1 : partsN w h n = 1
  · have h1' := h1
    unfold partsN at h1'
    rw [h1, h1']
    simp only [Int.natCast_one, decide_true, if_true, true_and]
    rw [decide_eq_decide]
    omega
  · have h1' := h1
    unfold partsN at h1'
    rw [if_neg (by simp; omega)]
    symm
    rw [decide_eq_false_iff_not]
    exact fun h2 => h1' h2.1
theorem impl_IsPerfect_ev : Ev (fun k => impl_IsPerfect.f k w h n) (perfN w h n) := by
  unfold impl_IsPerfect.f impl_IsConnected.f
  rw [← perf_value hg]
  refine Ev.bind (Ev.bind (impl_CountParts_ev hg hn) (Ev.ret rfl)) ?_
  refine Ev.ite (fun h1 => Ev.bnd0 (impl_CountPassages_eq hg hn) (Ev.bnd0 (impl_CountCells_eq w h) (Ev.ret ?_))) (fun h1 => Ev.ret ?_)
  · rw [if_pos (by simpa using h1)]
    rw [Bool.eq_iff_iff]
    simp
  · rw [if_neg (by simpa using h1)]
end
/-- A perfect maze, for all arguments. -/
def perfI (w h o : Int) : Bool := mazeOk w h o && perfN w h o.toNat
theorem impl_IsPerfect_all (w h o : Int) : Ev (fun k => impl_IsPerfect.f k w h o) (perfI w h o) := by
  unfold perfI
  by_cases hm : mazeOk w h o = true
  · obtain ⟨hg, n, rfl, hn⟩ := mazeOk_iff.1 hm
    rw [hm]
    exact impl_IsPerfect_ev hg hn
  · rw [Bool.eq_false_iff.2 hm]
    unfold impl_IsPerfect.f impl_IsConnected.f
    exact Ev.bind (Ev.bind (impl_CountParts_bad (Bool.eq_false_iff.2 hm)) (Ev.ret rfl)) (Ev.ff (by decide) (Ev.ret rfl))
theorem perfI_iff {w h o : Int} : perfI w h o = true ↔ gridOk w h = true ∧ ∃ n : Nat, o = (n : Int) ∧ n < 2 ^ gapsN w h ∧ perfN w h n = true := by
  unfold perfI
  rw [Bool.and_eq_true, mazeOk_iff]
  constructor
  · rintro ⟨⟨h1, n, rfl, h2⟩, h3⟩; exact ⟨h1, n, rfl, h2, h3⟩
  · rintro ⟨h1, n, rfl, h2, h3⟩; exact ⟨⟨h1, n, rfl, h2⟩, h3⟩
end Go.Proofs.Ytoohcdfokejkdaa.P
namespace Go.Proofs.Ytoohcdfokejkdaa.P
open Go.RowKit Go.Proofs.YtoohcdfokejkdaaW.PrintWords
set_option linter.unusedVariables false
set_option linter.unusedSimpArgs false

theorem impl_EndsOf_eq (w h g : Int) : impl_EndsOf.f w h g = some (endsI w h g) := by
  unfold impl_EndsOf.f endsI
  rw [impl_isGap_eq, Option.bind_some]
  unfold isGapI
  by_cases hc : 0 ≤ g ∧ g < gapsOf w h
  · rw [if_pos hc, if_pos (by simpa using hc)]
    obtain ⟨hg, hgw⟩ := gapsOf_valid hc.1 hc.2
    have hgr := gridOk_iff.1 hg
    have hrr := gapsOf_range w h
    have hq0 : 0 ≤ (w - 1) * h := Int.mul_nonneg (by omega) (by omega)
    have hq1 : (w - 1) * h ≤ 3 * 4 := Int.mul_le_mul (by omega) (by omega) (by omega) (by omega)
    have hw1 : w - 1 = 0 → (w - 1) * h = 0 := fun e => by rw [e, Int.zero_mul]
    rw [wrap64_id (x := w - 1) (by omega) (by omega), wrap64_id (x := (w - 1) * h) (by omega) (by omega)]
    by_cases hlt : g < (w - 1) * h
    · rw [if_pos hlt, if_neg (by omega)]
      have hne : w - 1 ≠ 0 := fun e => by have := hw1 e; omega
      have ha0 : 0 ≤ g / (w - 1) := Int.ediv_nonneg hc.1 (by omega)
      have ha1 : g / (w - 1) ≤ g := Int.ediv_le_self _ hc.1
      have hb0 : 0 ≤ g % (w - 1) := Int.emod_nonneg _ (by omega)
      have hb1 : g % (w - 1) < w - 1 := Int.emod_lt_of_pos _ (by omega)
      have hp0 : 0 ≤ g / (w - 1) * w := Int.mul_nonneg ha0 (by omega)
      have hp1 : g / (w - 1) * w ≤ 23 * 4 := Int.mul_le_mul (by omega) (by omega) (by omega) (by omega)
      rw [if_neg hne, Int.tmod_eq_emod_of_nonneg hc.1, Int.tdiv_eq_ediv_of_nonneg hc.1, wrap64_id (x := g / (w - 1)) (by omega) (by omega), wrap64_id (x := g / (w - 1) * w) (by omega) (by omega), wrap64_id (x := g / (w - 1) * w + g % (w - 1)) (by omega) (by omega), wrap64_id (by omega) (by omega)]
    · rw [if_neg hlt, if_pos (by omega)]
      rw [wrap64_id (x := g - (w - 1) * h) (by omega) (by omega), wrap64_id (by omega) (by omega)]
  · rw [if_neg hc, if_neg (by simpa using hc)]
end Go.Proofs.Ytoohcdfokejkdaa.P
namespace Go.Proofs.Ytoohcdfokejkdaa.P
open Go.RowKit Go.Proofs.YtoohcdfokejkdaaW.PrintWords
set_option linter.unusedVariables false
set_option linter.unusedSimpArgs false

/-- How many perfect mazes have all gaps of a open and none of b. -/
def totN (w h : Int) (a b : Nat) : Nat := trees (ends w h) (cellsN w h) (gapsN w h) a b
theorem totN_le (w h : Int) (a b : Nat) : totN w h a b ≤ 16777216 := by
  have h1 := trees_le (e := ends w h) (V := cellsN w h) (E := gapsN w h) a b
  have h2 : 2 ^ gapsN w h ≤ 2 ^ 24 := Nat.pow_le_pow_right (by decide) (gapsN_le w h)
  unfold totN
  omega
/-- The place of a cell's part. -/
def plN (w h : Int) (c x : Nat) : Nat := plc (ends w h) (gapsN w h) c x
def rowsZ (n i : Nat) : List (List Int) := (List.range n).map fun r => if r < i then dlist n (fun _ => 0) else []
theorem rowsZ_len (n i : Nat) : (rowsZ n i).length = n := by simp [rowsZ]
theorem rowsZ_get {n i r : Nat} (h : r < (rowsZ n i).length) : (rowsZ n i)[r] = if r < i then dlist n (fun _ => 0) else [] := by
  have h2 : r < ((List.range n).map fun r => if r < i then dlist n (fun _ => 0) else []).length := h
  show ((List.range n).map fun r => if r < i then dlist n (fun _ => 0) else [])[r] = _
  rw [List.getElem_map, List.getElem_range]
theorem rowsZ_set {n i : Nat} (h : i < n) : (rowsZ n i).set i (dlist n fun _ => 0) = rowsZ n (i + 1) := by
  apply List.ext_getElem
  · simp [rowsZ_len]
  · intro r h1 h2
    rw [List.getElem_set, rowsZ_get h2]
    by_cases e : i = r
    · rw [if_pos e, if_pos (by omega)]
    · rw [if_neg e, rowsZ_get]
      by_cases e2 : r < i
      · rw [if_pos e2, if_pos (by omega)]
      · rw [if_neg e2, if_neg (by omega)]
theorem rowsZ_zero (n : Nat) : List.replicate n ([] : List Int) = rowsZ n 0 := by
  apply List.ext_getElem
  · simp [rowsZ]
  · intro i h1 h2
    rw [rowsZ_get h2]
    simp
theorem rowsZ_all (n : Nat) : rowsZ n n = mat n n fun _ _ => 0 := by
  apply List.ext_getElem
  · simp [rowsZ_len, mat_len]
  · intro i h1 h2
    have : i < n := by rwa [rowsZ_len] at h1
    rw [rowsZ_get h1, mat_get h2, if_pos this]
theorem mat_four {w h : Int} {c b g n A B V : Nat} {f : Nat → Nat → Int} {R : Int} {P : Nat → Int} (hB : Bd f g) (hg : g ≤ 24) (p1 : A < n) (p2 : B < n)
    (ih : Ev (fun k => impl_CountFixed.l2 k c b (dlist V P) (mat n n (put (put (put (put f A A (f A A + 1)) B B (put f A A (f A A + 1) B B + 1)) A B (put (put f A A (f A A + 1)) B B (put f A A (f A A + 1) B B + 1) A B - 1)) B A
      (put (put (put f A A (f A A + 1)) B B (put f A A (f A A + 1) B B + 1)) A B (put (put f A A (f A A + 1)) B B (put f A A (f A A + 1) B B + 1) A B - 1) B A - 1))) ((g + 1 : Nat) : Int) w h) R) :
    Ev (fun k => if 0 ≤ (A : Int) then if (A : Int) < ((mat n n f).length : Int) then if (A : Int) < ((rd_L2 (mat n n f) (A : Int)).length : Int) then
      (some ((mat n n f).set A ((rd_L2 (mat n n f) (A : Int)).set A (wrap64 (rd (rd_L2 (mat n n f) (A : Int)) (A : Int) + 1))))).bind fun y133 =>
      if 0 ≤ (B : Int) then if (B : Int) < ((mat n n f).length : Int) then if (B : Int) < ((rd_L2 y133 (B : Int)).length : Int) then
      (some (y133.set B ((rd_L2 y133 (B : Int)).set B (wrap64 (rd (rd_L2 y133 (B : Int)) (B : Int) + 1))))).bind fun y138 =>
      if (B : Int) < ((rd_L2 y138 (A : Int)).length : Int) then
      (some (y138.set A ((rd_L2 y138 (A : Int)).set B (wrap64 (rd (rd_L2 y138 (A : Int)) (B : Int) - 1))))).bind fun y143 =>
      if (A : Int) < ((rd_L2 y143 (B : Int)).length : Int) then
        impl_CountFixed.l2 k c b (dlist V P) (y143.set B ((rd_L2 y143 (B : Int)).set A (wrap64 (rd (rd_L2 y143 (B : Int)) (A : Int) - 1)))) ((g + 1 : Nat) : Int) w h
      else none else none else none else none else none else none else none else none) R := by
  have b0 : 0 ≤ (g : Int) := by omega
  have v1 := hB A A
  have hB1 := bd_put (a := A) (b := A) (v := f A A + 1) hB b0 (by omega) (by omega)
  have v2 := hB1 B B
  have hB2 := bd_put (a := B) (b := B) (v := put f A A (f A A + 1) B B + 1) hB1 (by omega) (by omega) (by omega)
  have v3 := hB2 A B
  have hB3 := bd_put (a := A) (b := B) (v := put (put f A A (f A A + 1)) B B (put f A A (f A A + 1) B B + 1) A B - 1) hB2 (by omega) (by omega) (by omega)
  refine Ev.tt (by omega) (Ev.tt (by rw [mat_len]; omega) (Ev.tt (by rw [rd_mat p1, dlist_length]; omega) ?_))
  refine Ev.bnd0 (congrArg some (mat_inc hB (by omega) p1 p1)) ?_
  refine Ev.tt (by omega) (Ev.tt (by rw [mat_len]; omega) (Ev.tt (by rw [rd_mat p2, dlist_length]; omega) ?_))
  refine Ev.bnd0 (congrArg some (mat_inc hB1 (by omega) p2 p2)) ?_
  refine Ev.tt (by rw [rd_mat p1, dlist_length]; omega) ?_
  refine Ev.bnd0 (congrArg some (mat_dec hB2 (by omega) p1 p2)) ?_
  refine Ev.tt (by rw [rd_mat p2, dlist_length]; omega) ?_
  rw [mat_dec hB3 (by omega) p2 p1]
  exact ih
section
variable {w h : Int} {c b : Nat} (hg : gridOk w h = true) (hc : c < 2 ^ gapsN w h) (hb : b < 2 ^ gapsN w h)
include hg hc hb
omit hg hc hb in
theorem plN_lt {x : Nat} (hx : x < cellsN w h) : plN w h c x < partsN w h c := plc_lt hx
omit hg in
theorem cf_l2 {R : Int} (next : Ev (fun k => (impl_without.f k (mat (partsN w h c) (partsN w h c) (pm (ends w h) (gapsN w h) (plN w h c) (und c b))) 0).bind fun t149 => (impl_determinant.f k t149).bind fun t152 => some t152) R) :
    ∀ d g : Nat, g + d = gapsN w h → Ev (fun k => impl_CountFixed.l2 k c b (dlist (cellsN w h) fun x => (plN w h c x : Nat)) (mat (partsN w h c) (partsN w h c) (pm (ends w h) g (plN w h c) (und c b))) g w h) R
  | 0, g, hd => by
    have hcc := gapsN_cast w h
    obtain rfl : g = gapsN w h := by omega
    refine Ev.step (fun _ => impl_CountFixed.l2.eq_2 ..) (Ev.bnd0 (impl_CountGaps_eq w h) (Ev.ff (by omega) next))
  | d + 1, g, hd => by
    have hcc := gapsN_cast w h
    have h24 := gapsN_le w h
    have hgg : g < gapsN w h := by omega
    have hcs := open_small hc
    have hbs := open_small hb
    obtain ⟨e1, e2, e3⟩ := ends_facts hgg
    have hor : (c ||| b) < 2 ^ gapsN w h := Nat.or_lt_two_pow hc hb
    have hos := open_small hor
    have ih := cf_l2 next d (g + 1) (by omega)
    have p1 : plN w h c (ends w h g).1 < partsN w h c := plN_lt (by omega)
    have p2 : plN w h c (ends w h g).2 < partsN w h c := plN_lt e3
    refine Ev.step (fun _ => impl_CountFixed.l2.eq_2 ..) (Ev.bnd0 (impl_CountGaps_eq w h) (Ev.tt (by omega) (Ev.tt (by omega) ?_)))
    rw [bits_or (by omega) (by omega), wsucc (by omega)]
    have hbit : (Go.bits .and .i64 (shr .i64 ((c ||| b : Nat) : Int) (g : Int)) 1 = 1) ↔ (c ||| b).testBit g = true := by
      rw [← bit_one (show (c ||| b) < 4611686018427387904 by omega) g, beq_iff_eq]
    have hun : und c b g = !(c ||| b).testBit g := by unfold und; rw [Nat.testBit_or]; cases c.testBit g <;> cases b.testBit g <;> rfl
    refine Ev.ite (fun e => ?_) (fun e => ?_)
    · rw [hbit] at e
      rw [pm_succ, if_neg (by rw [hun, e]; simp)] at ih
      exact ih
    · rw [hbit] at e
      rw [pm_succ, if_pos (by rw [hun, Bool.eq_false_iff.2 e]; rfl)] at ih
      have hB := pm_bd (ends w h) (plN w h c) (und c b) g
      rw [← four_put] at ih
      refine Ev.bnd0 (impl_EndsOf_eq w h g) ?_
      rw [e1]
      refine Ev.tt (by omega) (Ev.tt (by rw [dlist_length]; omega) (Ev.tt (by omega) (Ev.tt (by rw [dlist_length]; omega) ?_)))
      rw [rd_dlist (show (ends w h g).1 < cellsN w h by omega), rd_dlist e3, Int.toNat_natCast, Int.toNat_natCast]
      generalize plN w h c (ends w h g).1 = A at *
      generalize plN w h c (ends w h g).2 = B at *
      generalize pm (ends w h) g (plN w h c) (und c b) = f at *
      generalize partsN w h c = n at *
      exact mat_four hB (by omega) p1 p2 ih
/-- The determinant of what is left is the number of perfect mazes. -/
theorem cf_det (hf : pop (gapsN w h) c + partsN w h c = cellsN w h) (hd : ∀ i, c.testBit i = true → b.testBit i = false) : Ev (fun k => (impl_without.f k (mat (partsN w h c) (partsN w h c) (pm (ends w h) (gapsN w h) (plN w h c) (und c b))) 0).bind fun t149 => (impl_determinant.f k t149).bind fun t152 => some t152) ((totN w h c b : Nat) : Int) := by
  have hV := cells_pos hg
  have hp : 0 < partsN w h c := parts_pos hc (by omega)
  have h16 := partsN_le w h c
  have htot := trees_place (gr_grid w h) hV hc hb hd hf
  obtain ⟨n, hn⟩ : ∃ n, partsN w h c = n + 1 := ⟨partsN w h c - 1, by omega⟩
  have hw := without_ev (mat (partsN w h c) (partsN w h c) (pm (ends w h) (gapsN w h) (plN w h c) (und c b))) 0 (by rw [mat_len]; omega) (fun row hr => by
    unfold mat at hr
    obtain ⟨i, _, rfl⟩ := List.mem_map.1 hr
    rw [dlist_length]
    omega)
  refine Ev.bind hw ?_
  rw [hn, minor_mat0]
  have hrow : ∀ r : Nat, r < n → (rd_L2 (mat n n fun i j => pm (ends w h) (gapsN w h) (plN w h c) (und c b) (i + 1) (j + 1)) (r : Nat)).length = n := fun r hr => by rw [rd_mat hr, dlist_length]
  refine Ev.bind (impl_det_ev (m := mat n n fun i j => pm (ends w h) (gapsN w h) (plN w h c) (und c b) (i + 1) (j + 1)) (n := n) (by rw [mat_len]) (by omega) hrow) (Ev.ret ?_)
  rw [Ds_full, dt_congr (B := fun i j => pm (ends w h) (gapsN w h) (plc (ends w h) (gapsN w h) c) (und c b) (i + 1) (j + 1)) (fun i j hi hj => by unfold ent; rw [rd_mat hi, rd_dlist hj]; rfl)]
  have hpn : parts (ends w h) (cellsN w h) (gapsN w h) c - 1 = n := by unfold partsN at hn; omega
  rw [hpn] at htot
  have hle := totN_le w h c b
  unfold totN at hle ⊢
  rw [← htot, wrap64_id (by omega) (by omega)]
omit hg hb hc in
theorem plc_first {x : Nat} (hl : labN w h c x = x) : plN w h c x = cnt (fun z => lab (ends w h) c (gapsN w h) z == z) x := by
  unfold plN plc
  unfold labN at hl
  rw [hl]
omit hg hb hc in
theorem plc_lab (x : Nat) : plN w h c (labN w h c x) = plN w h c x := by
  unfold plN plc labN
  rw [lab_lab]
omit hg hc hb in
theorem cf_l1 {R : Int} (L : List Int) (next : Ev (fun k => impl_CountFixed.l2 k c b L (mat (partsN w h c) (partsN w h c) fun _ _ => 0) 0 w h) R) :
    ∀ d i : Nat, i + d = partsN w h c → Ev (fun k => impl_CountFixed.l1 k c b L (partsN w h c : Nat) (rowsZ (partsN w h c) i) (partsN w h c : Nat) i w h) R
  | 0, i, hd => by
    refine Ev.step (fun _ => impl_CountFixed.l1.eq_2 ..) (Ev.ff (by omega) ?_)
    rw [show i = partsN w h c by omega, rowsZ_all]
    exact next
  | d + 1, i, hd => by
    have h16 := partsN_le w h c
    refine Ev.step (fun _ => impl_CountFixed.l1.eq_2 ..) (Ev.tt (by omega) (Ev.tt (by omega) (Ev.tt (by omega) (Ev.tt (by omega) (Ev.tt (by rw [rowsZ_len]; omega) ?_)))))
    rw [Int.toNat_natCast, Int.toNat_natCast, zeros_dlist, rowsZ_set (by omega), wsucc (by omega)]
    exact cf_l1 L next d (i + 1) (by omega)
omit hb in
theorem cf_l0 {R : Int} (next : Ev (fun k => impl_CountFixed.l1 k c b (dlist (cellsN w h) fun x => (plN w h c x : Nat)) (partsN w h c : Nat) (rowsZ (partsN w h c) 0) (partsN w h c : Nat) 0 w h) R) :
    ∀ d i : Nat, i + d = cellsN w h → Ev (fun k => impl_CountFixed.l0 k c b (dlist (cellsN w h) fun x => if x < i then (plN w h c x : Nat) else 0) (cnt (fun z => lab (ends w h) c (gapsN w h) z == z) i : Nat) (cellsN w h : Nat) i w h w h c) R
  | 0, i, hd => by
    have h16 := partsN_le w h c
    obtain rfl : i = cellsN w h := by omega
    have e1 : (dlist (cellsN w h) fun x => if x < cellsN w h then (plN w h c x : Int) else 0) = dlist (cellsN w h) fun x => (plN w h c x : Nat) := by
      unfold dlist
      exact List.map_congr_left fun x hx => by rw [if_pos (List.mem_range.1 hx)]
    rw [e1]
    have e2 : cnt (fun z => lab (ends w h) c (gapsN w h) z == z) (cellsN w h) = partsN w h c := rfl
    rw [e2]
    refine Ev.step (fun _ => impl_CountFixed.l0.eq_2 ..) (Ev.ff (by omega) (Ev.tt (by omega) (Ev.tt (by omega) ?_)))
    rw [Int.toNat_natCast, rowsZ_zero]
    refine Ev.bnd0 rfl ?_
    rw [rowsZ_len]
    exact next
  | d + 1, i, hd => by
    have h16 := cellsN_le w h
    have hi : i < cellsN w h := by omega
    obtain ⟨e1, e2⟩ := head_is hc hi
    have ih := cf_l0 next d (i + 1) (by omega)
    have hle : labN w h c i ≤ i := lab_le _ _ _ _
    have hcl := cnt_le (fun z => lab (ends w h) c (gapsN w h) z == z) i
    have key : ∀ v : Int, v = (plN w h c i : Int) → (dlist (cellsN w h) fun x => if x < i then (plN w h c x : Int) else 0).set i v = dlist (cellsN w h) fun x => if x < i + 1 then (plN w h c x : Int) else 0 := by
      intro v hv
      rw [dlist_set hi]
      unfold dlist upd
      refine List.map_congr_left fun x _ => ?_
      by_cases q : x = i
      · subst q; rw [if_pos rfl, if_pos (by omega), hv]
      · rw [if_neg q]
        show (if x < i then (plN w h c x : Int) else 0) = _
        by_cases q2 : x < i
        · rw [if_pos q2, if_pos (by omega)]
        · rw [if_neg q2, if_neg (by omega)]
    refine Ev.step (fun _ => impl_CountFixed.l0.eq_2 ..) (Ev.tt (by omega) (Ev.bind (impl_Reached_ev hg hc hi) (Ev.tt e1 ?_)))
    rw [e2, wsucc (show i < 4611686018427387904 by omega)]
    refine Ev.ite (fun q => ?_) (fun q => ?_)
    · refine Ev.tt (by omega) (Ev.tt (by rw [dlist_length]; omega) (Ev.tt (by omega) (Ev.tt (by rw [dlist_length]; omega) ?_)))
      rw [rd_dlist (show labN w h c i < cellsN w h by omega), if_pos (show labN w h c i < i by omega), Int.toNat_natCast, key _ (by rw [plc_lab])]
      have : cnt (fun z => lab (ends w h) c (gapsN w h) z == z) (i + 1) = cnt (fun z => lab (ends w h) c (gapsN w h) z == z) i := by
        have hne : (lab (ends w h) c (gapsN w h) i == i) = false := by
          rw [beq_eq_false_iff_ne]
          intro hq
          unfold labN at q
          omega
        show cnt _ i + (lab (ends w h) c (gapsN w h) i == i).toNat = _
        rw [hne]
        rfl
      rw [this] at ih
      exact ih
    · refine Ev.tt (by omega) (Ev.tt (by rw [dlist_length]; omega) ?_)
      have hl : labN w h c i = i := by omega
      rw [Int.toNat_natCast, key _ (by rw [plc_first hl]), wsucc (by omega)]
      have : cnt (fun z => lab (ends w h) c (gapsN w h) z == z) (i + 1) = cnt (fun z => lab (ends w h) c (gapsN w h) z == z) i + 1 := by
        have heq : (lab (ends w h) c (gapsN w h) i == i) = true := by
          rw [beq_iff_eq]; exact hl
        show cnt _ i + (lab (ends w h) c (gapsN w h) i == i).toNat = _
        rw [heq]
        rfl
      rw [this] at ih
      exact ih
omit hb in
theorem impl_CountLoops_ev : Ev (fun k => impl_CountLoops.f k w h c) (((pop (gapsN w h) c : Nat) : Int) - (cellsN w h : Nat) + (partsN w h c : Nat)) := by
  have h24 := gapsN_le w h
  have hV := cellsN_cast w h
  have h16 := cellsN_le w h
  have hp := partsN_le w h c
  have hpo := pop_le (gapsN w h) c
  unfold impl_CountLoops.f
  refine Ev.bnd0 (impl_MazeOk_eq ..) (Ev.tt (mazeOk_nat hg hc) (Ev.bnd0 (impl_CountPassages_eq hg hc) (Ev.bnd0 (impl_CountCells_eq w h) (Ev.bind (impl_CountParts_ev hg hc) (Ev.ret ?_)))))
  rw [← hV, wrap64_id (x := ((pop (gapsN w h) c : Nat) : Int) - (cellsN w h : Nat)) (by omega) (by omega), wrap64_id (by omega) (by omega)]
theorem cf_j0 (hd : ∀ i, c.testBit i = true → b.testBit i = false) : Ev (fun k => impl_CountFixed.j0 k c b false w h) ((totN w h c b : Nat) : Int) := by
  have hV := cellsN_cast w h
  have h16 := cellsN_le w h
  have hno := loops_nonneg (v := cellsN w h) (gr_grid w h) c hc
  refine Ev.step (fun _ => impl_CountFixed.j0.eq_2 ..) (Ev.ff (by simp) (Ev.bind (impl_CountLoops_ev hg hc) ?_))
  refine Ev.ite (fun e => ?_) (fun e => ?_)
  · refine Ev.ret ?_
    have := trees_loops (gr_grid w h) (b := b) hc (show ¬ pop (gapsN w h) c + parts (ends w h) (cellsN w h) (gapsN w h) c = cellsN w h by unfold partsN at e; omega)
    unfold totN
    rw [this]
    rfl
  · have hf : pop (gapsN w h) c + partsN w h c = cellsN w h := by unfold partsN at e ⊢; omega
    refine Ev.bnd0 (impl_CountCells_eq w h) ?_
    rw [← hV]
    refine Ev.tt (by omega) (Ev.tt (by omega) (Ev.bnd0 rfl ?_))
    rw [Int.toNat_natCast, List.length_replicate, zeros_dlist]
    have := cf_l0 hg hc (cf_l1 _ (cf_l2 hc hb (cf_det hg hc hb hf hd) (gapsN w h) 0 (by omega)) (partsN w h c) 0 (by omega)) (cellsN w h) 0 (by omega)
    have e0 : (dlist (cellsN w h) fun x => if x < 0 then (plN w h c x : Int) else 0) = dlist (cellsN w h) fun _ => 0 := by
      unfold dlist
      exact List.map_congr_left fun x _ => by rw [if_neg (by omega)]
    rw [e0] at this
    exact this
end
end Go.Proofs.Ytoohcdfokejkdaa.P
namespace Go.Proofs.Ytoohcdfokejkdaa.P
open Go.RowKit Go.Proofs.YtoohcdfokejkdaaW.PrintWords
set_option linter.unusedVariables false
set_option linter.unusedSimpArgs false

/-- The first k rows and columns, bordered by the row i and the column j. -/
def bd (A : Nat → Nat → Int) (k i j : Nat) : Nat → Nat → Int := fun r c => A (if r < k then r else i) (if c < k then c else j)
def mnB (A : Nat → Nat → Int) (k i j : Nat) : Int := dt (k + 1) (bd A k i j)
theorem mn_zero (A : Nat → Nat → Int) (i j : Nat) : mnB A 0 i j = A i j := by
  simp [mnB, dt, sumTo, bd, sgn]
theorem mn_diag (A : Nat → Nat → Int) (k : Nat) : mnB A k k k = dt (k + 1) A := by
  refine dt_congr fun r c hr hc => ?_
  unfold bd
  rw [show (if r < k then r else k) = r by split <;> omega, show (if c < k then c else k) = c by split <;> omega]
theorem mn_row (A : Nat → Nat → Int) (k i : Nat) : ∃ f : Nat → Int, ∀ j, mnB A k i j = dt k A * A i j + sumTo k (fun l => f l * A l j) := by
  refine ⟨fun l => sgn (k - l) * dt k (er l (bd A k i 0)), fun j => ?_⟩
  unfold mnB
  simp only [dt, sumTo]
  rw [Int.add_comm]
  congr 1
  · rw [Nat.sub_self, show bd A k i j k k = A i j by simp [bd], show dt k (er k (bd A k i j)) = dt k A from dt_congr fun r c hr hc => by simp [er, bd, hr, hc]]
    simp [sgn, Int.mul_comm]
  · refine sumTo_congr fun l hl => ?_
    rw [show bd A k i j l k = A l j by simp [bd, hl], show dt k (er l (bd A k i j)) = dt k (er l (bd A k i 0)) from dt_congr fun r c hr hc => by
      by_cases h : r < l <;> simp [er, bd, hc, h]]
    grind
theorem mn_col {A : Nat → Nat → Int} {k i j : Nat} (h : j < k) : mnB A k i j = 0 := by
  unfold mnB
  rw [← dt_tr]
  refine dt_eq _ (i := j) (j := k) (by omega) (by omega) (by omega) fun c => ?_
  simp [tr, bd]
theorem dt_comb {r : Nat} (A : Nat → Nat → Int) {i : Nat} (hi : i < r) (p : Int) (f : Nat → Int) : ∀ m, m ≤ i → dt r (rp A i (fun x => p * A i x + sumTo m (fun l => f l * A l x))) = p * dt r A
  | 0, _ => by
    have h := dt_lin A hi p 0 (A i) (A i)
    rw [rp_self] at h
    rw [show (fun x => p * A i x + sumTo 0 (fun l => f l * A l x)) = fun x => p * A i x + 0 * A i x by funext x; simp [sumTo], h]
    omega
  | m + 1, hm => by
    have h := dt_lin A hi 1 (f m) (fun x => p * A i x + sumTo m (fun l => f l * A l x)) (A m)
    rw [dt_comb A hi p f m (by omega), dt_eq (rp A i (A m)) (i := i) (j := m) (by omega) hi (by omega) (fun c => by rw [rp_same, rp_ne _ (by omega)])] at h
    rw [show (fun x => p * A i x + sumTo (m + 1) (fun l => f l * A l x)) = fun x => 1 * (p * A i x + sumTo m (fun l => f l * A l x)) + f m * A m x by
      funext x; simp only [sumTo]; omega, h]
    omega
theorem syl (A : Nat → Nat → Int) (k i j : Nat) (hp : dt k A ≠ 0) : dt k A * mnB A (k + 1) i j = mnB A k k k * mnB A k i j - mnB A k i k * mnB A k k j := by
  obtain ⟨f, hf⟩ := mn_row A k k
  obtain ⟨g, hg⟩ := mn_row A k i
  have hM : ∀ l, l ≤ k → ∀ x, bd A (k + 1) i j l x = A l (if x < k + 1 then x else j) := fun l hl x => by unfold bd; rw [if_pos (show l < k + 1 by omega)]
  have hL : ∀ x, bd A (k + 1) i j (k + 1) x = A i (if x < k + 1 then x else j) := fun x => by unfold bd; rw [if_neg (show ¬ k + 1 < k + 1 by omega)]
  generalize hMM : bd A (k + 1) i j = M at *
  have e1 := dt_comb (r := k + 2) M (i := k) (by omega) (dt k A) f k (Nat.le_refl k)
  have e1' : (fun x => dt k A * M k x + sumTo k (fun l => f l * M l x)) = fun x => mnB A k k (if x < k + 1 then x else j) := by
    funext x
    rw [hf, hM k (Nat.le_refl k)]
    congr 1
    exact sumTo_congr fun l hl => by rw [hM l (by omega)]
  rw [e1'] at e1
  generalize hN : rp M k (fun x => mnB A k k (if x < k + 1 then x else j)) = N at *
  have e2 := dt_comb (r := k + 2) N (i := k + 1) (by omega) (dt k A) g k (by omega)
  have hNl : ∀ l, l ≠ k → N l = M l := fun l hl => by rw [← hN, rp_ne _ hl]
  have hNk : ∀ x, N k x = mnB A k k (if x < k + 1 then x else j) := fun x => by rw [← hN, rp_same]
  have e2' : (fun x => dt k A * N (k + 1) x + sumTo k (fun l => g l * N l x)) = fun x => mnB A k i (if x < k + 1 then x else j) := by
    funext x
    rw [hg, hNl (k + 1) (by omega), hL]
    congr 1
    exact sumTo_congr fun l hl => by rw [hNl l (by omega), hM l (by omega)]
  rw [e2'] at e2
  generalize hR : rp N (k + 1) (fun x => mnB A k i (if x < k + 1 then x else j)) = R at *
  have hRl : ∀ l, l < k → ∀ x, R l x = A l (if x < k + 1 then x else j) := fun l hl x => by rw [← hR, rp_ne _ (by omega), hNl l (by omega), hM l (by omega)]
  have hRk : ∀ x, R k x = mnB A k k (if x < k + 1 then x else j) := fun x => by rw [← hR, rp_ne _ (by omega), hNk]
  have hRi : ∀ x, R (k + 1) x = mnB A k i (if x < k + 1 then x else j) := fun x => by rw [← hR, rp_same]
  have e3 : dt (k + 2) R = dt k A * (mnB A k k k * mnB A k i j - mnB A k i k * mnB A k k j) := by
    rw [dt_lastvec]
    have z : sumTo (k + 2) (fun c => sgn (k + 1 - c) * R (k + 1) c * dt (k + 1) (ec c R)) = sumTo k (fun c => sgn (k + 1 - c) * R (k + 1) c * dt (k + 1) (ec c R)) + sgn (k + 1 - k) * R (k + 1) k * dt (k + 1) (ec k R) + sgn (k + 1 - (k + 1)) * R (k + 1) (k + 1) * dt (k + 1) (ec (k + 1) R) := rfl
    rw [z, sumTo_zero (fun c hc => by rw [hRi, if_pos (by omega), mn_col hc]; simp)]
    have u1 : dt (k + 1) (ec k R) = mnB A k k j * dt k A := by
      rw [dt_unit (ec k R) (p := k) (q := k) (Nat.le_refl k) (Nat.le_refl k) (fun c hc hne => by
        rw [show ec k R k c = R k c from if_pos (by omega), hRk, if_pos (by omega), mn_col (by omega)])]
      rw [show ec k R k k = R k (k + 1) from if_neg (by omega), hRk, if_neg (by omega), sgn_par (show (k + k) % 2 = 0 % 2 by omega)]
      rw [show dt k (er k (ec k (ec k R))) = dt k A from dt_congr fun r c hr hc => by
        rw [show er k (ec k (ec k R)) r c = R r c by simp [er, ec, hr, hc], hRl r hr, if_pos (by omega)]]
      simp [sgn]
    have u2 : dt (k + 1) (ec (k + 1) R) = mnB A k k k * dt k A := by
      rw [dt_unit (ec (k + 1) R) (p := k) (q := k) (Nat.le_refl k) (Nat.le_refl k) (fun c hc hne => by
        rw [show ec (k + 1) R k c = R k c from if_pos (by omega), hRk, if_pos (by omega), mn_col (by omega)])]
      rw [show ec (k + 1) R k k = R k k from if_pos (by omega), hRk, if_pos (by omega), sgn_par (show (k + k) % 2 = 0 % 2 by omega)]
      rw [show dt k (er k (ec k (ec (k + 1) R))) = dt k A from dt_congr fun r c hr hc => by
        rw [show er k (ec k (ec (k + 1) R)) r c = R r c by simp [er, ec, hr, hc, show c < k + 1 by omega], hRl r hr, if_pos (by omega)]]
      simp [sgn]
    rw [u1, u2, hRi, hRi, if_pos (by omega), if_neg (by omega), show k + 1 - k = 1 by omega, Nat.sub_self, show sgn 1 = -1 from rfl, show sgn 0 = 1 from rfl]
    grind
  rw [e3, e1] at e2
  have e4 : dt k A * (mnB A k k k * mnB A k i j - mnB A k i k * mnB A k k j) = dt k A * (dt k A * mnB A (k + 1) i j) := by
    rw [e2]; unfold mnB; rw [hMM]
  exact (Int.eq_of_mul_eq_mul_left hp e4).symm
/-- A sum from k on. -/
def sumFrom (k n : Nat) (f : Nat → Int) : Int := sumTo n fun j => if k ≤ j then f j else 0
/-- Off the diagonal no entry is positive, and no row sums to less than 0. -/
structure Heavy (n : Nat) (A : Nat → Nat → Int) : Prop where
  off : ∀ i j, i < n → j < n → i ≠ j → A i j ≤ 0
  row : ∀ i, i < n → 0 ≤ sumTo n (A i)
structure HeavyK (n : Nat) (A : Nat → Nat → Int) (k : Nat) : Prop where
  off : ∀ i j, k ≤ i → k ≤ j → i < n → j < n → i ≠ j → mnB A k i j ≤ 0
  row : ∀ i, k ≤ i → i < n → 0 ≤ sumFrom k n (mnB A k i)
  pos : 0 < dt k A
theorem sumTo_ge {n i : Nat} {f : Nat → Int} (hi : i < n) (h : ∀ j, j < n → j ≠ i → f j ≤ 0) : sumTo n f ≤ f i := by
  induction n with
  | zero => omega
  | succ n ih =>
    simp only [sumTo]
    by_cases e : i = n
    · subst e
      have : ∀ m, m ≤ i → sumTo m f ≤ 0 := by
        intro m
        induction m with
        | zero => intro _; exact Int.le_refl _
        | succ m ihm => intro hm; simp only [sumTo]; have := ihm (by omega); have := h m (by omega) (by omega); omega
      have := this i (Nat.le_refl i)
      omega
    · have := ih (by omega) (fun j hj hne => h j (by omega) hne)
      have := h n (by omega) (fun e' => e e'.symm)
      omega
theorem sumTo_ge2 {n i j : Nat} {f : Nat → Int} (hi : i < n) (hj : j < n) (hij : i ≠ j) (h : ∀ j, j < n → j ≠ i → f j ≤ 0) : sumTo n f ≤ f i + f j := by
  have h1 := sumTo_one (f := fun k => if k = j then 0 else f k) (g := f) hj (fun k hk hne => by simp [hne])
  have h2 := sumTo_ge (f := fun k => if k = j then 0 else f k) hi (fun k hk hne => by
    show (if k = j then 0 else f k) ≤ 0
    by_cases e : k = j
    · rw [if_pos e]; omega
    · rw [if_neg e]; exact h k hk hne)
  rw [if_pos rfl] at h1
  rw [if_neg hij] at h2
  omega
theorem HeavyK.diag {n k : Nat} {A : Nat → Nat → Int} (H : HeavyK n A k) {i : Nat} (h1 : k ≤ i) (h2 : i < n) : 0 ≤ mnB A k i i := by
  have := H.row i h1 h2
  unfold sumFrom at this
  have h3 := sumTo_ge (f := fun j => if k ≤ j then mnB A k i j else 0) h2 (fun j hj hne => by
    show (if k ≤ j then mnB A k i j else 0) ≤ 0
    split
    · rename_i hkj; exact H.off i j h1 hkj h2 hj hne.symm
    · omega)
  simp only [h1, if_true] at h3
  omega
theorem HeavyK.abs {n k : Nat} {A : Nat → Nat → Int} (H : HeavyK n A k) {i j : Nat} (h1 : k ≤ i) (h2 : i < n) (h3 : k ≤ j) (h4 : j < n) (hij : i ≠ j) : -mnB A k i i ≤ mnB A k i j := by
  have := H.row i h1 h2
  unfold sumFrom at this
  have h5 := sumTo_ge2 (f := fun j => if k ≤ j then mnB A k i j else 0) h2 h4 hij (fun j hj hne => by
    show (if k ≤ j then mnB A k i j else 0) ≤ 0
    split
    · rename_i hkj; exact H.off i j h1 hkj h2 hj hne.symm
    · omega)
  simp only [h1, h3, if_true] at h5
  omega
theorem HeavyK.start {n : Nat} {A : Nat → Nat → Int} (H : Heavy n A) : HeavyK n A 0 where
  off := fun i j _ _ hi hj hij => by rw [mn_zero]; exact H.off i j hi hj hij
  row := fun i _ hi => by
    unfold sumFrom
    simp only [mn_zero, Nat.zero_le, if_true]
    exact H.row i hi
  pos := by simp [dt]
theorem HeavyK.next {n k : Nat} {A : Nat → Nat → Int} (H : HeavyK n A k) (hk : k < n) (hp : mnB A k k k ≠ 0) : HeavyK n A (k + 1) := by
  have hd := H.diag (Nat.le_refl k) hk
  have hpos := H.pos
  have S := fun i j => syl A k i j (by omega)
  refine { off := fun i j hi hj hin hjn hij => ?_, row := fun i hi hin => ?_, pos := by rw [← mn_diag]; omega }
  · have h1 := H.off i j (by omega) (by omega) hin hjn hij
    have h2 := H.off i k (by omega) (by omega) hin hk (by omega)
    have h3 := H.off k j (by omega) (by omega) hk hjn (by omega)
    have e := S i j
    have a1 : mnB A k k k * mnB A k i j ≤ 0 := Int.mul_nonpos_of_nonneg_of_nonpos hd h1
    have a2 : 0 ≤ mnB A k i k * mnB A k k j := Int.mul_nonneg_of_nonpos_of_nonpos h2 h3
    rcases Int.lt_or_le 0 (mnB A (k + 1) i j) with hc | hc
    · have := Int.mul_pos hpos hc
      omega
    · exact hc
  · have e : dt k A * sumFrom (k + 1) n (mnB A (k + 1) i) = mnB A k k k * sumFrom k n (mnB A k i) - mnB A k i k * sumFrom k n (mnB A k k) := by
      unfold sumFrom
      rw [← sumTo_mul, ← sumTo_mul, ← sumTo_mul, Int.sub_eq_add_neg, ← sumTo_neg, ← sumTo_add]
      refine sumTo_congr fun j hj => ?_
      by_cases h1 : k + 1 ≤ j
      · rw [if_pos h1, if_pos (by omega), if_pos (by omega), S i j]; omega
      · rw [if_neg h1]
        by_cases h2 : k = j
        · subst h2
          rw [if_pos (Nat.le_refl _), if_pos (Nat.le_refl _), Int.mul_comm (mnB A k i k)]; omega
        · rw [if_neg (by omega), if_neg (by omega)]; omega
    have h1 := H.row i (by omega) hin
    have h2 := H.row k (Nat.le_refl k) hk
    have h3 := H.off i k (by omega) (by omega) hin hk (by omega)
    have a1 := Int.mul_nonneg hd h1
    have a2 : mnB A k i k * sumFrom k n (mnB A k k) ≤ 0 := Int.mul_nonpos_of_nonpos_of_nonneg h3 h2
    rcases Int.lt_or_le (sumFrom (k + 1) n (mnB A (k + 1) i)) 0 with hc | hc
    · have := Int.mul_neg_of_pos_of_neg hpos hc
      omega
    · exact hc
/-- An empty pivot: the determinant is 0. -/
theorem HeavyK.zero {n k : Nat} {A : Nat → Nat → Int} (H : HeavyK n A k) (hk : k < n) (hp : mnB A k k k = 0) : dt n A = 0 := by
  have hpos := H.pos
  have hz : ∀ j, j < n → mnB A k k j = 0 := by
    intro j hj
    by_cases h1 : j < k
    · exact mn_col h1
    · by_cases h2 : k = j
      · rw [← h2]; exact hp
      · have := H.off k j (Nat.le_refl k) (by omega) hk hj h2
        have := H.abs (Nat.le_refl k) hk (show k ≤ j by omega) hj h2
        omega
  obtain ⟨f, hf⟩ := mn_row A k k
  have h1 := dt_comb A hk (dt k A) f k (Nat.le_refl k)
  rw [dt_zero _ hk (fun c hc => by rw [rp_same, ← hf, hz c hc])] at h1
  rcases Int.mul_eq_zero.1 h1.symm with h | h
  · omega
  · exact h
/-- The diagonal bounds. -/
theorem HeavyK.step_le {n k : Nat} {A : Nat → Nat → Int} (H : HeavyK n A k) (hk : k < n) {i : Nat} (hi : k < i) (hin : i < n) : dt k A * mnB A (k + 1) i i ≤ dt (k + 1) A * mnB A k i i := by
  rw [syl A k i i (by have := H.pos; omega), ← mn_diag]
  have := Int.mul_nonneg_of_nonpos_of_nonpos (H.off i k (by omega) (by omega) hin hk (by omega)) (H.off k i (by omega) (by omega) hk hin (by omega))
  omega
/-- The product of the first k numbers of the diagonal. -/
def dprod (A : Nat → Nat → Int) : Nat → Int
  | 0 => 1
  | k + 1 => dprod A k * A k k
theorem Heavy.diag {n : Nat} {A : Nat → Nat → Int} (H : Heavy n A) {i : Nat} (hi : i < n) : 0 ≤ A i i := by
  have := H.row i hi
  have := sumTo_ge (f := A i) hi (fun j hj hne => H.off i j hi hj (Ne.symm hne))
  omega
/-- What is kept from step to step. -/
structure Stage (n : Nat) (A : Nat → Nat → Int) (k : Nat) : Prop extends HeavyK n A k where
  ple : dt k A ≤ dprod A k
  dle : ∀ i, k ≤ i → i < n → mnB A k i i ≤ dt k A * A i i
theorem Stage.start {n : Nat} {A : Nat → Nat → Int} (H : Heavy n A) : Stage n A 0 :=
  { HeavyK.start H with ple := by simp [dt, dprod], dle := fun i _ _ => by rw [mn_zero]; simp [dt] }
theorem Stage.next {n k : Nat} {A : Nat → Nat → Int} (H : Heavy n A) (K : Stage n A k) (hk : k < n) (hp : mnB A k k k ≠ 0) : Stage n A (k + 1) := by
  have N := K.toHeavyK.next hk hp
  have hpos := K.pos
  refine { N with ple := ?_, dle := fun i hi hin => ?_ }
  · have h1 := K.dle k (Nat.le_refl k) hk
    rw [mn_diag] at h1
    have h2 := Int.mul_le_mul_of_nonneg_right K.ple (H.diag hk)
    exact Int.le_trans h1 h2
  · have h1 := K.toHeavyK.step_le hk (show k < i by omega) hin
    have h2 := K.dle i (by omega) hin
    have h3 := Int.mul_le_mul_of_nonneg_left h2 (Int.le_of_lt N.pos)
    have h4 : dt k A * mnB A (k + 1) i i ≤ dt k A * (dt (k + 1) A * A i i) := by
      refine Int.le_trans h1 (Int.le_trans h3 (Int.le_of_eq ?_))
      rw [← Int.mul_assoc, ← Int.mul_assoc, Int.mul_comm (dt (k + 1) A)]
    exact Int.le_of_mul_le_mul_left h4 hpos
theorem spec_EndsOf_eq (w h g : Int) : spec_EndsOf.f w h g = some (endsI w h g) := by
  unfold spec_EndsOf.f endsI
  have hr0 := gapsOf_range w h
  rw [spec_CountGaps_eq, Option.bind_some, wrap64_id (x := gapsOf w h - 1) (by omega) (by omega), l01In_eq, Option.bind_some]
  by_cases hc : 0 ≤ g ∧ g < gapsOf w h
  · rw [if_pos hc, if_pos (by simp; omega)]
    obtain ⟨hg, hgw⟩ := gapsOf_valid hc.1 hc.2
    have hgr := gridOk_iff.1 hg
    have hrr := gapsOf_range w h
    have hq0 : 0 ≤ (w - 1) * h := Int.mul_nonneg (by omega) (by omega)
    have hq1 : (w - 1) * h ≤ 3 * 4 := Int.mul_le_mul (by omega) (by omega) (by omega) (by omega)
    have hw1 : w - 1 = 0 → (w - 1) * h = 0 := fun e => by rw [e, Int.zero_mul]
    rw [spec_l02East_eq hg]
    unfold eastOf
    simp only [Option.bind_some]
    rw [wrap64_id (x := w - 1) (by omega) (by omega)]
    by_cases hlt : g < (w - 1) * h
    · rw [if_pos hlt, if_pos hlt]
      have hne : w - 1 ≠ 0 := fun e => by have := hw1 e; omega
      have ha0 : 0 ≤ g / (w - 1) := Int.ediv_nonneg hc.1 (by omega)
      have ha1 : g / (w - 1) ≤ g := Int.ediv_le_self _ hc.1
      have hb0 : 0 ≤ g % (w - 1) := Int.emod_nonneg _ (by omega)
      have hb1 : g % (w - 1) < w - 1 := Int.emod_lt_of_pos _ (by omega)
      have hp0 : 0 ≤ g / (w - 1) * w := Int.mul_nonneg ha0 (by omega)
      have hp1 : g / (w - 1) * w ≤ 23 * 4 := Int.mul_le_mul (by omega) (by omega) (by omega) (by omega)
      rw [if_neg hne, Int.tmod_eq_emod_of_nonneg hc.1, Int.tdiv_eq_ediv_of_nonneg hc.1, wrap64_id (x := g / (w - 1)) (by omega) (by omega), wrap64_id (x := g / (w - 1) * w) (by omega) (by omega), wrap64_id (x := g / (w - 1) * w + g % (w - 1)) (by omega) (by omega), wrap64_id (by omega) (by omega)]
    · rw [if_neg hlt, if_neg hlt]
      rw [wrap64_id (x := g - (w - 1) * h) (by omega) (by omega), wrap64_id (by omega) (by omega)]
  · rw [if_neg hc, if_neg (by simp; omega)]
end Go.Proofs.Ytoohcdfokejkdaa.P
namespace Go.Proofs.Ytoohcdfokejkdaa.P
open Go.RowKit Go.Proofs.YtoohcdfokejkdaaW.PrintWords Go.Proofs.YtoohcdfokejkdaaW.PrintLast Go.Proofs.YtoohcdfokejkdaaW.PrintMore
attribute [local go_sem] max2_int min2_int max_two min_two max_three min_three max_four min_four   -- for this text's walks alone
set_option linter.unusedVariables false
set_option linter.unusedSimpArgs false

/-! ### spec_l12Trees: function 85 -/
end Go.Proofs.Ytoohcdfokejkdaa.P
namespace Go.Proofs.Ytoohcdfokejkdaa.P
open Go.RowKit Go.Proofs.YtoohcdfokejkdaaW.PrintWords
set_option linter.unusedVariables false
set_option linter.unusedSimpArgs false

section
variable {e : Nat → Nat × Nat} {V E : Nat}
/-- Labels P tell the parts of o; no loop; what was looked at is joined. -/
structure KInv (e : Nat → Nat × Nat) (V E : Nat) (done : Nat → Prop) (P : Nat → Int) (o : Nat) : Prop where
  lt : o < 2 ^ E
  lab : ∀ x y, x < V → y < V → (P x = P y ↔ Cn e o x y)
  fo : pop E o + parts e V E o = V
  dn : ∀ g, g < E → done g → Cn e o (e g).1 (e g).2
theorem pop_zero' (E : Nat) : pop E 0 = 0 := by
  induction E with
  | zero => rfl
  | succ m ih => simp only [pop, Nat.zero_testBit, ih]; rfl
theorem KInv.start {P : Nat → Int} (hP : ∀ x, P x = x) : KInv e V E (fun _ => False) P 0 := by
  refine ⟨Nat.two_pow_pos E, fun x y _ _ => ?_, ?_, fun _ _ h => h.elim⟩
  · rw [hP, hP, Cn_zero]
    omega
  · rw [parts_zero, pop_zero', Nat.zero_add]
theorem KInv.skip {done : Nat → Prop} {P : Nat → Int} {o g : Nat} (hG : Gr e V E) (K : KInv e V E done P o) (hg : g < E) (h : P (e g).1 = P (e g).2) : KInv e V E (fun j => done j ∨ j = g) P o :=
  ⟨K.lt, K.lab, K.fo, fun j hj hd => hd.elim (K.dn j hj) (fun h2 => by subst h2; exact (K.lab _ _ (hG j hg).1 (hG j hg).2).1 h)⟩
theorem KInv.join {done : Nat → Prop} {P : Nat → Int} {o g : Nat} (hG : Gr e V E) (K : KInv e V E done P o) (hg : g < E) (h : ¬ P (e g).1 = P (e g).2) :
    KInv e V E (fun j => done j ∨ j = g) (fun x => if P x = P (e g).2 then P (e g).1 else P x) (setB o g true) := by
  obtain ⟨g1, g2⟩ := hG g hg
  have hnc : ¬ Cn e o (e g).1 (e g).2 := fun hc => h ((K.lab _ _ g1 g2).2 hc)
  have hb : o.testBit g = false := by
    cases hb : o.testBit g
    · rfl
    · exact absurd (Cn.edge hb) hnc
  refine ⟨setB_lt true K.lt hg, fun x y hx hy => ?_, ?_, fun j hj hd => ?_⟩
  · rw [Cn_add, ← K.lab x y hx hy, ← K.lab x _ hx g1, ← K.lab _ y g2 hy, ← K.lab x _ hx g2, ← K.lab _ y g1 hy]
    show (if P x = P (e g).2 then P (e g).1 else P x) = (if P y = P (e g).2 then P (e g).1 else P y) ↔ _
    by_cases e1 : P x = P (e g).2 <;> by_cases e2 : P y = P (e g).2
    · rw [if_pos e1, if_pos e2, e1, e2]; simp
    · rw [if_pos e1, if_neg e2]
      constructor
      · intro e3; exact Or.inr (Or.inr ⟨e1, e3⟩)
      · rintro (e3 | ⟨e3, e4⟩ | ⟨_, e4⟩)
        · exact absurd (e3.symm.trans e1) e2
        · exact absurd e4.symm e2
        · exact e4
    · rw [if_neg e1, if_pos e2]
      constructor
      · intro e3; exact Or.inr (Or.inl ⟨e3, e2.symm⟩)
      · rintro (e3 | ⟨e3, _⟩ | ⟨e3, _⟩)
        · exact absurd (e3.trans e2) e1
        · exact e3
        · exact absurd e3 e1
    · rw [if_neg e1, if_neg e2]
      constructor
      · exact Or.inl
      · rintro (e3 | ⟨_, e4⟩ | ⟨e3, _⟩)
        · exact e3
        · exact absurd e4.symm e2
        · exact absurd e3 e1
  · have h1 := (parts_add (v := V) K.lt hg g1 g2).2 hnc
    have h2 := K.fo
    rw [pop_setB hg hb]
    omega
  · rcases hd with hd | rfl
    · exact Cn.mono (fun i hi => by rw [testBit_setB]; split <;> simp_all) (K.dn j hj hd)
    · have : (setB o j true).testBit j = true := setB_bit o j true
      exact Cn.edge this
/-- Where all gaps were looked at, and all gaps together join all cells: perfect. -/
theorem KInv.perfect {done : Nat → Prop} {P : Nat → Int} {o full : Nat} (K : KInv e V E done P o) (hV : 0 < V) (hd : ∀ g, g < E → done g) (hfl : full < 2 ^ E) (hfull : ∀ x, x < V → Cn e full 0 x) : perf e V E o = true := by
  have hmap : ∀ x y, Cn e full x y → Cn e o x y := by
    intro x y hc
    induction hc with
    | refl => exact .refl _
    | fwd k hk _ ih => exact ih.trans (K.dn k (lt_of_testBit hfl hk) (hd k (lt_of_testBit hfl hk)))
    | bwd k hk _ ih => exact ih.trans (K.dn k (lt_of_testBit hfl hk) (hd k (lt_of_testBit hfl hk))).symm
  have h1 : parts e V E o = 1 := (parts_one K.lt hV).2 fun x hx => hmap _ _ (hfull x hx)
  have h2 := K.fo
  rw [perf_iff]
  omega
end
/-- All gaps of a grid join all its cells. -/
theorem nb_down_all : (List.range 5).all (fun W => (List.range 5).all fun H => (List.range 16).all fun c => decide (c = 0) || decide (¬ (c : Int) < cellsOf W H) ||
    (decide (0 ≤ nbI W H c 3 ∧ nbI W H c 3 < c) || decide (0 ≤ nbI W H c 0 ∧ nbI W H c 0 < c))) = true := by decide +kernel
theorem full_conn {w h : Int} (hg : gridOk w h = true) {full : Nat} (hf : ∀ g, g < gapsN w h → full.testBit g = true) : ∀ x, x < cellsN w h → Cn (ends w h) full 0 x := by
  intro x
  induction x using Nat.strongRecOn with
  | _ x ih =>
    intro hx
    have hc := cellsN_cast w h
    have hl := cellsN_le w h
    by_cases h0 : x = 0
    · subst h0; exact .refl _
    obtain ⟨W, H, rfl, rfl, _, w5, _, h5⟩ := grid_nat hg
    have := List.all_eq_true.1 (List.all_eq_true.1 (List.all_eq_true.1 nb_down_all W (List.mem_range.2 w5)) H (List.mem_range.2 h5)) x (List.mem_range.2 (by omega))
    simp only [Bool.or_eq_true, decide_eq_true_eq] at this
    have hd : ∃ d : Int, 0 ≤ nbI W H x d ∧ nbI W H x d < x := by
      rcases this with (h | h) | (h | h)
      · exact absurd h h0
      · exact absurd (show (x : Int) < cellsOf W H by omega) h
      · exact ⟨3, h⟩
      · exact ⟨0, h⟩
    obtain ⟨d, d0, d1⟩ := hd
    rcases step_facts W H x d with ⟨f1, _⟩ | ⟨f1, f2, f3, f4, f5, f6, _⟩
    · omega
    have hgc := gapsN_cast W H
    obtain ⟨g, hgg⟩ : ∃ g : Nat, gapI W H x d = g := ⟨(gapI W H x d).toNat, by omega⟩
    have hgl : g < gapsN W H := by omega
    obtain ⟨y, hy⟩ : ∃ y : Nat, nbI W H x d = y := ⟨(nbI W H x d).toNat, by omega⟩
    have he : ends W H g = (y, x) := by
      rw [hgg, hy] at f6
      unfold ends
      rw [f6]
      rw [hy] at d1
      have m1 : min (x : Int) (y : Int) = y := by omega
      have m2 : max (x : Int) (y : Int) = x := by omega
      rw [m1, m2]
      simp
    have hyx : Cn (ends W H) full y x := by
      have := Cn.edge (e := ends W H) (hf g hgl)
      rwa [he] at this
    exact (ih y (by omega) (by omega)).trans hyx
end Go.Proofs.Ytoohcdfokejkdaa.P
namespace Go.Proofs.Ytoohcdfokejkdaa.P
open Go.RowKit Go.Proofs.YtoohcdfokejkdaaW.PrintWords Go.Proofs.YtoohcdfokejkdaaW.PrintLast Go.Proofs.YtoohcdfokejkdaaW.PrintMore
attribute [local go_sem] max2_int min2_int max_two min_two max_three min_three max_four min_four   -- for this text's walks alone
set_option linter.unusedVariables false
set_option linter.unusedSimpArgs false

/-! ### spec_CountFixed: function 37 -/
end Go.Proofs.Ytoohcdfokejkdaa.P
namespace Go.Proofs.Ytoohcdfokejkdaa.P
open Go.RowKit Go.Proofs.YtoohcdfokejkdaaW.PrintWords
set_option linter.unusedVariables false
set_option linter.unusedSimpArgs false

section
variable {w h : Int} {c b : Nat} (hg : gridOk w h = true) (hc : c < 2 ^ gapsN w h) (hb : b < 2 ^ gapsN w h) (hd : ∀ i, c.testBit i = true → b.testBit i = false)
include hg hc hb hd
end
/-- The number of perfect mazes with these gaps open and those shut; 0 for what is no question. -/
def cfI (w h a b : Int) : Int := if gridOk w h = true ∧ (0 ≤ a ∧ a < 2 ^ gapsN w h) ∧ (0 ≤ b ∧ b < 2 ^ gapsN w h) ∧ a.toNat &&& b.toNat = 0 then (totN w h a.toNat b.toNat : Nat) else 0
theorem cfI_nat {w h : Int} {a b : Nat} (hg : gridOk w h = true) (ha : a < 2 ^ gapsN w h) (hb : b < 2 ^ gapsN w h) (hd : ∀ i, a.testBit i = true → b.testBit i = false) : cfI w h a b = (totN w h a b : Nat) := by
  have e : a &&& b = 0 := by
    apply Nat.eq_of_testBit_eq
    intro i
    rw [Nat.testBit_and, Nat.zero_testBit]
    cases q : a.testBit i
    · rfl
    · rw [hd i q]; rfl
  unfold cfI
  have ha' : (a : Int) < 2 ^ gapsN w h := by exact_mod_cast ha
  have hb' : (b : Int) < 2 ^ gapsN w h := by exact_mod_cast hb
  rw [if_pos ⟨hg, ⟨by omega, ha'⟩, ⟨by omega, hb'⟩, by rw [Int.toNat_natCast, Int.toNat_natCast]; exact e⟩, Int.toNat_natCast, Int.toNat_natCast]
theorem and_zero {a b : Nat} (h : a &&& b = 0) (i : Nat) (hi : a.testBit i = true) : b.testBit i = false := by
  have := Nat.testBit_and a b i
  rw [h, Nat.zero_testBit, hi] at this
  simpa using this.symm
theorem cfI_range (w h a b : Int) : 0 ≤ cfI w h a b ∧ cfI w h a b ≤ 16777216 := by
  unfold cfI
  split
  · have := totN_le w h a.toNat b.toNat; omega
  · omega
theorem impl_CountFixed_ev (w h a b : Int) : Ev (fun k => impl_CountFixed.f k w h a b) (cfI w h a b) := by
  have hgr := gapsOf_range w h
  have h24 := gapsN_le w h
  have hcast := gapsN_cast w h
  have hS : wrap64 (shl .i64 1 (gapsOf w h) - 1) = 2 ^ gapsN w h - 1 := by
    have hp : (2 : Int) ^ gapsN w h = ((2 ^ gapsN w h : Nat) : Int) := by norm_cast
    have h2 : 2 ^ gapsN w h ≤ 2 ^ 24 := Nat.pow_le_pow_right (by decide) h24
    have h3 := Nat.two_pow_pos (gapsN w h)
    rw [shl_one hgr.1 hgr.2]
    have : (gapsOf w h).toNat = gapsN w h := rfl
    rw [this, hp, wrap64_id (by omega) (by omega)]
  have hp : (2 : Int) ^ gapsN w h = ((2 ^ gapsN w h : Nat) : Int) := by norm_cast
  have bad : ¬ (gridOk w h = true ∧ (0 ≤ a ∧ a < 2 ^ gapsN w h) ∧ (0 ≤ b ∧ b < 2 ^ gapsN w h) ∧ a.toNat &&& b.toNat = 0) → Ev (fun k => impl_CountFixed.j0 k a b true w h) (cfI w h a b) := by
    intro hc
    unfold cfI
    rw [if_neg hc]
    exact Ev.step (fun _ => impl_CountFixed.j0.eq_2 ..) (Ev.tt rfl (Ev.ret rfl))
  unfold impl_CountFixed.f
  refine Ev.bnd0 (impl_CountGaps_eq w h) (Ev.tt hgr.1 (Ev.bnd0 (impl_GridOk_eq w h) ?_))
  rw [hS]
  refine Ev.ite (fun hg => ?_) (fun hg => bad fun hc => hg hc.1)
  refine Ev.ite (fun q => bad fun hc => by omega) (fun q1 => Ev.ite (fun q => bad fun hc => by omega) (fun q2 => Ev.ite (fun q => bad fun hc => by omega) (fun q3 => Ev.ite (fun q => bad fun hc => by omega) (fun q4 => ?_))))
  obtain ⟨c, rfl⟩ := Int.eq_ofNat_of_zero_le (show 0 ≤ a by omega)
  obtain ⟨d, rfl⟩ := Int.eq_ofNat_of_zero_le (show 0 ≤ b by omega)
  have hc : c < 2 ^ gapsN w h := by omega
  have hd : d < 2 ^ gapsN w h := by omega
  have hcs := open_small hc
  have hds := open_small hd
  rw [bits_and (by omega) (by omega)]
  by_cases e : c &&& d = 0
  · rw [e, cfI_nat hg hc hd (and_zero e)]
    exact cf_j0 hg hc hd (and_zero e)
  · have : (((c &&& d : Nat) : Int) != 0) = true := by
      rw [bne_iff_ne]
      omega
    rw [this]
    exact bad fun hx => e (by have := hx.2.2.2; rwa [Int.toNat_natCast, Int.toNat_natCast] at this)
end Go.Proofs.Ytoohcdfokejkdaa.P
namespace Go.Proofs.Ytoohcdfokejkdaa.P
open Go.RowKit Go.Proofs.YtoohcdfokejkdaaW.PrintWords Go.Proofs.YtoohcdfokejkdaaW.PrintLast Go.Proofs.YtoohcdfokejkdaaW.PrintMore
attribute [local go_sem] max2_int min2_int max_two min_two max_three min_three max_four min_four   -- for this text's walks alone
set_option linter.unusedVariables false
set_option linter.unusedSimpArgs false

/-! ### spec_NumberOf: function 53 -/
/-! ### spec_CountAll: function 39 -/
/-! ### spec_MazeAt: function 47 -/
/-! ### spec_NextMaze: function 54 -/
end Go.Proofs.Ytoohcdfokejkdaa.P
namespace Go.Proofs.Ytoohcdfokejkdaa.P
open Go.RowKit Go.Proofs.YtoohcdfokejkdaaW.PrintWords
set_option linter.unusedVariables false
set_option linter.unusedSimpArgs false

theorem impl_CountAll_ev (w h : Int) : Ev (fun k => impl_CountAll.f k w h) (cfI w h 0 0) := Ev.bind (impl_CountFixed_ev ..) (Ev.ret rfl)
/-- The number, from gap i on. -/
def numI (w h : Int) (o : Nat) : Nat → Nat → Int → Nat → Nat → Int
  | 0, _, s, _, _ => s
  | d + 1, i, s, c, b => if o.testBit i = true then numI w h o d (i + 1) (s + cfI w h c (b ||| 2 ^ i : Nat)) (c ||| 2 ^ i) b else numI w h o d (i + 1) s c (b ||| 2 ^ i)
theorem numI_range (w h : Int) (o : Nat) : ∀ (d i : Nat) (s : Int) (c b : Nat), 0 ≤ s → s ≤ 16777216 * (i : Int) → 0 ≤ numI w h o d i s c b ∧ numI w h o d i s c b ≤ 16777216 * ((i + d : Nat) : Int)
  | 0, i, s, c, b, h0, h1 => ⟨h0, h1⟩
  | d + 1, i, s, c, b, h0, h1 => by
    have hr := cfI_range w h c (b ||| 2 ^ i : Nat)
    unfold numI
    split
    · have := numI_range w h o d (i + 1) (s + cfI w h c (b ||| 2 ^ i : Nat)) (c ||| 2 ^ i) b (by omega) (by omega)
      omega
    · have := numI_range w h o d (i + 1) s c (b ||| 2 ^ i) (by omega) (by omega)
      omega
theorem pow24 {i : Nat} (h : i < 24) : shl .i64 1 (i : Int) = ((2 ^ i : Nat) : Int) := by
  rw [shl_one (by omega) (by omega), Int.toNat_natCast]
  norm_cast
theorem or_small {c i : Nat} (hc : c < 16777216) (hi : i < 24) : c ||| 2 ^ i < 16777216 := by
  have h1 : 2 ^ i < 2 ^ 24 := Nat.pow_lt_pow_right (by decide) hi
  have := Nat.or_lt_two_pow (n := 24) (show c < 2 ^ 24 by omega) h1
  omega
theorem or_bits {c i : Nat} (hc : c < 16777216) (hi : i < 24) : Go.bits .or .i64 (c : Int) (shl .i64 1 (i : Int)) = ((c ||| 2 ^ i : Nat) : Int) := by
  have h1 : 2 ^ i < 2 ^ 24 := Nat.pow_lt_pow_right (by decide) hi
  rw [pow24 hi, bits_or (by omega) (by omega)]
theorem impl_num_l0 {w h : Int} {o : Nat} (ho : o < 2 ^ gapsN w h) : ∀ (d i : Nat) (s : Int) (c b : Nat), i + d = gapsN w h → 0 ≤ s → s ≤ 16777216 * (i : Int) → c < 16777216 → b < 16777216 →
    Ev (fun k => impl_NumberOf.l0 k s c b i w h o) (numI w h o d i s c b)
  | 0, i, s, c, b, hd, h0, h1, hc, hb => by
    have hcc := gapsN_cast w h
    exact Ev.step (fun _ => impl_NumberOf.l0.eq_2 ..) (Ev.bnd0 (impl_CountGaps_eq w h) (Ev.ff (by omega) (Ev.ret rfl)))
  | d + 1, i, s, c, b, hd, h0, h1, hc, hb => by
    have hcc := gapsN_cast w h
    have h24 := gapsN_le w h
    have hr := cfI_range w h c (b ||| 2 ^ i : Nat)
    have hcb := or_small hc (show i < 24 by omega)
    have hbb := or_small hb (show i < 24 by omega)
    refine Ev.step (fun _ => impl_NumberOf.l0.eq_2 ..) (Ev.bnd0 (impl_CountGaps_eq w h) (Ev.tt (by omega) (Ev.bnd0 (impl_isOpen_eq w h (open_small ho) i) ?_)))
    rw [openI_nat', or_bits hc (by omega), or_bits hb (by omega), wsucc (by omega)]
    unfold numI
    refine Ev.ite (fun e => Ev.tt (by omega) (Ev.bind (impl_CountFixed_ev ..) ?_)) (fun e => Ev.tt (by omega) ?_)
    · rw [if_pos e, wrap64_id (by omega) (by omega)]
      exact impl_num_l0 ho d (i + 1) _ _ _ (by omega) (by omega) (by omega) hcb hb
    · rw [if_neg e]
      exact impl_num_l0 ho d (i + 1) _ _ _ (by omega) (by omega) (by omega) hc hbb
def numOf (w h o : Int) : Int := if perfI w h o = true then numI w h o.toNat (gapsN w h) 0 0 0 0 else -1
theorem numOf_range (w h o : Int) : -1 ≤ numOf w h o ∧ numOf w h o ≤ 402653184 ∧ (numOf w h o < 0 ↔ perfI w h o = false) := by
  unfold numOf
  have h24 := gapsN_le w h
  by_cases e : perfI w h o = true
  · have := numI_range w h o.toNat (gapsN w h) 0 0 0 0 (by omega) (by omega)
    rw [if_pos e, e]
    exact ⟨by omega, by omega, fun q => by omega, fun q => by simp at q⟩
  · rw [if_neg e]
    exact ⟨by omega, by omega, fun _ => Bool.eq_false_iff.2 e, fun _ => by omega⟩
theorem impl_NumberOf_ev (w h o : Int) : Ev (fun k => impl_NumberOf.f k w h o) (numOf w h o) := by
  unfold impl_NumberOf.f numOf
  refine Ev.bind (impl_IsPerfect_all w h o) (Ev.ite (fun e => ?_) (fun e => ?_))
  · obtain ⟨hg, n, rfl, hn, hp⟩ := perfI_iff.1 e
    rw [if_pos e, Int.toNat_natCast]
    exact impl_num_l0 hn (gapsN w h) 0 0 0 0 (by omega) (by omega) (by omega) (by omega) (by omega)
  · rw [if_neg e]; exact Ev.ret rfl
/-- The maze of a number, from gap i on. -/
def atI (w h : Int) : Nat → Nat → Int → Nat → Nat → Nat
  | 0, _, _, c, _ => c
  | d + 1, i, n, c, b => if cfI w h c (b ||| 2 ^ i : Nat) ≤ n then atI w h d (i + 1) (n - cfI w h c (b ||| 2 ^ i : Nat)) (c ||| 2 ^ i) b else atI w h d (i + 1) n c (b ||| 2 ^ i)
theorem impl_at_l0 {w h : Int} : ∀ (d i : Nat) (n : Int) (c b : Nat), i + d = gapsN w h → 0 ≤ n → n ≤ 16777216 → c < 16777216 → b < 16777216 →
    Ev (fun k => impl_MazeAt.l0 k n c b i w h) (w, h, (atI w h d i n c b : Nat), true)
  | 0, i, n, c, b, hd, h0, h1, hc, hb => by
    have hcc := gapsN_cast w h
    exact Ev.step (fun _ => impl_MazeAt.l0.eq_2 ..) (Ev.bnd0 (impl_CountGaps_eq w h) (Ev.ff (by omega) (Ev.ret rfl)))
  | d + 1, i, n, c, b, hd, h0, h1, hc, hb => by
    have hcc := gapsN_cast w h
    have h24 := gapsN_le w h
    have hr := cfI_range w h c (b ||| 2 ^ i : Nat)
    have hcb := or_small hc (show i < 24 by omega)
    have hbb := or_small hb (show i < 24 by omega)
    refine Ev.step (fun _ => impl_MazeAt.l0.eq_2 ..) (Ev.bnd0 (impl_CountGaps_eq w h) (Ev.tt (by omega) (Ev.tt (by omega) ?_)))
    rw [or_bits hc (by omega), or_bits hb (by omega), wsucc (by omega)]
    refine Ev.bind (impl_CountFixed_ev ..) ?_
    unfold atI
    refine Ev.ite (fun e => ?_) (fun e => ?_)
    · rw [if_pos (by omega), wrap64_id (by omega) (by omega)]
      exact impl_at_l0 d (i + 1) _ _ _ (by omega) (by omega) (by omega) hcb hb
    · rw [if_neg (by omega)]
      exact impl_at_l0 d (i + 1) _ _ _ (by omega) (by omega) (by omega) hc hbb
def atOf (w h n : Int) : Int × Int × Int × Bool := if 0 ≤ n ∧ n < cfI w h 0 0 then (w, h, (atI w h (gapsN w h) 0 n 0 0 : Nat), true) else (0, 0, 0, false)
theorem impl_MazeAt_ev (w h n : Int) : Ev (fun k => impl_MazeAt.f k w h n) (atOf w h n) := by
  have hr := cfI_range w h 0 0
  unfold impl_MazeAt.f atOf
  refine Ev.ite (fun e => ?_) (fun e => Ev.bind (impl_CountAll_ev w h) ?_)
  · rw [if_neg (by omega)]
    exact Ev.step (fun _ => impl_MazeAt.j0.eq_2 ..) (Ev.tt rfl (Ev.ret rfl))
  · by_cases e2 : n ≥ cfI w h 0 0
    · rw [if_neg (by omega), decide_eq_true e2]
      exact Ev.step (fun _ => impl_MazeAt.j0.eq_2 ..) (Ev.tt rfl (Ev.ret rfl))
    · rw [if_pos (by omega), decide_eq_false e2]
      exact Ev.step (fun _ => impl_MazeAt.j0.eq_2 ..) (Ev.ff (by simp) (impl_at_l0 (gapsN w h) 0 n 0 0 (by omega) (by omega) (by omega) (by omega) (by omega)))
def nextOf (w h o : Int) : Int × Int × Int × Bool := if perfI w h o = true ∧ (atOf w h (numOf w h o + 1)).2.2.2 = true then ((atOf w h (numOf w h o + 1)).1, (atOf w h (numOf w h o + 1)).2.1, (atOf w h (numOf w h o + 1)).2.2.1, true) else (w, h, o, false)
theorem impl_NextMaze_ev (w h o : Int) : Ev (fun k => impl_NextMaze.f k w h o) (nextOf w h o) := by
  have hn := numOf_range w h o
  unfold impl_NextMaze.f nextOf
  refine Ev.bind (impl_IsPerfect_all w h o) (Ev.ite (fun e => Ev.bind (impl_NumberOf_ev w h o) ?_) (fun e => ?_))
  · rw [wrap64_id (by omega) (by omega)]
    refine Ev.bind (impl_MazeAt_ev w h _) (Ev.ite (fun e2 => ?_) (fun e2 => ?_))
    · rw [if_pos ⟨e, e2⟩]; exact Ev.ret rfl
    · rw [if_neg fun q => e2 q.2]; exact Ev.ret rfl
  · rw [if_neg fun q => e q.1]; exact Ev.ret rfl
end Go.Proofs.Ytoohcdfokejkdaa.P
namespace Go.Proofs.Ytoohcdfokejkdaa.P
open Go.RowKit Go.Proofs.YtoohcdfokejkdaaW.PrintWords Go.Proofs.YtoohcdfokejkdaaW.PrintLast Go.Proofs.YtoohcdfokejkdaaW.PrintMore
attribute [local go_sem] max2_int min2_int max_two min_two max_three min_three max_four min_four   -- for this text's walks alone
set_option linter.unusedVariables false
set_option linter.unusedSimpArgs false

/-! ### impl_IsPassage: function 76 -/
/-! ### spec_SquareOk: function 60 -/
/-! ### impl_SquareOk: function 19 -/
/-! ### impl_LaplaceOf: function 30 -/
/-! ### spec_LaplaceOf: function 28 -/
/-! ### impl_WithoutRow: function 21 -/
/-! ### spec_WithoutRow: function 23 -/
/-! ### impl_with: function 77 -/
/-! ### spec_SetGap: function 95 -/
/-! ### spec_CountTrees: function 41 -/
/-! ### impl_CountWith: function 33 -/
/-! ### spec_CountWith: function 52 -/
end Go.Proofs.Ytoohcdfokejkdaa.P
namespace Go.Proofs.Ytoohcdfokejkdaa.P
open Go.RowKit Go.Proofs.YtoohcdfokejkdaaW.PrintWords
set_option linter.unusedVariables false
set_option linter.unusedSimpArgs false

/-- The gaps that a maze keeps shut. -/
def cpl (w h : Int) (n : Nat) : Nat := andNot (2 ^ gapsN w h - 1) n
theorem cpl_bit {w h : Int} {n g : Nat} (hg : g < gapsN w h) : (cpl w h n).testBit g = !n.testBit g := by
  unfold cpl
  rw [testBit_andNot, Nat.testBit_two_pow_sub_one, decide_eq_true hg, Bool.true_and]
theorem cpl_lt (w h : Int) (n : Nat) : cpl w h n < 2 ^ gapsN w h := by
  have := andNot_le (2 ^ gapsN w h - 1) n
  have := Nat.two_pow_pos (gapsN w h)
  unfold cpl
  omega
/-- How many perfect mazes lie in a maze. -/
def ctN (w h : Int) (n : Nat) : Nat := totN w h 0 (cpl w h n)
def ctI (w h o : Int) : Int := if mazeOk w h o = true then (ctN w h o.toNat : Nat) else 0
theorem ctI_nat {w h : Int} {n : Nat} (hg : gridOk w h = true) (hn : n < 2 ^ gapsN w h) : ctI w h n = (ctN w h n : Nat) := by
  unfold ctI
  rw [if_pos (mazeOk_nat hg hn), Int.toNat_natCast]
theorem impl_CountTrees_ev (w h o : Int) : Ev (fun k => impl_CountTrees.f k w h o) (ctI w h o) := by
  have hgr := gapsOf_range w h
  have h24 := gapsN_le w h
  have hS : wrap64 (shl .i64 1 (gapsOf w h) - 1) = ((2 ^ gapsN w h - 1 : Nat) : Int) := by
    have hp : (2 : Int) ^ gapsN w h = ((2 ^ gapsN w h : Nat) : Int) := by norm_cast
    have h2 : 2 ^ gapsN w h ≤ 2 ^ 24 := Nat.pow_le_pow_right (by decide) h24
    have h3 := Nat.two_pow_pos (gapsN w h)
    rw [shl_one hgr.1 hgr.2]
    have : (gapsOf w h).toNat = gapsN w h := rfl
    rw [this, hp, wrap64_id (by omega) (by omega)]
    omega
  unfold impl_CountTrees.f
  refine Ev.bnd0 (impl_MazeOk_eq ..) (Ev.ite (fun e => Ev.bnd0 (impl_CountGaps_eq w h) (Ev.tt hgr.1 ?_)) (fun e => Ev.ret ?_))
  · obtain ⟨hg, n, rfl, hn⟩ := mazeOk_iff.1 e
    have hns := open_small hn
    have h2 : 2 ^ gapsN w h ≤ 2 ^ 24 := Nat.pow_le_pow_right (by decide) h24
    rw [hS, bits_andNot (by omega) (by omega)]
    have := impl_CountFixed_ev w h 0 (cpl w h n)
    rw [show (0 : Int) = ((0 : Nat) : Int) from rfl, cfI_nat hg (Nat.two_pow_pos _) (cpl_lt w h n) (fun i hi => by simp at hi)] at this
    rw [ctI_nat hg hn]
    exact Ev.bind this (Ev.ret rfl)
  · unfold ctI
    rw [if_neg e]
end Go.Proofs.Ytoohcdfokejkdaa.P
namespace Go.Proofs.Ytoohcdfokejkdaa.P
open Go.RowKit Go.Proofs.YtoohcdfokejkdaaW.PrintWords Go.Proofs.YtoohcdfokejkdaaW.PrintLast Go.Proofs.YtoohcdfokejkdaaW.PrintMore
attribute [local go_sem] max2_int min2_int max_two min_two max_three min_three max_four min_four   -- for this text's walks alone
set_option linter.unusedVariables false
set_option linter.unusedSimpArgs false

/-! ### spec_FullMaze: function 104 -/
end Go.Proofs.Ytoohcdfokejkdaa.P
namespace Go.Proofs.Ytoohcdfokejkdaa.P
open Go.RowKit Go.Proofs.YtoohcdfokejkdaaW.PrintWords
set_option linter.unusedVariables false
set_option linter.unusedSimpArgs false

def fullN (w h : Int) : Nat := 2 ^ gapsN w h - 1
theorem fullN_lt (w h : Int) : fullN w h < 2 ^ gapsN w h := by unfold fullN; have := Nat.two_pow_pos (gapsN w h); omega
theorem full_val {w h : Int} : wrap64 ((shl .i64 1 (gapsOf w h)) - 1) = ((fullN w h : Nat) : Int) := by
  have hc := gapsOf_range w h
  have hp := pow_le hc.1 hc.2
  rw [shl_one hc.1 hc.2, wrap64_id (by omega) (by omega)]
  unfold fullN gapsN
  have h1 := Nat.two_pow_pos (gapsOf w h).toNat
  have h2 := Int.natCast_pow 2 (gapsOf w h).toNat
  simp only [Int.cast_ofNat_Int] at h2
  omega
theorem impl_FullMaze_eq {w h : Int} (hg : gridOk w h = true) : impl_FullMaze.f w h = some (w, h, ((fullN w h : Nat) : Int)) := by
  unfold impl_FullMaze.f
  rw [impl_GridOk_eq, Option.bind_some, if_pos hg, impl_CountGaps_eq, Option.bind_some, if_pos (gapsOf_range w h).1, full_val]
end Go.Proofs.Ytoohcdfokejkdaa.P
namespace Go.Proofs.Ytoohcdfokejkdaa.P
open Go Go.RowKit Go.Proofs.YtoohcdfokejkdaaW.PrintWords
set_option linter.unusedVariables false
set_option linter.unusedSimpArgs false

theorem bits_255 (x : Int) : 0 ≤ Go.bits .and .i64 x 255 ∧ Go.bits .and .i64 x 255 ≤ 255 := by
  have h : (BitVec.ofInt 64 x &&& BitVec.ofInt 64 255).toNat ≤ 255 := by
    rw [BitVec.toNat_and]
    exact Nat.and_le_right
  show 0 ≤ IntKind.i64.wrap ((BitVec.ofInt 64 x &&& BitVec.ofInt 64 255).toNat : Int) ∧ IntKind.i64.wrap ((BitVec.ofInt 64 x &&& BitVec.ofInt 64 255).toNat : Int) ≤ 255
  rw [wrap_small (by omega)]
  omega
section
variable {l : List Int}
theorem spec_New_l0 (hl : l.length ≤ 1048576) : ∀ (e i : Nat) (h : Int), l.length - i = e → ∃ h', Ev (fun k => spec_l01New.l0 k l h i) (l, 0, h')
  | 0, i, h, he => ⟨h, Ev.step (fun _ => spec_l01New.l0.eq_2 ..) (Ev.ff (by omega) (Ev.ret rfl))⟩
  | e + 1, i, h, he => by
    by_cases h4 : (i : Int) < 4000
    · obtain ⟨h', ih⟩ := spec_New_l0 hl e (i + 1) (Go.bits .and .i64 (wrap64 ((wrap64 ((wrap64 (h * 131)) + (wrap64 (rd l i)))) + 7)) 1073741823) (by omega)
      refine ⟨h', Ev.step (fun _ => spec_l01New.l0.eq_2 ..) (Ev.tt (by omega) (Ev.tt h4 (Ev.tt (by omega) ?_)))⟩
      rw [wsucc (by omega)]
      exact ih
    · exact ⟨h, Ev.step (fun _ => spec_l01New.l0.eq_2 ..) (Ev.tt (by omega) (Ev.ff h4 (Ev.ret rfl)))⟩
theorem spec_New_ev (hl : l.length ≤ 1048576) : ∃ h', Ev (fun k => spec_l01New.f k l) (l, 0, h') := spec_New_l0 hl l.length 0 _ rfl
theorem spec_Byte_eq (hl : l.length ≤ 1048576) {i : Int} (hi : 0 ≤ i) (h : Int) : ∃ b i' h', spec_l01Byte.f l i h = some (b, i', h') ∧ 0 ≤ b ∧ b ≤ 255 ∧ 0 ≤ i' := by
  unfold spec_l01Byte.f
  by_cases e : i < (l.length : Int)
  · rw [if_pos e, if_pos hi]
    exact ⟨_, _, _, rfl, (bits_255 _).1, (bits_255 _).2, by rw [wrap64_id (by omega) (by omega)]; omega⟩
  · rw [if_neg e]
    exact ⟨_, _, _, rfl, (bits_255 _).1, (bits_255 _).2, hi⟩
theorem spec_Below_eq (hl : l.length ≤ 1048576) {i : Int} (hi : 0 ≤ i) (h : Int) {n : Int} (h1 : 1 ≤ n) (h2 : n ≤ 256) : ∃ b i' h', spec_l01Below.f l i h n = some (b, i', h') ∧ 0 ≤ b ∧ b < n ∧ 0 ≤ i' := by
  obtain ⟨b, i', h', e, b0, b1, hi'⟩ := spec_Byte_eq hl hi h
  unfold spec_l01Below.f
  rw [if_neg (by omega), if_pos h2, e, Option.bind_some, if_neg (by omega)]
  exact ⟨_, _, _, rfl, Int.tmod_nonneg _ b0, Int.tmod_lt_of_pos _ (by omega), hi'⟩
theorem spec_Pick_eq (hl : l.length ≤ 1048576) {i : Int} (hi : 0 ≤ i) (h : Int) : ∃ (j : Nat) (i' h' : Int), spec_l01PickInt.f l i h [1, 2, 3, 3, 4] = some (rd [1, 2, 3, 3, 4] (j : Int), i', h') ∧ j < 5 ∧ 0 ≤ i' := by
  obtain ⟨b, i', h', e, b0, b1, hi'⟩ := spec_Below_eq hl hi h (n := 5) (by omega) (by omega)
  unfold spec_l01PickInt.f
  show ∃ (j : Nat) (i'' h'' : Int), (spec_l01Below.f l i h 5).bind _ = _ ∧ _
  rw [e, Option.bind_some, if_pos b0]
  refine ⟨b.toNat, i', h', ?_, by omega, hi'⟩
  rw [if_pos (show b < (([1, 2, 3, 3, 4] : List Int).length : Int) from b1), Int.toNat_of_nonneg b0]
theorem pick_ok {j : Nat} (hj : j < 5) : 1 ≤ rd [1, 2, 3, 3, 4] (j : Int) ∧ rd [1, 2, 3, 3, 4] (j : Int) ≤ 4 := by
  have : j = 0 ∨ j = 1 ∨ j = 2 ∨ j = 3 ∨ j = 4 := by omega
  rcases this with rfl | rfl | rfl | rfl | rfl <;> decide
theorem spec_Grid_eq (hl : l.length ≤ 1048576) {i : Int} (hi : 0 ≤ i) (h : Int) : ∃ w hh i' h', spec_l02Grid.f l i h = some (w, hh, i', h') ∧ gridOk w hh = true ∧ 0 ≤ i' := by
  obtain ⟨j, i1, h1, e1, hj, hi1⟩ := spec_Pick_eq hl hi h
  obtain ⟨j2, i2, h2, e2, hj2, hi2⟩ := spec_Pick_eq hl hi1 h1
  unfold spec_l02Grid.f
  rw [e1, Option.bind_some, e2, Option.bind_some]
  refine ⟨_, _, _, _, rfl, gridOk_iff.2 ?_, hi2⟩
  have := pick_ok hj
  have := pick_ok hj2
  omega
end
/-! The step that the draw takes -/
theorem spec_Common_ev : ∀ (b a : Nat), Ev (fun k => spec_l03Common.f k a b) (decide (Nat.gcd a b > 1)) := by
  intro b
  induction b using Nat.strongRecOn with
  | _ b ih =>
    intro a
    by_cases h0 : b = 0
    · subst h0
      refine Ev.step (g := fun k => spec_l03Common.f k a (0 : Nat)) (fun _ => spec_l03Common.l0.eq_2 ..) (Ev.ff (by omega) (Ev.ret ?_))
      rw [Nat.gcd_zero_right, decide_eq_decide]
      omega
    · refine Ev.step (g := fun k => spec_l03Common.f k a b) (fun _ => spec_l03Common.l0.eq_2 ..) (Ev.tt (by omega) (Ev.ff (by omega) ?_))
      rw [Int.tmod_eq_emod_of_nonneg (by omega), ← Int.natCast_emod]
      refine Ev.eq (ih (a % b) (Nat.mod_lt _ (by omega)) b) ?_
      rw [decide_eq_decide, Nat.gcd_comm b (a % b), ← Nat.gcd_rec, Nat.gcd_comm b a]
def coverB (n s : Nat) : Bool := (List.range n).all fun g => (List.range n).any fun k => decide ((k * s) % n = g)
theorem cover_all : (List.range 25).all (fun n => (List.range n).all fun s => decide (¬ Nat.gcd s n = 1) || coverB n s) = true := by decide +kernel
theorem cover {n step first : Nat} (hn : n < 25) (h0 : 0 < n) (hg : Nat.gcd step n ≤ 1) {g : Nat} (hgn : g < n) : ∃ k, k < n ∧ (first + k * step) % n = g := by
  have hs : step % n < n := Nat.mod_lt _ h0
  have h1 : Nat.gcd (step % n) n = 1 := by
    have e : Nat.gcd (step % n) n = Nat.gcd step n := by rw [Nat.gcd_comm step n, ← Nat.gcd_rec]
    rw [e]
    have : 0 < Nat.gcd step n := Nat.gcd_pos_of_pos_right _ h0
    omega
  have := List.all_eq_true.1 (List.all_eq_true.1 cover_all n (List.mem_range.2 hn)) (step % n) (List.mem_range.2 hs)
  simp only [Bool.or_eq_true, decide_eq_true_eq] at this
  have hc : coverB n (step % n) = true := this.resolve_left (fun h => h h1)
  unfold coverB at hc
  have hx : (g + (n - first % n)) % n < n := Nat.mod_lt _ h0
  have := List.all_eq_true.1 hc ((g + (n - first % n)) % n) (List.mem_range.2 hx)
  obtain ⟨k, hk, hkk⟩ := List.any_eq_true.1 this
  refine ⟨k, List.mem_range.1 hk, ?_⟩
  have hk2 := of_decide_eq_true hkk
  rw [Nat.mul_mod_mod] at hk2
  have hf : first % n < n := Nat.mod_lt _ h0
  rw [Nat.add_mod, hk2, Nat.add_mod_mod, ← Nat.mod_add_mod (first % n), Nat.mod_mod]
  rw [show first % n + (g + (n - first % n)) = g + n by omega, Nat.add_mod_right, Nat.mod_eq_of_lt hgn]
/-! Labels as a table -/
def tabL (P : Nat → Int) (V : Nat) : List Int := (List.range V).map P
theorem tabL_length (P : Nat → Int) (V : Nat) : (tabL P V).length = V := by simp [tabL]
theorem tabL_rd {P : Nat → Int} {V c : Nat} (h : c < V) : rd (tabL P V) (c : Int) = P c := by
  rw [rd_get (by rw [tabL_length]; exact h)]
  simp [tabL]
theorem tabL_congr {P Q : Nat → Int} {V : Nat} (h : ∀ x, x < V → P x = Q x) : tabL P V = tabL Q V := List.map_congr_left fun x hx => h x (List.mem_range.1 hx)
theorem tabL_set (P : Nat → Int) (V i : Nat) (v : Int) : (tabL P V).set i v = tabL (fun x => if x = i then v else P x) V := by
  refine List.ext_getElem (by simp [tabL]) fun j h1 h2 => ?_
  rw [List.getElem_set]
  simp only [tabL, List.getElem_map, List.getElem_range]
  by_cases e : i = j
  · subst e; simp
  · rw [if_neg e, if_neg (fun h => e h.symm)]
theorem KInv.weak {e : Nat → Nat × Nat} {V E : Nat} {d d' : Nat → Prop} {P : Nat → Int} {o : Nat} (K : KInv e V E d P o) (h : ∀ g, d' g → d g) : KInv e V E d' P o := ⟨K.lt, K.lab, K.fo, fun g hg hd => K.dn g hg (h g hd)⟩
end Go.Proofs.Ytoohcdfokejkdaa.P
namespace Go.Proofs.Ytoohcdfokejkdaa.P
open Go Go.RowKit Go.Proofs.YtoohcdfokejkdaaW.PrintWords
set_option linter.unusedVariables false
set_option linter.unusedSimpArgs false

section
variable {w h : Int} {xs : List Int} {i1 h1 : Int}
/-- The k-th gap that is looked at. -/
def gapN (n first step k : Nat) : Nat := (first + k * step) % n
theorem tree_l3 {n first step kk : Nat} {P : Nat → Int} {a : Nat} {old : Int} {o : Int} {r : Int × Int × Int × Int × Int} (ha : a < cellsN w h) (hne : ¬ P a = old)
    (hk : Ev (fun k => spec_l03Tree.l2 k n (tabL (fun x => if P x = old then P a else P x) (cellsN w h)) first step (wrap64 ((kk : Int) + 1)) xs i1 h1 w h w h o) r) : ∀ e i : Nat, i + e = cellsN w h →
    Ev (fun k => spec_l03Tree.l3 k n (tabL (fun x => if x < i ∧ P x = old then P a else P x) (cellsN w h)) first step kk a old i xs i1 h1 w h w h o) r
  | 0, i, he => by
    refine Ev.step (fun _ => spec_l03Tree.l3.eq_2 ..) (Ev.ff (by rw [tabL_length]; omega) ?_)
    rw [tabL_congr (Q := fun x => if P x = old then P a else P x) (fun x hx => by
      by_cases e : P x = old
      · rw [if_pos ⟨by omega, e⟩, if_pos e]
      · rw [if_neg (fun h => e h.2), if_neg e])]
    exact hk
  | e + 1, i, he => by
    have hl := cellsN_le w h
    have ih := tree_l3 (n := n) (first := first) (step := step) (kk := kk) (P := P) (old := old) (o := o) ha hne hk e (i + 1) (by omega)
    refine Ev.step (fun _ => spec_l03Tree.l3.eq_2 ..) (Ev.tt (by rw [tabL_length]; omega) (Ev.tt (by omega) ?_))
    rw [tabL_rd (show i < cellsN w h by omega), wsucc (show i < 4611686018427387904 by omega)]
    simp only [Nat.lt_irrefl, false_and, if_false]
    refine Ev.ite (fun e1 => ?_) (fun e1 => ?_)
    · refine Ev.tt (by omega) (Ev.tt (by rw [tabL_length]; omega) ?_)
      rw [tabL_rd ha, if_neg (fun h => hne h.2), Int.toNat_natCast, tabL_set]
      rw [tabL_congr (Q := fun x => if x < i + 1 ∧ P x = old then P a else P x) (fun x hx => by
        by_cases e2 : x = i
        · subst e2; rw [if_pos rfl, if_pos ⟨by omega, e1⟩]
        · rw [if_neg e2]
          by_cases e3 : x < i ∧ P x = old
          · rw [if_pos e3, if_pos ⟨by omega, e3.2⟩]
          · rw [if_neg e3, if_neg (fun h => e3 ⟨by omega, h.2⟩)])]
      exact ih
    · rw [tabL_congr (Q := fun x => if x < i + 1 ∧ P x = old then P a else P x) (fun x hx => by
        by_cases e3 : x < i ∧ P x = old
        · rw [if_pos e3, if_pos ⟨by omega, e3.2⟩]
        · rw [if_neg e3]
          by_cases e4 : x < i + 1 ∧ P x = old
          · have : x = i := by
              by_cases e5 : x < i
              · exact absurd ⟨e5, e4.2⟩ e3
              · omega
            subst this
            exact absurd e4.2 e1
          · rw [if_neg e4])]
      exact ih
theorem tree_l2 (hg : gridOk w h = true) {first step : Nat} (hf : first < 25) (hs : step < 100) : ∀ (e kk : Nat) (P : Nat → Int) (o : Nat), kk + e = gapsN w h →
    KInv (ends w h) (cellsN w h) (gapsN w h) (fun g => ∃ j, j < kk ∧ gapN (gapsN w h) first step j = g) P o →
    ∃ (P' : Nat → Int) (o' : Nat), KInv (ends w h) (cellsN w h) (gapsN w h) (fun g => ∃ j, j < gapsN w h ∧ gapN (gapsN w h) first step j = g) P' o' ∧
      Ev (fun k => spec_l03Tree.l2 k (gapsN w h : Nat) (tabL P (cellsN w h)) first step kk xs i1 h1 w h w h o) (w, h, (o' : Int), i1, h1)
  | 0, kk, P, o, he, K => by
    refine ⟨P, o, K.weak (fun g ⟨j, hj, e⟩ => ⟨j, by omega, e⟩), Ev.step (fun _ => spec_l03Tree.l2.eq_2 ..) (Ev.ff (by omega) (Ev.ret rfl))⟩
  | e + 1, kk, P, o, he, K => by
    have hgl := gapsN_le w h
    have hgc := gapsN_cast w h
    have hcl := cellsN_le w h
    have hgN : gapN (gapsN w h) first step kk < gapsN w h := Nat.mod_lt _ (by omega)
    have hkm : kk * step ≤ 24 * 100 := Nat.mul_le_mul (by omega) (by omega)
    have hgap : Int.tmod (wrap64 ((first : Int) + (wrap64 ((kk : Int) * (step : Int))))) (gapsN w h : Nat) = ((gapN (gapsN w h) first step kk : Nat) : Int) := by
      rw [show ((kk : Int) * (step : Int)) = ((kk * step : Nat) : Int) by rw [Int.natCast_mul], wrap64_id (x := ((kk * step : Nat) : Int)) (by omega) (by omega), wrap64_id (by omega) (by omega), Int.tmod_eq_emod_of_nonneg (by omega)]
      unfold gapN
      rw [Int.natCast_emod, Int.natCast_add]
    obtain ⟨f1, f2, f3⟩ := ends_facts hgN
    have hstep : ∀ {P' : Nat → Int} {o' : Nat}, KInv (ends w h) (cellsN w h) (gapsN w h) (fun j => (∃ j', j' < kk ∧ gapN (gapsN w h) first step j' = j) ∨ j = gapN (gapsN w h) first step kk) P' o' →
        KInv (ends w h) (cellsN w h) (gapsN w h) (fun g => ∃ j, j < kk + 1 ∧ gapN (gapsN w h) first step j = g) P' o' := fun K' => K'.weak (fun g ⟨j, hj, e2⟩ => by
          by_cases e3 : j < kk
          · exact Or.inl ⟨j, e3, e2⟩
          · have : j = kk := by omega
            subst this
            exact Or.inr e2.symm)
    by_cases he1 : P (ends w h (gapN (gapsN w h) first step kk)).1 = P (ends w h (gapN (gapsN w h) first step kk)).2
    · obtain ⟨P', o', K', ih⟩ := tree_l2 hg hf hs e (kk + 1) P o (by omega) (hstep (K.skip (gr_grid w h) hgN he1))
      refine ⟨P', o', K', Ev.step (fun _ => spec_l03Tree.l2.eq_2 ..) (Ev.tt (by omega) (Ev.ff (by omega) ?_))⟩
      rw [hgap, wsucc (show kk < 4611686018427387904 by omega)]
      refine Ev.bnd0 ((spec_EndsOf_eq w h _).trans (congrArg some f1)) ?_
      refine Ev.tt (by omega) (Ev.tt (by rw [tabL_length]; omega) (Ev.tt (by omega) (Ev.tt (by rw [tabL_length]; omega) ?_)))
      rw [tabL_rd (by omega), tabL_rd f3]
      exact Ev.tt he1 ih
    · obtain ⟨P', o', K', ih⟩ := tree_l2 hg hf hs e (kk + 1) _ (setB o (gapN (gapsN w h) first step kk) true) (by omega) (hstep (K.join (gr_grid w h) hgN he1))
      refine ⟨P', o', K', Ev.step (fun _ => spec_l03Tree.l2.eq_2 ..) (Ev.tt (by omega) (Ev.ff (by omega) ?_))⟩
      rw [hgap]
      refine Ev.bnd0 ((spec_EndsOf_eq w h _).trans (congrArg some f1)) ?_
      refine Ev.tt (by omega) (Ev.tt (by rw [tabL_length]; omega) (Ev.tt (by omega) (Ev.tt (by rw [tabL_length]; omega) ?_)))
      rw [tabL_rd (show (ends w h (gapN (gapsN w h) first step kk)).1 < cellsN w h by omega), tabL_rd f3]
      refine Ev.ff he1 (Ev.tt (by omega) ?_)
      have ho := open_small K.lt
      have hpw : 2 ^ gapN (gapsN w h) first step kk ≤ 2 ^ 24 := Nat.pow_le_pow_right (by decide) (by omega)
      rw [shl_pow (by omega), bits_or (by omega) (by omega), show o ||| 2 ^ gapN (gapsN w h) first step kk = setB o (gapN (gapsN w h) first step kk) true from rfl]
      have := tree_l3 (w := w) (h := h) (xs := xs) (i1 := i1) (h1 := h1) (n := gapsN w h) (first := first) (step := step) (kk := kk) (P := P) (a := (ends w h (gapN (gapsN w h) first step kk)).1) (old := P (ends w h (gapN (gapsN w h) first step kk)).2)
        (o := ((setB o (gapN (gapsN w h) first step kk) true : Nat) : Int)) (r := (w, h, (o' : Int), i1, h1)) (by omega) he1 (by rw [wsucc (show kk < 4611686018427387904 by omega)]; exact ih) (cellsN w h) 0 (by omega)
      rw [tabL_congr (Q := P) (fun x hx => if_neg (fun h => absurd h.1 (by omega)))] at this
      exact this
theorem tree_l1 (hg : gridOk w h = true) (h0 : 0 < gapsN w h) {first : Nat} (hf : first < 25) {P : Nat → Int} {o : Nat} (K : KInv (ends w h) (cellsN w h) (gapsN w h) (fun _ => False) P o) : ∀ d step : Nat, step + d = 2 * gapsN w h + 1 →
    ∃ o' : Nat, o' < 2 ^ gapsN w h ∧ perfN w h o' = true ∧ Ev (fun k => spec_l03Tree.l1 k (gapsN w h : Nat) (tabL P (cellsN w h)) first step xs i1 h1 w h w h o) (w, h, (o' : Int), i1, h1) := by
  have hgl := gapsN_le w h
  have fin : ∀ step : Nat, step < 100 → Nat.gcd step (gapsN w h) ≤ 1 → ∃ o' : Nat, o' < 2 ^ gapsN w h ∧ perfN w h o' = true ∧ Ev (fun k => spec_l03Tree.l1 k (gapsN w h : Nat) (tabL P (cellsN w h)) first step xs i1 h1 w h w h o) (w, h, (o' : Int), i1, h1) := by
    intro step hs hgcd
    obtain ⟨P', o', K', hEv⟩ := tree_l2 (xs := xs) (i1 := i1) (h1 := h1) hg hf hs (gapsN w h) 0 P o (by omega) (K.weak (fun g ⟨j, hj, _⟩ => absurd hj (by omega)))
    refine ⟨o', K'.lt, ?_, Ev.step (fun _ => spec_l03Tree.l1.eq_2 ..) (Ev.bind (spec_Common_ev (gapsN w h) step) (Ev.ff (by rw [decide_eq_true_eq]; omega) hEv))⟩
    exact K'.perfect (cells_pos hg) (fun g hgg => cover (by omega) h0 hgcd hgg) (full := 2 ^ gapsN w h - 1) (by have := Nat.two_pow_pos (gapsN w h); omega) (full_conn hg (fun g hgg => by rw [Nat.testBit_two_pow_sub_one]; simp [hgg]))
  intro d
  induction d with
  | zero =>
    intro step hst
    refine fin step (by omega) ?_
    have : Nat.gcd step (gapsN w h) = 1 := by
      rw [show step = 1 + gapsN w h * 2 by omega, Nat.gcd_add_mul_left_left, Nat.gcd_one_left]
    omega
  | succ d ih =>
    intro step hst
    by_cases hc : Nat.gcd step (gapsN w h) > 1
    · obtain ⟨o', ho, hp, hEv⟩ := ih (step + 1) (by omega)
      refine ⟨o', ho, hp, Ev.step (fun _ => spec_l03Tree.l1.eq_2 ..) (Ev.bind (spec_Common_ev (gapsN w h) step) (Ev.tt (by rw [decide_eq_true_eq]; exact hc) ?_))⟩
      rw [wsucc (by omega)]
      exact hEv
    · exact fin step (by omega) (by omega)
theorem tree_l0 (hg : gridOk w h = true) (hl : xs.length ≤ 1048576) (hi : 0 ≤ i1) : ∀ e i : Nat, i + e = cellsN w h →
    ∃ (o' : Nat) (i2 h2 : Int), o' < 2 ^ gapsN w h ∧ perfN w h o' = true ∧ Ev (fun k => spec_l03Tree.l0 k (gapsN w h : Nat) (tabL (fun x => if x < i then (x : Int) else 0) (cellsN w h)) i xs i1 h1 w h w h (0 : Nat)) (w, h, (o' : Int), i2, h2)
  | 0, i, he => by
    have hgl := gapsN_le w h
    have hgc := gapsN_cast w h
    have hK : KInv (ends w h) (cellsN w h) (gapsN w h) (fun _ => False) (fun x => (x : Int)) 0 := KInv.start (fun x => rfl)
    have ht : tabL (fun x => if x < i then (x : Int) else 0) (cellsN w h) = tabL (fun x => (x : Int)) (cellsN w h) := tabL_congr (fun x hx => if_pos (by omega))
    rw [ht]
    by_cases h0 : gapsN w h = 0
    · refine ⟨0, i1, h1, Nat.two_pow_pos _, ?_, Ev.step (fun _ => spec_l03Tree.l0.eq_2 ..) (Ev.ff (by rw [tabL_length]; omega) (Ev.tt (by omega) (Ev.ret rfl)))⟩
      exact hK.perfect (cells_pos hg) (fun g hgg => absurd hgg (by omega)) (full := 0) (Nat.two_pow_pos _) (full_conn hg (fun g hgg => absurd hgg (by omega)))
    · obtain ⟨b, i2, h2, e1, b0, b1, hi2⟩ := spec_Below_eq hl hi h1 (n := (gapsN w h : Nat)) (by omega) (by omega)
      obtain ⟨c, i3, h3, e2, c0, c1, hi3⟩ := spec_Below_eq hl hi2 h2 (n := (gapsN w h : Nat)) (by omega) (by omega)
      obtain ⟨b', rfl⟩ := Int.eq_ofNat_of_zero_le b0
      obtain ⟨c', rfl⟩ := Int.eq_ofNat_of_zero_le c0
      obtain ⟨o', ho, hp, hEv⟩ := tree_l1 (xs := xs) (i1 := i3) (h1 := h3) hg (by omega) (first := b') (by omega) hK (2 * gapsN w h - c') (1 + c') (by omega)
      refine ⟨o', i3, h3, ho, hp, Ev.step (fun _ => spec_l03Tree.l0.eq_2 ..) (Ev.ff (by rw [tabL_length]; omega) (Ev.ff (by omega) (Ev.bnd0 e1 (Ev.bnd0 e2 ?_))))⟩
      rw [show wrap64 (1 + (c' : Int)) = ((1 + c' : Nat) : Int) by rw [wrap64_id (by omega) (by omega)]; omega]
      exact hEv
  | e + 1, i, he => by
    have hcl := cellsN_le w h
    obtain ⟨o', i2, h2, ho, hp, ih⟩ := tree_l0 hg hl hi e (i + 1) (by omega)
    refine ⟨o', i2, h2, ho, hp, Ev.step (fun _ => spec_l03Tree.l0.eq_2 ..) (Ev.tt (by rw [tabL_length]; omega) (Ev.tt (by omega) ?_))⟩
    rw [wsucc (show i < 4611686018427387904 by omega), Int.toNat_natCast, tabL_set]
    rw [tabL_congr (Q := fun x => if x < i + 1 then (x : Int) else 0) (fun x hx => by
      by_cases e2 : x = i
      · subst e2; rw [if_pos rfl, if_pos (by omega)]
      · rw [if_neg e2]
        by_cases e3 : x < i
        · rw [if_pos e3, if_pos (by omega)]
        · rw [if_neg e3, if_neg (by omega)])]
    exact ih
theorem spec_Tree_ev (hg : gridOk w h = true) (hl : xs.length ≤ 1048576) (hi : 0 ≤ i1) : ∃ (o' : Nat) (i2 h2 : Int), o' < 2 ^ gapsN w h ∧ perfN w h o' = true ∧ Ev (fun k => spec_l03Tree.f k xs i1 h1 w h) (w, h, (o' : Int), i2, h2) := by
  have hgc := gapsN_cast w h
  have hcc := cellsN_cast w h
  have hcl := cellsN_le w h
  obtain ⟨o', i2, h2, ho, hp, hEv⟩ := tree_l0 (h1 := h1) hg hl hi (cellsN w h) 0 (by omega)
  refine ⟨o', i2, h2, ho, hp, ?_⟩
  unfold spec_l03Tree.f
  refine Ev.bnd0 (spec_CountGaps_eq ..) (Ev.bnd0 (spec_CountCells_eq ..) (Ev.tt (by omega) (Ev.tt (by omega) ?_)))
  rw [← hgc, show (cellsOf w h).toNat = cellsN w h from rfl]
  rw [show List.replicate (cellsN w h) (0 : Int) = tabL (fun x => if x < 0 then (x : Int) else 0) (cellsN w h) by
    refine List.ext_getElem (by simp [tabL]) fun j hj1 hj2 => ?_
    simp [tabL]]
  exact hEv
end
theorem spec_DrawPerfect_ev {l : List Int} (hl : l.length ≤ 1048576) : ∃ (w h : Int) (n : Nat), gridOk w h = true ∧ n < 2 ^ gapsN w h ∧ perfN w h n = true ∧ Ev (fun k => spec_DrawPerfect.f k l) (w, h, (n : Int)) := by
  obtain ⟨h', e1⟩ := spec_New_ev hl
  obtain ⟨w, h, i2, h2, e2, hg, hi2⟩ := spec_Grid_eq hl (i := 0) (by omega) h'
  obtain ⟨o', i3, h3, ho, hp, e3⟩ := spec_Tree_ev (xs := l) (i1 := i2) (h1 := h2) hg hl hi2
  refine ⟨w, h, o', hg, ho, hp, ?_⟩
  have hT : Ev (fun k => spec_l05Tree.f k l 0 h') (w, h, (o' : Int), i3, h3) := by
    unfold spec_l05Tree.f
    exact Ev.bnd0 e2 (Ev.bind e3 (Ev.ret rfl))
  unfold spec_DrawPerfect.f
  exact Ev.bind e1 (Ev.bind hT (Ev.ret rfl))
end Go.Proofs.Ytoohcdfokejkdaa.P
namespace Go.Proofs.Ytoohcdfokejkdaa.P
open Go.RowKit Go.Proofs.YtoohcdfokejkdaaW.PrintWords
set_option linter.unusedVariables false
set_option linter.unusedSimpArgs false

theorem at_eq {l : List Int} (hl : l.length ≤ 1048576) (hz : ∀ x ∈ l, 0 ≤ x ∧ x ≤ 255) {a : Int} (h0 : 0 ≤ a) (h1 : a ≤ 9) : ∃ v, laws_at.f l a = some v ∧ 0 ≤ v ∧ v ≤ 255 := by
  unfold laws_at.f
  by_cases e : (l.length : Int) = 0
  · exact ⟨0, if_pos e, by omega, by omega⟩
  · rw [if_neg e, wrap64_id (x := a * 5) (by omega) (by omega), wrap64_id (x := a * 5 + 1) (by omega) (by omega)]
    have t0 : 0 ≤ Int.tmod (a * 5 + 1) (l.length : Int) := Int.tmod_nonneg _ (by omega)
    have t1 : Int.tmod (a * 5 + 1) (l.length : Int) < (l.length : Int) := Int.tmod_lt_of_pos _ (by omega)
    rw [if_pos t0, if_pos t1]
    obtain ⟨i, hi⟩ := Int.eq_ofNat_of_zero_le t0
    rw [hi] at t1 ⊢
    have hm := hz _ (List.getElem_mem (show i < l.length by omega))
    refine ⟨_, rfl, ?_⟩
    show 0 ≤ wrap64 (rd l (i : Int)) ∧ wrap64 (rd l (i : Int)) ≤ 255
    rw [rd_get (show i < l.length by omega), wrap64_id (by omega) (by omega)]
    exact hm
end Go.Proofs.Ytoohcdfokejkdaa.P
