/- The statement FnExactNumberOf of the seat, out of its plain form (FnExactNumberOf_pure) and the walk of its Go function. Part 6 of 6: each Go function's walk, then the plain lemmas, then the row. No condition: it holds for every input. -/
import Derived.Test.YtoohcdfokejkdaaBFnExactNumberOf5
import Derived.Test.YtoohcdfokejkdaaRows
import Derived.Below
import Derived.ChangeOld
import Derived.OpenShut
import Derived.ProofKit
import Derived.ShutString
import Derived.SizedLaws
import Derived.WalkKit
namespace Go.Proofs.Ytoohcdfokejkdaa.P
open Go.RowKit Go.Proofs.YtoohcdfokejkdaaW.PrintWords
set_option linter.unusedVariables false
set_option linter.unusedSimpArgs false

/-- A matrix without a row and the column of the same number. -/
def minorL (m : List (List Int)) (r : Nat) : List (List Int) := (m.eraseIdx r).map fun row => row.eraseIdx r
theorem minor_snoc (l : List (List Int)) (x : List Int) (r : Nat) : minorL (l ++ [x]) r = if r = l.length then l.map (fun row => row.eraseIdx r) else minorL l r ++ [x.eraseIdx r] := by
  unfold minorL
  rcases Nat.lt_trichotomy r l.length with h | h | h
  · rw [if_neg (by omega), List.eraseIdx_append_of_lt_length h, List.map_append]; rfl
  · rw [if_pos h, List.eraseIdx_append_of_length_le (by omega), h, Nat.sub_self]; simp
  · rw [if_neg (by omega), List.eraseIdx_append_of_length_le (by omega), List.eraseIdx_of_length_le (by omega : l.length ≤ r), List.eraseIdx_of_length_le (show [x].length ≤ r - l.length by simp; omega), List.map_append]
    rfl
theorem minor_len_le (l : List (List Int)) (r : Nat) : (minorL l r).length ≤ l.length := by
  unfold minorL
  rw [List.length_map, List.length_eraseIdx]
  split <;> omega
theorem without_l0 (m : List (List Int)) (r : Nat) (hm : m.length ≤ 1048576) (hrow : ∀ row ∈ m, r < row.length ∧ row.length ≤ 1048576) : ∀ (d i : Nat), i + d = m.length →
    Ev (fun k => impl_without.l0 k r (minorL (m.take i) r) m (m.length : Int) i) (minorL m r)
  | 0, i, hd => by
    refine Ev.step (fun _ => impl_without.l0.eq_2 ..) (Ev.ff (by omega) (Ev.ret ?_))
    rw [List.take_of_length_le (by omega)]
  | d + 1, i, hd => by
    have hi : i < m.length := by omega
    have ht : m.take (i + 1) = m.take i ++ [m[i]] := by rw [List.take_succ_eq_append_getElem hi]
    have hl : (m.take i).length = i := by rw [List.length_take]; omega
    have hle := minor_len_le (m.take i) r
    obtain ⟨q1, q2⟩ := hrow _ (List.getElem_mem hi)
    have ih := without_l0 m r hm hrow d (i + 1) (by omega)
    rw [ht, minor_snoc, hl] at ih
    refine Ev.step (fun _ => impl_without.l0.eq_2 ..) (Ev.tt (by omega) (Ev.tt (by omega) (Ev.tt (by omega) ?_)))
    rw [wsucc (by omega)]
    refine Ev.ite (fun e => ?_) (fun e => ?_)
    · have er : r = i := by omega
      rw [if_pos er] at ih
      have : minorL (m.take i) r = (m.take i).map fun row => row.eraseIdx r := by
        unfold minorL
        rw [List.eraseIdx_of_length_le (by omega)]
      rw [this]
      exact ih
    · rw [if_neg (by omega)] at ih
      have hdel : slices_Delete_int_int.f (rd_L2 m (i : Int)) (r : Int) (wrap64 ((r : Int) + 1)) = some (m[i].eraseIdx r) := by
        rw [rdL_get hi, wsucc (by omega)]
        unfold slices_Delete_int_int.f
        rw [if_pos ⟨by omega, by omega, by omega, by omega⟩]
        congr 1
        rw [Int.toNat_natCast, Int.toNat_natCast, ← List.eraseIdx_eq_take_drop_succ]
      exact Ev.bnd0 hdel (Ev.tt (by omega) ih)
theorem without_ev (m : List (List Int)) (r : Nat) (hm : m.length ≤ 1048576) (hrow : ∀ row ∈ m, r < row.length ∧ row.length ≤ 1048576) : Ev (fun k => impl_without.f k m r) (minorL m r) := by
  unfold impl_without.f
  have := without_l0 m r hm hrow m.length 0 (by omega)
  rwa [List.take_zero, show minorL [] r = [] by simp [minorL]] at this
theorem dlist_erase0 (n : Nat) (D : Nat → Int) : (dlist (n + 1) D).eraseIdx 0 = dlist n fun i => D (i + 1) := by
  unfold dlist
  rw [List.range_succ_eq_map]
  simp [Function.comp_def]
/-- The first row and column left out. -/
theorem minor_mat0 {n : Nat} {f : Nat → Nat → Int} : minorL (mat (n + 1) (n + 1) f) 0 = mat n n fun i j => f (i + 1) (j + 1) := by
  unfold minorL mat
  rw [List.range_succ_eq_map]
  simp only [List.map_cons, List.eraseIdx_zero, List.tail_cons, List.map_map]
  refine List.map_congr_left fun i _ => ?_
  have := dlist_erase0 n (f (i + 1))
  rwa [List.eraseIdx_zero] at this
/-- A sum over the members of a set, told by their places. -/
theorem sumTo_place {n s : Nat} {F G : Nat → Int} (h : ∀ k, k < n → s.testBit k = true → G (pop k s) = F k) : sumTo n (fun k => if s.testBit k then F k else 0) = sumTo (pop n s) G := by
  induction n with
  | zero => rfl
  | succ n ih =>
    simp only [sumTo, pop]
    rw [ih fun k hk hb => h k (by omega) hb]
    cases hb : s.testBit n
    · simp
    · simp only [if_true, Bool.toNat_true, sumTo]
      rw [h n (by omega) hb]
theorem above_pop {n s k : Nat} (hk : k < n) (hs : s < 2 ^ n) (hb : s.testBit k = true) : above n s k + pop k s + 1 = pop n s := by
  have h1 : pop n s = pop (k + 1) s + pop (n - (k + 1)) (s / 2 ^ (k + 1)) := by
    have := pop_add (k + 1) (n - (k + 1)) s
    rwa [show k + 1 + (n - (k + 1)) = n by omega] at this
  have h2 : above n s k = pop (n - (k + 1)) (s / 2 ^ (k + 1)) := by
    unfold above
    exact pop_big (Nat.div_lt_of_lt_mul (by rw [← Nat.pow_add]; exact Nat.lt_of_lt_of_le hs (Nat.pow_le_pow_right (by decide) (by omega)))) (by omega)
  simp only [pop, hb, Bool.toNat_true] at h1
  omega
theorem pop_del_lt {s k j : Nat} (h : j ≤ k) : pop j (del s k) = pop j s := pop_congr fun i hi => by rw [testBit_del]; simp; omega
theorem pop_mono {m n s : Nat} (h : m ≤ n) : pop m s ≤ pop n s := by
  obtain ⟨d, rfl⟩ := Nat.exists_eq_add_of_le h
  rw [pop_add]; omega
theorem Ds_dt (a : Nat → Nat → Int) (n : Nat) : ∀ (r s : Nat) (B : Nat → Nat → Int), s < 2 ^ n → pop n s = r → (∀ k, k < n → s.testBit k = true → ∀ c, B (pop k s) c = a c k) → Ds a n s = dt r B
  | 0, s, B, hs, hr, hB => by unfold Ds; rw [hr]; rfl
  | r + 1, s, B, hs, hr, hB => by
    rw [Ds_sum (by omega)]
    simp only [dt]
    rw [← hr]
    refine sumTo_place fun k hk hb => ?_
    have h1 := above_pop hk hs hb
    have h2 := pop_del hk hb
    unfold term
    rw [hB k hk hb, show pop n s - 1 = r by omega, show above n s k = r - pop k s by omega]
    rw [Ds_dt a n r (del s k) (er (pop k s) B) (Nat.lt_of_le_of_lt (del_le s k) hs) (by omega)]
    intro j hj hbj c
    rw [testBit_del] at hbj
    simp only [Bool.and_eq_true, decide_eq_true_eq] at hbj
    unfold er
    by_cases e : j < k
    · have h3 : pop (j + 1) s ≤ pop k s := pop_mono (by omega)
      simp only [pop, hbj.1, Bool.toNat_true] at h3
      rw [pop_del_lt (by omega), if_pos (by omega)]
      exact hB j hj hbj.1 c
    · have h3 := pop_del (n := j) (show k < j by omega) hb
      have h4 : pop (k + 1) s ≤ pop j s := pop_mono (by omega)
      simp only [pop, hb, Bool.toNat_true] at h4
      rw [if_neg (by omega), show pop j (del s k) + 1 = pop j s by omega]
      exact hB j hj hbj.1 c
theorem pop_all {n s : Nat} (h : ∀ i, i < n → s.testBit i = true) : pop n s = n := by
  induction n with
  | zero => rfl
  | succ n ih => simp only [pop]; rw [ih fun i hi => h i (by omega), h n (by omega)]; rfl
theorem Ds_full (a : Nat → Nat → Int) (n : Nat) : Ds a n (2 ^ n - 1) = dt n a := by
  have hp : 0 < 2 ^ n := Nat.two_pow_pos n
  rw [Ds_dt a n n (2 ^ n - 1) (tr a) (by omega) (pop_full n), dt_tr]
  intro k hk hb c
  rw [pop_all fun i hi => by rw [Nat.testBit_two_pow_sub_one]; simp; omega]
  rfl
theorem setB_false_sub {n j i : Nat} (h : (setB n j false).testBit i = true) : n.testBit i = true := by
  rw [testBit_setB] at h
  split at h
  · cases h
  · exact h
theorem setB_false_mono {n m j i : Nat} (hs : ∀ i, m.testBit i = true → n.testBit i = true) (h : (setB m j false).testBit i = true) : (setB n j false).testBit i = true := by
  rw [testBit_setB] at h ⊢
  split at h
  · cases h
  · rename_i hne
    rw [if_neg hne]
    exact hs i h
theorem bridges_forest {e : Nat → Nat × Nat} {V E : Nat} (hG : Gr e V E) : ∀ p n, pop E n = p → n < 2 ^ E → (∀ j, j < E → n.testBit j = true → ¬ Cn e (setB n j false) (e j).1 (e j).2) → pop E n + parts e V E n = V := by
  intro p
  induction p using Nat.strongRecOn with
  | _ p ih =>
    intro n hp hn hb
    by_cases he : ∃ g, g < E ∧ n.testBit g = true
    · obtain ⟨g, hg, hbg⟩ := he
      have hlt : setB n g false < 2 ^ E := setB_lt _ hn hg
      have p1 := pop_setB (m := E) (n := setB n g false) hg (setB_bit n g false)
      rw [setB_off_on hbg] at p1
      have p2 := (parts_add (v := V) hlt hg (hG g hg).1 (hG g hg).2).2 (hb g hg hbg)
      rw [setB_off_on hbg] at p2
      have := ih (pop E (setB n g false)) (by omega) _ rfl hlt (fun j hj hbj hc => hb j hj (setB_false_sub hbj) (Cn.mono (fun i hi => setB_false_mono (fun i hi => setB_false_sub hi) hi) hc))
      omega
    · have h0 : n = 0 := by
        refine Nat.eq_of_testBit_eq fun i => ?_
        rw [Nat.zero_testBit]
        cases hbi : n.testBit i
        · rfl
        · exact absurd ⟨i, lt_of_testBit hn hbi, hbi⟩ he
      subst h0
      have : ∀ m, pop m 0 = 0 := by
        intro m
        induction m with
        | zero => rfl
        | succ m ih => simp only [pop, Nat.zero_testBit, ih]; rfl
      rw [this, parts_zero, Nat.zero_add]
end Go.Proofs.Ytoohcdfokejkdaa.P
namespace Go.Proofs.Ytoohcdfokejkdaa.P
open Go.RowKit Go.Proofs.YtoohcdfokejkdaaW.PrintWords
set_option linter.unusedVariables false
set_option linter.unusedSimpArgs false

section
variable {e : Nat → Nat × Nat} {V E : Nat}
/-- What lies in a forest is a forest. -/
theorem forest_sub (hG : Gr e V E) {c t : Nat} (ht : t < 2 ^ E) (hc : c < 2 ^ E) (hf : pop E t + parts e V E t = V) (hs : ∀ i, c.testBit i = true → t.testBit i = true) : pop E c + parts e V E c = V := by
  refine bridges_forest hG _ c rfl hc fun j hj hb hcn => ?_
  refine bridge_of_forest hG ht hf (hs j hb) (hcn.mono fun i hi => ?_)
  rw [testBit_setB] at hi ⊢
  by_cases h : i = j
  · rw [if_pos h] at hi; cases hi
  · rw [if_neg h] at hi ⊢; exact hs i hi
theorem cnt_ex {p : Nat → Bool} {n : Nat} (h : 0 < cnt p n) : ∃ i, i < n ∧ p i = true := by
  apply Classical.byContradiction
  intro hn
  have : cnt p n = 0 := cnt_zero_iff.2 fun i hi => by
    cases hp : p i
    · rfl
    · exact absurd ⟨i, hi, hp⟩ hn
  omega
theorem trees_ex {c b : Nat} (h : 0 < trees e V E c b) : ∃ t, t < 2 ^ E ∧ sup E c b t = true ∧ perf e V E t = true := by
  obtain ⟨t, ht, hp⟩ := cnt_ex h
  rw [Bool.and_eq_true] at hp
  exact ⟨t, ht, hp⟩
theorem trees_le (c b : Nat) : trees e V E c b ≤ 2 ^ E := cnt_le _ _
theorem trees_loops (hG : Gr e V E) {c b : Nat} (hc : c < 2 ^ E) (hf : ¬ pop E c + parts e V E c = V) : trees e V E c b = 0 := by
  rcases Nat.eq_zero_or_pos (trees e V E c b) with h | h
  · exact h
  · obtain ⟨t, ht, hs, hp⟩ := trees_ex h
    rw [perf_iff] at hp
    refine absurd (forest_sub hG ht hc (by omega) fun i hi => ?_) hf
    exact (sup_iff.1 hs i (lt_of_testBit hc hi)).1 hi
/-- Below k = E - d all is decided, from k on nothing. -/
structure Dec (E d c b : Nat) : Prop where
  cl : c < 2 ^ E
  bl : b < 2 ^ E
  dis : ∀ i, c.testBit i = true → b.testBit i = false
  done : ∀ i, i < E - d → c.testBit i = false → b.testBit i = true
  todo : ∀ i, E - d ≤ i → c.testBit i = false ∧ b.testBit i = false
theorem Dec.start : Dec E E 0 0 := ⟨Nat.two_pow_pos E, Nat.two_pow_pos E, fun i h => by simp at h, fun i h => by omega, fun i _ => by simp⟩
theorem Dec.on {d c b : Nat} (h : Dec E (d + 1) c b) (hd : d + 1 ≤ E) : Dec E d (setB c (E - (d + 1)) true) b where
  cl := setB_lt true h.cl (by omega)
  bl := h.bl
  dis := fun i hi => by
    rw [testBit_setB] at hi
    split at hi
    · rename_i e1; rw [e1]; exact (h.todo _ (Nat.le_refl _)).2
    · exact h.dis i hi
  done := fun i hi hc => by
    rw [testBit_setB] at hc
    split at hc
    · cases hc
    · exact h.done i (by omega) hc
  todo := fun i hi => by
    rw [testBit_setB, if_neg (by omega)]
    exact h.todo i (by omega)
theorem Dec.off {d c b : Nat} (h : Dec E (d + 1) c b) (hd : d + 1 ≤ E) : Dec E d c (setB b (E - (d + 1)) true) where
  cl := h.cl
  bl := setB_lt true h.bl (by omega)
  dis := fun i hi => by
    rw [testBit_setB]
    split
    · rename_i e1; rw [e1, (h.todo _ (Nat.le_refl _)).1] at hi; cases hi
    · exact h.dis i hi
  done := fun i hi hc => by
    rw [testBit_setB]
    split
    · rfl
    · exact h.done i (by omega) hc
  todo := fun i hi => by
    rw [testBit_setB, if_neg (by omega)]
    exact h.todo i (by omega)
theorem Dec.und {d c b : Nat} (h : Dec E (d + 1) c b) : und c b (E - (d + 1)) = true := by
  unfold P.und
  rw [(h.todo _ (Nat.le_refl _)).1, (h.todo _ (Nat.le_refl _)).2]
  rfl
theorem Dec.split {d c b : Nat} (h : Dec E (d + 1) c b) (hd : d + 1 ≤ E) : trees e V E c b = trees e V E (setB c (E - (d + 1)) true) b + trees e V E c (setB b (E - (d + 1)) true) := trees_split (by omega) h.und
end
end Go.Proofs.Ytoohcdfokejkdaa.P
namespace Go.Proofs.Ytoohcdfokejkdaa.P
open Go.RowKit Go.Proofs.YtoohcdfokejkdaaW.PrintWords
set_option linter.unusedVariables false
set_option linter.unusedSimpArgs false

theorem filter_head {p : Nat → Bool} {m v : Nat} (hm : m < v) (hp : p m = true) (h : ∀ i, i < m → p i = false) : ∃ t, (List.range v).filter p = m :: t := by
  obtain ⟨d, rfl⟩ : ∃ d, v = m + (d + 1) := ⟨v - m - 1, by omega⟩
  rw [List.range_add, List.filter_append]
  have h1 : (List.range m).filter p = [] := by
    rw [List.filter_eq_nil_iff]
    intro a ha
    rw [h a (List.mem_range.1 ha)]
    simp
  rw [h1, List.nil_append, List.range_succ_eq_map, List.map_cons, Nat.add_zero, List.filter_cons, if_pos hp]
  exact ⟨_, rfl⟩
/-- The cells that are reached, in ascending order. -/
def reachN (w h : Int) (n s : Nat) : List Nat := (List.range (cellsN w h)).filter fun c => decide (0 ≤ distN w h n s c)
/-- The least cell of the part of a cell. -/
def labN (w h : Int) (n c : Nat) : Nat := lab (ends w h) n (gapsN w h) c
theorem reachN_head {w h : Int} {n s : Nat} (hn : n < 2 ^ gapsN w h) (hs : s < cellsN w h) : ∃ t, reachN w h n s = labN w h n s :: t := by
  have hle := lab_le (ends w h) n (gapsN w h) s
  refine filter_head (show labN w h n s < cellsN w h by unfold labN; omega) ?_ ?_
  · rw [decide_eq_true_eq, distN_cn hn hs]
    exact lab_cn hn s
  · intro i hi
    rw [decide_eq_false_iff_not, distN_cn hn hs]
    intro hc
    have := lab_least hn hc
    unfold labN at hi
    omega
def partsN (w h : Int) (n : Nat) : Nat := parts (ends w h) (cellsN w h) (gapsN w h) n
theorem partsN_le (w h : Int) (n : Nat) : partsN w h n ≤ 16 := Nat.le_trans (cnt_le _ _) (cellsN_le w h)
def perfN (w h : Int) (n : Nat) : Bool := perf (ends w h) (cellsN w h) (gapsN w h) n
theorem cells_pos {w h : Int} (hg : gridOk w h = true) : 1 ≤ cellsN w h := by
  unfold cellsN cellsOf
  rw [if_pos hg]
  obtain ⟨h1 | h1 | h1 | h1, h2 | h2 | h2 | h2⟩ := grid_cases hg <;> subst h1 <;> subst h2 <;> decide
end Go.Proofs.Ytoohcdfokejkdaa.P
namespace Go.Proofs.Ytoohcdfokejkdaa.P
open Go.RowKit Go.Proofs.YtoohcdfokejkdaaW.PrintWords Go.Proofs.Ytoohcdfokejkdaa.Sup
set_option linter.unusedVariables false
set_option linter.unusedSimpArgs false

theorem impl_isIn_one (w h o c : Int) : impl_isIn.f w h o [c] = some (mazeOk w h o && isCellI w h c) := by
  unfold impl_isIn.f
  rw [impl_MazeOk_eq, Option.bind_some]
  cases hm : mazeOk w h o
  · simp
  · rw [if_pos rfl]
    simp [impl_isCell_eq]
theorem spec_l04Has_eq (w h o c : Int) : spec_l04Has.f w h o c = some (mazeOk w h o && isCellI w h c) := by
  have hr := cellsOf_range w h
  unfold spec_l04Has.f isCellI
  rw [spec_MazeOk_eq, Option.bind_some]
  cases hm : mazeOk w h o
  · simp
  · rw [if_pos rfl, spec_CountCells_eq, Option.bind_some, wrap64_id (by omega) (by omega), l01In_eq, Option.bind_some]
    simp only [Bool.true_and]
    congr 1
    rw [decide_eq_decide]
    omega
end Go.Proofs.Ytoohcdfokejkdaa.P
namespace Go.Proofs.Ytoohcdfokejkdaa.P
open Go.RowKit Go.Proofs.YtoohcdfokejkdaaW.PrintWords
set_option linter.unusedVariables false
set_option linter.unusedSimpArgs false

/-- i, i + 1, .. : d of them. -/
def run (i d : Nat) : List Int := (List.range d).map fun t => ((i + t : Nat) : Int)
theorem run_succ (i d : Nat) : run i (d + 1) = (i : Int) :: run (i + 1) d := by
  simp only [run, List.range_succ_eq_map, List.map_cons, List.map_map, Nat.add_zero]
  congr 1
  apply List.map_congr_left
  intro t _
  simp only [Function.comp, Nat.succ_eq_add_one]
  congr 1
  omega
theorem mem_run {i d : Nat} {x : Int} : x ∈ run i d ↔ (i : Int) ≤ x ∧ x < ((i + d : Nat) : Int) := by
  simp only [run, List.mem_map, List.mem_range]
  constructor
  · rintro ⟨t, ht, rfl⟩
    omega
  · intro ⟨h1, h2⟩
    exact ⟨(x - i).toNat, by omega, by omega⟩
theorem upTo_l0 (n : Nat) (hn : n ≤ 1000000) : ∀ (d i : Nat) (out : List Int), n - i = d → i ≤ n → out.length ≤ i → Ev (fun k => impl_upTo.l0 k n out i) (out ++ run i d)
  | 0, i, out, hd, hi, ho => by
    refine Ev.step (fun _ => impl_upTo.l0.eq_2 ..) (Ev.ff (by omega) (Ev.ret ?_))
    simp [run]
  | d + 1, i, out, hd, hi, ho => by
    refine Ev.step (fun _ => impl_upTo.l0.eq_2 ..) (Ev.tt (by omega) (Ev.tt (by omega) ?_))
    rw [wsucc (by omega), run_succ]
    have := upTo_l0 n hn d (i + 1) (out ++ [(i : Int)]) (by omega) (by omega) (by simp; omega)
    simpa using this
theorem impl_upTo_ev (n : Nat) (hn : n ≤ 1000000) : Ev (fun k => impl_upTo.f k n) (run 0 n) := by
  unfold impl_upTo.f
  have := upTo_l0 n hn n 0 [] (by omega) (by omega) (by simp)
  simpa using this
end Go.Proofs.Ytoohcdfokejkdaa.P
namespace Go.Proofs.Ytoohcdfokejkdaa.P
open Go.RowKit Go.Proofs.YtoohcdfokejkdaaW.PrintWords
set_option linter.unusedVariables false
set_option linter.unusedSimpArgs false

theorem run_zero (v : Nat) : run 0 v = ints (List.range v) := by
  unfold run ints
  exact List.map_congr_left fun t _ => by omega
theorem isCellI_nat {w h : Int} {c : Nat} (hc : c < cellsN w h) : isCellI w h c = true := by
  have := cellsN_cast w h
  unfold isCellI
  rw [decide_eq_true_eq]; omega
section
variable {w h : Int} {n : Nat} (hg : gridOk w h = true) (hn : n < 2 ^ gapsN w h)
include hg hn
theorem mazeOk_nat : mazeOk w h n = true := mazeOk_iff.2 ⟨hg, n, rfl, hn⟩
theorem impl_Reached_ev {s : Nat} (hs : s < cellsN w h) : Ev (fun k => impl_Reached.f k w h n s) (ints (reachN w h n s)) := by
  have h16 := cellsN_le w h
  unfold impl_Reached.f
  refine Ev.bnd0 (impl_isIn_one w h n s) (Ev.tt (by rw [mazeOk_nat hg hn, isCellI_nat hs]; rfl) ?_)
  refine Ev.bind (impl_distances_ev hg hn hs) ?_
  rw [dlist_length]
  refine Ev.bind (impl_upTo_ev _ (by omega)) (Ev.tt ?_ (Ev.ret ?_))
  · rw [List.all_eq_true]
    intro c hc
    have := mem_run.1 hc
    rw [decide_eq_true_eq]
    omega
  · rw [run_zero]
    unfold reachN ints
    rw [List.filter_map]
    congr 1
    refine List.filter_congr fun c hc => ?_
    rw [List.mem_range] at hc
    simp only [Function.comp]
    rw [rd_dlist hc]
    by_cases h1 : distN w h n s c < 0
    · rw [decide_eq_true h1, decide_eq_false (show ¬ 0 ≤ distN w h n s c by omega)]; rfl
    · rw [decide_eq_false h1, decide_eq_true (show 0 ≤ distN w h n s c by omega)]; rfl
omit hg hn in
theorem spec_reach_l0 {s : Nat} : ∀ (d i : Nat) (out : List Nat), i + d = cellsN w h → out.length ≤ i →
    Ev (fun k => spec_Reached.l0 k (ints out) (dlist (cellsN w h) (distN w h n s)) i) (ints (out ++ ((List.range d).map (i + ·)).filter fun c => decide (0 ≤ distN w h n s c)))
  | 0, i, out, hd, ho => by
    refine Ev.step (fun _ => spec_Reached.l0.eq_2 ..) (Ev.ff (by rw [dlist_length]; omega) (Ev.ret ?_))
    simp
  | d + 1, i, out, hd, ho => by
    have h16 := cellsN_le w h
    refine Ev.step (fun _ => spec_Reached.l0.eq_2 ..) (Ev.tt (by rw [dlist_length]; omega) (Ev.tt (by omega) ?_))
    rw [rd_dlist (by omega), wsucc (by omega), List.range_succ_eq_map, List.map_cons, List.map_map, List.filter_cons, Nat.add_zero]
    have hmap : List.map ((fun x => i + x) ∘ Nat.succ) (List.range d) = List.map (fun x => i + 1 + x) (List.range d) := List.map_congr_left fun x _ => by simp only [Function.comp]; omega
    rw [hmap]
    refine Ev.ite (fun h1 => Ev.tt (by rw [ints_length]; omega) ?_) (fun h1 => ?_)
    · rw [if_pos (by simpa using h1), ← ints_app]
      have := spec_reach_l0 (s := s) d (i + 1) (out ++ [i]) (by omega) (by simp; omega)
      simpa using this
    · rw [if_neg (by simpa using h1)]
      exact spec_reach_l0 d (i + 1) out (by omega) (by omega)
theorem spec_Reached_ev {s : Nat} (hs : s < cellsN w h) : Ev (fun k => spec_Reached.f k w h n s) (ints (reachN w h n s)) := by
  unfold spec_Reached.f
  refine Ev.bnd0 rfl (Ev.bnd0 (spec_l04Has_eq w h n s) (Ev.tt (by rw [mazeOk_nat hg hn, isCellI_nat hs]; rfl) ?_))
  refine Ev.bind (spec_distances_ev hg hn hs) ?_
  have := spec_reach_l0 (w := w) (h := h) (n := n) (s := s) (cellsN w h) 0 [] (by omega) (by simp)
  have e : ([] ++ ((List.range (cellsN w h)).map (0 + ·)).filter fun c => decide (0 ≤ distN w h n s c)) = reachN w h n s := by
    unfold reachN
    rw [List.nil_append]
    congr 1
    have : ∀ l : List Nat, l.map (0 + ·) = l := fun l => by
      induction l with
      | nil => rfl
      | cons a t ih => simp
    exact this _
  rw [e] at this
  exact this
omit hg hn in
theorem head_is {s : Nat} (hn : n < 2 ^ gapsN w h) (hs : s < cellsN w h) : 0 < ((ints (reachN w h n s)).length : Int) ∧ rd (ints (reachN w h n s)) 0 = labN w h n s := by
  obtain ⟨t, ht⟩ := reachN_head hn hs
  rw [ht]
  exact ⟨by simp [ints], rfl⟩
theorem impl_parts_l0 : ∀ (d c m : Nat), c + d = cellsN w h → m ≤ c → Ev (fun k => impl_CountParts.l0 k m c w h n) (((m + (cnt (fun i => labN w h n i == i) (cellsN w h) - cnt (fun i => labN w h n i == i) c) : Nat)) : Int)
  | 0, c, m, hd, hm => by
    have hcast := cellsN_cast w h
    refine Ev.step (fun _ => impl_CountParts.l0.eq_2 ..) (Ev.bnd0 (impl_isIn_one w h n c) (Ev.ff ?_ (Ev.ret ?_)))
    · have : isCellI w h c = false := by unfold isCellI; rw [decide_eq_false_iff_not]; omega
      rw [this]; simp
    · rw [show c = cellsN w h by omega, Nat.sub_self, Nat.add_zero]
  | d + 1, c, m, hd, hm => by
    have h16 := cellsN_le w h
    have hcv : c < cellsN w h := by omega
    obtain ⟨e1, e2⟩ := head_is hn hcv
    refine Ev.step (fun _ => impl_CountParts.l0.eq_2 ..) (Ev.bnd0 (impl_isIn_one w h n c) (Ev.tt (by rw [mazeOk_nat hg hn, isCellI_nat hcv]; rfl) ?_))
    refine Ev.bind (impl_Reached_ev hg hn hcv) (Ev.tt e1 ?_)
    rw [e2, wsucc (by omega), wsucc (by omega)]
    have hle : cnt (fun i => labN w h n i == i) (c + 1) ≤ cnt (fun i => labN w h n i == i) (cellsN w h) := by
      obtain ⟨x, hx⟩ := Nat.exists_eq_add_of_le (show c + 1 ≤ cellsN w h by omega)
      rw [hx]
      have : ∀ x, cnt (fun i => labN w h n i == i) (c + 1) ≤ cnt (fun i => labN w h n i == i) (c + 1 + x) := by
        intro x
        induction x with
        | zero => exact Nat.le_refl _
        | succ x ih => rw [← Nat.add_assoc]; simp only [cnt]; simp only [cnt] at ih; omega
      exact this x
    simp only [cnt] at hle
    refine Ev.ite (fun h1 => ?_) (fun h1 => ?_)
    · refine Ev.eq (impl_parts_l0 d (c + 1) (m + 1) (by omega) (by omega)) ?_
      have : (labN w h n c == c) = true := by rw [beq_iff_eq]; omega
      simp only [cnt, this, Bool.toNat_true] at hle ⊢
      omega
    · refine Ev.eq (impl_parts_l0 d (c + 1) m (by omega) (by omega)) ?_
      have : (labN w h n c == c) = false := by rw [beq_eq_false_iff_ne]; omega
      simp only [cnt, this, Bool.toNat_false] at hle ⊢
      omega
theorem impl_CountParts_ev : Ev (fun k => impl_CountParts.f k w h n) (partsN w h n : Int) := by
  unfold impl_CountParts.f
  refine Ev.eq (impl_parts_l0 hg hn (cellsN w h) 0 0 (by omega) (by omega)) ?_
  simp only [cnt, Nat.zero_add, Nat.sub_zero]
  rfl
theorem spec_parts_l0 : ∀ (d c m : Nat), c + d = cellsN w h → m ≤ c → Ev (fun k => spec_CountParts.l0 k m c w h n) (((m + (cnt (fun i => labN w h n i == i) (cellsN w h) - cnt (fun i => labN w h n i == i) c) : Nat)) : Int)
  | 0, c, m, hd, hm => by
    have hcast := cellsN_cast w h
    refine Ev.step (fun _ => spec_CountParts.l0.eq_2 ..) (Ev.bnd0 (spec_CountCells_eq w h) (Ev.ff (by omega) ?_))
    refine Ev.step (fun _ => spec_CountParts.j1.eq_2 ..) (Ev.ff (by decide) (Ev.ret ?_))
    rw [show c = cellsN w h by omega, Nat.sub_self, Nat.add_zero]
  | d + 1, c, m, hd, hm => by
    have h16 := cellsN_le w h
    have hcast := cellsN_cast w h
    have hcv : c < cellsN w h := by omega
    obtain ⟨e1, e2⟩ := head_is hn hcv
    refine Ev.step (fun _ => spec_CountParts.l0.eq_2 ..) (Ev.bnd0 (spec_CountCells_eq w h) (Ev.tt (by omega) (Ev.bnd0 (spec_MazeOk_eq w h n) ?_)))
    rw [mazeOk_nat hg hn]
    refine Ev.step (fun _ => spec_CountParts.j1.eq_2 ..) (Ev.tt rfl ?_)
    refine Ev.bind (spec_Reached_ev hg hn hcv) (Ev.tt e1 ?_)
    rw [e2, wsucc (by omega), wsucc (by omega)]
    have hle : cnt (fun i => labN w h n i == i) (c + 1) ≤ cnt (fun i => labN w h n i == i) (cellsN w h) := by
      obtain ⟨x, hx⟩ := Nat.exists_eq_add_of_le (show c + 1 ≤ cellsN w h by omega)
      rw [hx]
      have : ∀ x, cnt (fun i => labN w h n i == i) (c + 1) ≤ cnt (fun i => labN w h n i == i) (c + 1 + x) := by
        intro x
        induction x with
        | zero => exact Nat.le_refl _
        | succ x ih => rw [← Nat.add_assoc]; simp only [cnt]; simp only [cnt] at ih; omega
      exact this x
    simp only [cnt] at hle
    refine Ev.ite (fun h1 => ?_) (fun h1 => ?_)
    · refine Ev.eq (spec_parts_l0 d (c + 1) (m + 1) (by omega) (by omega)) ?_
      have : (labN w h n c == c) = true := by rw [beq_iff_eq]; omega
      simp only [cnt, this, Bool.toNat_true] at hle ⊢
      omega
    · refine Ev.eq (spec_parts_l0 d (c + 1) m (by omega) (by omega)) ?_
      have : (labN w h n c == c) = false := by rw [beq_eq_false_iff_ne]; omega
      simp only [cnt, this, Bool.toNat_false] at hle ⊢
      omega
theorem spec_CountParts_ev : Ev (fun k => spec_CountParts.f k w h n) (partsN w h n : Int) := by
  unfold spec_CountParts.f
  refine Ev.eq (spec_parts_l0 hg hn (cellsN w h) 0 0 (by omega) (by omega)) ?_
  simp only [cnt, Nat.zero_add, Nat.sub_zero]
  rfl
end
theorem impl_CountParts_bad {w h o : Int} (hm : mazeOk w h o = false) : Ev (fun k => impl_CountParts.f k w h o) 0 := by
  unfold impl_CountParts.f
  exact Ev.step (fun _ => impl_CountParts.l0.eq_2 ..) (Ev.bnd0 (impl_isIn_one w h o 0) (Ev.ff (by rw [hm]; simp) (Ev.ret rfl)))
theorem spec_CountParts_bad {w h o : Int} (hm : mazeOk w h o = false) : Ev (fun k => spec_CountParts.f k w h o) 0 := by
  unfold spec_CountParts.f
  have hj : Ev (fun k => spec_CountParts.j1 k 0 0 false w h o) 0 := Ev.step (fun _ => spec_CountParts.j1.eq_2 ..) (Ev.ff (by decide) (Ev.ret rfl))
  refine Ev.step (fun _ => spec_CountParts.l0.eq_2 ..) (Ev.bnd0 (spec_CountCells_eq w h) (Ev.ite (fun _ => Ev.bnd0 (spec_MazeOk_eq w h o) ?_) (fun _ => hj)))
  rw [hm]; exact hj
end Go.Proofs.Ytoohcdfokejkdaa.P
namespace Go.Proofs.Ytoohcdfokejkdaa.P
open Go.RowKit Go.Proofs.YtoohcdfokejkdaaW.PrintWords
set_option linter.unusedVariables false
set_option linter.unusedSimpArgs false

theorem cnt_len (p : Nat → Bool) {a b : Nat} (h : a ≤ b) : cnt p a ≤ cnt p b := by
  obtain ⟨x, rfl⟩ := Nat.exists_eq_add_of_le h
  induction x with
  | zero => exact Nat.le_refl _
  | succ x ih => rw [← Nat.add_assoc]; simp only [cnt]; have := ih (by omega); omega
theorem pop_cnt (n k : Nat) : pop k n = cnt n.testBit k := by
  induction k with
  | zero => rfl
  | succ k ih => simp only [pop, cnt]; rw [ih]
theorem shift_count {p : Nat → Bool} {c v m : Nat} (hc : c < v) : m + (p c).toNat + (cnt p v - cnt p (c + 1)) = m + (cnt p v - cnt p c) := by
  have := cnt_len p (show c + 1 ≤ v by omega)
  simp only [cnt] at this ⊢
  omega
section
variable {w h : Int} {n : Nat} (hg : gridOk w h = true) (hn : n < 2 ^ gapsN w h)
include hg hn
theorem impl_CountPassages_eq : impl_CountPassages.f w h n = some (pop (gapsN w h) n : Int) := by
  have hs := open_small hn
  unfold impl_CountPassages.f
  rw [impl_MazeOk_eq, Option.bind_some, if_pos (mazeOk_nat hg hn), u64_small (by omega), ones_eq' (gapsN_le w h) hn, Option.bind_some]
theorem spec_passages_l0 : ∀ (d c m : Nat), c + d = gapsN w h → m ≤ c → Ev (fun k => spec_CountPassages.l0 k m c w h n) (((m + (cnt n.testBit (gapsN w h) - cnt n.testBit c) : Nat)) : Int)
  | 0, c, m, hd, hm => by
    have hcast := gapsN_cast w h
    refine Ev.step (fun _ => spec_CountPassages.l0.eq_2 ..) (Ev.bnd0 (spec_CountGaps_eq w h) (Ev.ff (by omega) ?_))
    refine Ev.step (fun _ => spec_CountPassages.j1.eq_2 ..) (Ev.ff (by decide) (Ev.ret ?_))
    rw [show c = gapsN w h by omega, Nat.sub_self, Nat.add_zero]
  | d + 1, c, m, hd, hm => by
    have hcast := gapsN_cast w h
    have h24 := gapsN_le w h
    have hs := open_small hn
    refine Ev.step (fun _ => spec_CountPassages.l0.eq_2 ..) (Ev.bnd0 (spec_CountGaps_eq w h) (Ev.tt (by omega) (Ev.bnd0 (spec_MazeOk_eq w h n) ?_)))
    rw [mazeOk_nat hg hn]
    refine Ev.step (fun _ => spec_CountPassages.j1.eq_2 ..) (Ev.tt rfl (Ev.bnd0 (spec_l03Bit_eq hs (by omega)) ?_))
    rw [openI_nat', wsucc (by omega), wsucc (by omega)]
    refine Ev.ite (fun h1 => ?_) (fun h1 => ?_)
    · refine Ev.eq (spec_passages_l0 d (c + 1) (m + 1) (by omega) (by omega)) ?_
      rw [← shift_count (p := n.testBit) (c := c) (v := gapsN w h) (m := m) (by omega), h1]
      rfl
    · refine Ev.eq (spec_passages_l0 d (c + 1) m (by omega) (by omega)) ?_
      rw [← shift_count (p := n.testBit) (c := c) (v := gapsN w h) (m := m) (by omega), Bool.eq_false_iff.2 h1]
      rfl
theorem spec_CountPassages_ev : Ev (fun k => spec_CountPassages.f k w h n) (pop (gapsN w h) n : Int) := by
  unfold spec_CountPassages.f
  refine Ev.eq (spec_passages_l0 hg hn (gapsN w h) 0 0 (by omega) (by omega)) ?_
  rw [pop_cnt]
  simp [cnt]
omit hn in
theorem perf_value : (if (decide (((partsN w h n : Nat) : Int) = 1)) = true then decide (((pop (gapsN w h) n : Nat) : Int) = wrap64 (cellsOf w h - 1)) else false) = perfN w h n := by
  have h16 := cellsN_le w h
  have hpos := cells_pos hg
  have hcast := cellsN_cast w h
  have hpop := pop_le (gapsN w h) n
  rw [wrap64_id (by omega) (by omega)]
  unfold perfN perf
  by_cases h1 : partsN w h n = 1
  · have h1' := h1
    unfold partsN at h1'
    rw [h1, h1']
    simp only [Int.natCast_one, decide_true, if_true, true_and]
    rw [decide_eq_decide]
    omega
  · have h1' := h1
    unfold partsN at h1'
    rw [if_neg (by simp; omega)]
    symm
    rw [decide_eq_false_iff_not]
    exact fun h2 => h1' h2.1
theorem impl_IsPerfect_ev : Ev (fun k => impl_IsPerfect.f k w h n) (perfN w h n) := by
  unfold impl_IsPerfect.f impl_IsConnected.f
  rw [← perf_value hg]
  refine Ev.bind (Ev.bind (impl_CountParts_ev hg hn) (Ev.ret rfl)) ?_
  refine Ev.ite (fun h1 => Ev.bnd0 (impl_CountPassages_eq hg hn) (Ev.bnd0 (impl_CountCells_eq w h) (Ev.ret ?_))) (fun h1 => Ev.ret ?_)
  · rw [if_pos (by simpa using h1)]
    rw [Bool.eq_iff_iff]
    simp
  · rw [if_neg (by simpa using h1)]
theorem spec_IsPerfect_ev : Ev (fun k => spec_IsPerfect.f k w h n) (perfN w h n) := by
  unfold spec_IsPerfect.f spec_IsConnected.f
  rw [← perf_value hg]
  refine Ev.bind (Ev.bind (spec_CountParts_ev hg hn) (Ev.ret rfl)) ?_
  refine Ev.ite (fun h1 => Ev.bind (spec_CountPassages_ev hg hn) (Ev.bnd0 (spec_CountCells_eq w h) (Ev.ret ?_))) (fun h1 => Ev.ret ?_)
  · rw [if_pos (by simpa using h1)]
    rw [Bool.eq_iff_iff]
    simp
  · rw [if_neg (by simpa using h1)]
end
/-- A perfect maze, for all arguments. -/
def perfI (w h o : Int) : Bool := mazeOk w h o && perfN w h o.toNat
theorem impl_IsPerfect_all (w h o : Int) : Ev (fun k => impl_IsPerfect.f k w h o) (perfI w h o) := by
  unfold perfI
  by_cases hm : mazeOk w h o = true
  · obtain ⟨hg, n, rfl, hn⟩ := mazeOk_iff.1 hm
    rw [hm]
    exact impl_IsPerfect_ev hg hn
  · rw [Bool.eq_false_iff.2 hm]
    unfold impl_IsPerfect.f impl_IsConnected.f
    exact Ev.bind (Ev.bind (impl_CountParts_bad (Bool.eq_false_iff.2 hm)) (Ev.ret rfl)) (Ev.ff (by decide) (Ev.ret rfl))
theorem spec_IsPerfect_all (w h o : Int) : Ev (fun k => spec_IsPerfect.f k w h o) (perfI w h o) := by
  unfold perfI
  by_cases hm : mazeOk w h o = true
  · obtain ⟨hg, n, rfl, hn⟩ := mazeOk_iff.1 hm
    rw [hm]
    exact spec_IsPerfect_ev hg hn
  · rw [Bool.eq_false_iff.2 hm]
    unfold spec_IsPerfect.f spec_IsConnected.f
    exact Ev.bind (Ev.bind (spec_CountParts_bad (Bool.eq_false_iff.2 hm)) (Ev.ret rfl)) (Ev.ff (by decide) (Ev.ret rfl))
theorem perfI_iff {w h o : Int} : perfI w h o = true ↔ gridOk w h = true ∧ ∃ n : Nat, o = (n : Int) ∧ n < 2 ^ gapsN w h ∧ perfN w h n = true := by
  unfold perfI
  rw [Bool.and_eq_true, mazeOk_iff]
  constructor
  · rintro ⟨⟨h1, n, rfl, h2⟩, h3⟩; exact ⟨h1, n, rfl, h2, h3⟩
  · rintro ⟨h1, n, rfl, h2, h3⟩; exact ⟨⟨h1, n, rfl, h2⟩, h3⟩
end Go.Proofs.Ytoohcdfokejkdaa.P
namespace Go.Proofs.Ytoohcdfokejkdaa.P
open Go.RowKit Go.Proofs.YtoohcdfokejkdaaW.PrintWords
set_option linter.unusedVariables false
set_option linter.unusedSimpArgs false

theorem impl_EndsOf_eq (w h g : Int) : impl_EndsOf.f w h g = some (endsI w h g) := by
  unfold impl_EndsOf.f endsI
  rw [impl_isGap_eq, Option.bind_some]
  unfold isGapI
  by_cases hc : 0 ≤ g ∧ g < gapsOf w h
  · rw [if_pos hc, if_pos (by simpa using hc)]
    obtain ⟨hg, hgw⟩ := gapsOf_valid hc.1 hc.2
    have hgr := gridOk_iff.1 hg
    have hrr := gapsOf_range w h
    have hq0 : 0 ≤ (w - 1) * h := Int.mul_nonneg (by omega) (by omega)
    have hq1 : (w - 1) * h ≤ 3 * 4 := Int.mul_le_mul (by omega) (by omega) (by omega) (by omega)
    have hw1 : w - 1 = 0 → (w - 1) * h = 0 := fun e => by rw [e, Int.zero_mul]
    rw [wrap64_id (x := w - 1) (by omega) (by omega), wrap64_id (x := (w - 1) * h) (by omega) (by omega)]
    by_cases hlt : g < (w - 1) * h
    · rw [if_pos hlt, if_neg (by omega)]
      have hne : w - 1 ≠ 0 := fun e => by have := hw1 e; omega
      have ha0 : 0 ≤ g / (w - 1) := Int.ediv_nonneg hc.1 (by omega)
      have ha1 : g / (w - 1) ≤ g := Int.ediv_le_self _ hc.1
      have hb0 : 0 ≤ g % (w - 1) := Int.emod_nonneg _ (by omega)
      have hb1 : g % (w - 1) < w - 1 := Int.emod_lt_of_pos _ (by omega)
      have hp0 : 0 ≤ g / (w - 1) * w := Int.mul_nonneg ha0 (by omega)
      have hp1 : g / (w - 1) * w ≤ 23 * 4 := Int.mul_le_mul (by omega) (by omega) (by omega) (by omega)
      rw [if_neg hne, Int.tmod_eq_emod_of_nonneg hc.1, Int.tdiv_eq_ediv_of_nonneg hc.1, wrap64_id (x := g / (w - 1)) (by omega) (by omega), wrap64_id (x := g / (w - 1) * w) (by omega) (by omega), wrap64_id (x := g / (w - 1) * w + g % (w - 1)) (by omega) (by omega), wrap64_id (by omega) (by omega)]
    · rw [if_neg hlt, if_pos (by omega)]
      rw [wrap64_id (x := g - (w - 1) * h) (by omega) (by omega), wrap64_id (by omega) (by omega)]
  · rw [if_neg hc, if_neg (by simpa using hc)]
end Go.Proofs.Ytoohcdfokejkdaa.P
namespace Go.Proofs.Ytoohcdfokejkdaa.P
open Go.RowKit Go.Proofs.YtoohcdfokejkdaaW.PrintWords
set_option linter.unusedVariables false
set_option linter.unusedSimpArgs false

/-- How many perfect mazes have all gaps of a open and none of b. -/
def totN (w h : Int) (a b : Nat) : Nat := trees (ends w h) (cellsN w h) (gapsN w h) a b
theorem totN_le (w h : Int) (a b : Nat) : totN w h a b ≤ 16777216 := by
  have h1 := trees_le (e := ends w h) (V := cellsN w h) (E := gapsN w h) a b
  have h2 : 2 ^ gapsN w h ≤ 2 ^ 24 := Nat.pow_le_pow_right (by decide) (gapsN_le w h)
  unfold totN
  omega
/-- The place of a cell's part. -/
def plN (w h : Int) (c x : Nat) : Nat := plc (ends w h) (gapsN w h) c x
def rowsZ (n i : Nat) : List (List Int) := (List.range n).map fun r => if r < i then dlist n (fun _ => 0) else []
theorem rowsZ_len (n i : Nat) : (rowsZ n i).length = n := by simp [rowsZ]
theorem rowsZ_get {n i r : Nat} (h : r < (rowsZ n i).length) : (rowsZ n i)[r] = if r < i then dlist n (fun _ => 0) else [] := by
  have h2 : r < ((List.range n).map fun r => if r < i then dlist n (fun _ => 0) else []).length := h
  show ((List.range n).map fun r => if r < i then dlist n (fun _ => 0) else [])[r] = _
  rw [List.getElem_map, List.getElem_range]
theorem rowsZ_set {n i : Nat} (h : i < n) : (rowsZ n i).set i (dlist n fun _ => 0) = rowsZ n (i + 1) := by
  apply List.ext_getElem
  · simp [rowsZ_len]
  · intro r h1 h2
    rw [List.getElem_set, rowsZ_get h2]
    by_cases e : i = r
    · rw [if_pos e, if_pos (by omega)]
    · rw [if_neg e, rowsZ_get]
      by_cases e2 : r < i
      · rw [if_pos e2, if_pos (by omega)]
      · rw [if_neg e2, if_neg (by omega)]
theorem rowsZ_zero (n : Nat) : List.replicate n ([] : List Int) = rowsZ n 0 := by
  apply List.ext_getElem
  · simp [rowsZ]
  · intro i h1 h2
    rw [rowsZ_get h2]
    simp
theorem rowsZ_all (n : Nat) : rowsZ n n = mat n n fun _ _ => 0 := by
  apply List.ext_getElem
  · simp [rowsZ_len, mat_len]
  · intro i h1 h2
    have : i < n := by rwa [rowsZ_len] at h1
    rw [rowsZ_get h1, mat_get h2, if_pos this]
theorem mat_four {w h : Int} {c b g n A B V : Nat} {f : Nat → Nat → Int} {R : Int} {P : Nat → Int} (hB : Bd f g) (hg : g ≤ 24) (p1 : A < n) (p2 : B < n)
    (ih : Ev (fun k => impl_CountFixed.l2 k c b (dlist V P) (mat n n (put (put (put (put f A A (f A A + 1)) B B (put f A A (f A A + 1) B B + 1)) A B (put (put f A A (f A A + 1)) B B (put f A A (f A A + 1) B B + 1) A B - 1)) B A
      (put (put (put f A A (f A A + 1)) B B (put f A A (f A A + 1) B B + 1)) A B (put (put f A A (f A A + 1)) B B (put f A A (f A A + 1) B B + 1) A B - 1) B A - 1))) ((g + 1 : Nat) : Int) w h) R) :
    Ev (fun k => if 0 ≤ (A : Int) then if (A : Int) < ((mat n n f).length : Int) then if (A : Int) < ((rd_L2 (mat n n f) (A : Int)).length : Int) then
      (some ((mat n n f).set A ((rd_L2 (mat n n f) (A : Int)).set A (wrap64 (rd (rd_L2 (mat n n f) (A : Int)) (A : Int) + 1))))).bind fun y133 =>
      if 0 ≤ (B : Int) then if (B : Int) < ((mat n n f).length : Int) then if (B : Int) < ((rd_L2 y133 (B : Int)).length : Int) then
      (some (y133.set B ((rd_L2 y133 (B : Int)).set B (wrap64 (rd (rd_L2 y133 (B : Int)) (B : Int) + 1))))).bind fun y138 =>
      if (B : Int) < ((rd_L2 y138 (A : Int)).length : Int) then
      (some (y138.set A ((rd_L2 y138 (A : Int)).set B (wrap64 (rd (rd_L2 y138 (A : Int)) (B : Int) - 1))))).bind fun y143 =>
      if (A : Int) < ((rd_L2 y143 (B : Int)).length : Int) then
        impl_CountFixed.l2 k c b (dlist V P) (y143.set B ((rd_L2 y143 (B : Int)).set A (wrap64 (rd (rd_L2 y143 (B : Int)) (A : Int) - 1)))) ((g + 1 : Nat) : Int) w h
      else none else none else none else none else none else none else none else none) R := by
  have b0 : 0 ≤ (g : Int) := by omega
  have v1 := hB A A
  have hB1 := bd_put (a := A) (b := A) (v := f A A + 1) hB b0 (by omega) (by omega)
  have v2 := hB1 B B
  have hB2 := bd_put (a := B) (b := B) (v := put f A A (f A A + 1) B B + 1) hB1 (by omega) (by omega) (by omega)
  have v3 := hB2 A B
  have hB3 := bd_put (a := A) (b := B) (v := put (put f A A (f A A + 1)) B B (put f A A (f A A + 1) B B + 1) A B - 1) hB2 (by omega) (by omega) (by omega)
  refine Ev.tt (by omega) (Ev.tt (by rw [mat_len]; omega) (Ev.tt (by rw [rd_mat p1, dlist_length]; omega) ?_))
  refine Ev.bnd0 (congrArg some (mat_inc hB (by omega) p1 p1)) ?_
  refine Ev.tt (by omega) (Ev.tt (by rw [mat_len]; omega) (Ev.tt (by rw [rd_mat p2, dlist_length]; omega) ?_))
  refine Ev.bnd0 (congrArg some (mat_inc hB1 (by omega) p2 p2)) ?_
  refine Ev.tt (by rw [rd_mat p1, dlist_length]; omega) ?_
  refine Ev.bnd0 (congrArg some (mat_dec hB2 (by omega) p1 p2)) ?_
  refine Ev.tt (by rw [rd_mat p2, dlist_length]; omega) ?_
  rw [mat_dec hB3 (by omega) p2 p1]
  exact ih
section
variable {w h : Int} {c b : Nat} (hg : gridOk w h = true) (hc : c < 2 ^ gapsN w h) (hb : b < 2 ^ gapsN w h)
include hg hc hb
omit hg hc hb in
theorem plN_lt {x : Nat} (hx : x < cellsN w h) : plN w h c x < partsN w h c := plc_lt hx
omit hg in
theorem cf_l2 {R : Int} (next : Ev (fun k => (impl_without.f k (mat (partsN w h c) (partsN w h c) (pm (ends w h) (gapsN w h) (plN w h c) (und c b))) 0).bind fun t149 => (impl_determinant.f k t149).bind fun t152 => some t152) R) :
    ∀ d g : Nat, g + d = gapsN w h → Ev (fun k => impl_CountFixed.l2 k c b (dlist (cellsN w h) fun x => (plN w h c x : Nat)) (mat (partsN w h c) (partsN w h c) (pm (ends w h) g (plN w h c) (und c b))) g w h) R
  | 0, g, hd => by
    have hcc := gapsN_cast w h
    obtain rfl : g = gapsN w h := by omega
    refine Ev.step (fun _ => impl_CountFixed.l2.eq_2 ..) (Ev.bnd0 (impl_CountGaps_eq w h) (Ev.ff (by omega) next))
  | d + 1, g, hd => by
    have hcc := gapsN_cast w h
    have h24 := gapsN_le w h
    have hgg : g < gapsN w h := by omega
    have hcs := open_small hc
    have hbs := open_small hb
    obtain ⟨e1, e2, e3⟩ := ends_facts hgg
    have hor : (c ||| b) < 2 ^ gapsN w h := Nat.or_lt_two_pow hc hb
    have hos := open_small hor
    have ih := cf_l2 next d (g + 1) (by omega)
    have p1 : plN w h c (ends w h g).1 < partsN w h c := plN_lt (by omega)
    have p2 : plN w h c (ends w h g).2 < partsN w h c := plN_lt e3
    refine Ev.step (fun _ => impl_CountFixed.l2.eq_2 ..) (Ev.bnd0 (impl_CountGaps_eq w h) (Ev.tt (by omega) (Ev.tt (by omega) ?_)))
    rw [bits_or (by omega) (by omega), wsucc (by omega)]
    have hbit : (Go.bits .and .i64 (shr .i64 ((c ||| b : Nat) : Int) (g : Int)) 1 = 1) ↔ (c ||| b).testBit g = true := by
      rw [← bit_one (show (c ||| b) < 4611686018427387904 by omega) g, beq_iff_eq]
    have hun : und c b g = !(c ||| b).testBit g := by unfold und; rw [Nat.testBit_or]; cases c.testBit g <;> cases b.testBit g <;> rfl
    refine Ev.ite (fun e => ?_) (fun e => ?_)
    · rw [hbit] at e
      rw [pm_succ, if_neg (by rw [hun, e]; simp)] at ih
      exact ih
    · rw [hbit] at e
      rw [pm_succ, if_pos (by rw [hun, Bool.eq_false_iff.2 e]; rfl)] at ih
      have hB := pm_bd (ends w h) (plN w h c) (und c b) g
      rw [← four_put] at ih
      refine Ev.bnd0 (impl_EndsOf_eq w h g) ?_
      rw [e1]
      refine Ev.tt (by omega) (Ev.tt (by rw [dlist_length]; omega) (Ev.tt (by omega) (Ev.tt (by rw [dlist_length]; omega) ?_)))
      rw [rd_dlist (show (ends w h g).1 < cellsN w h by omega), rd_dlist e3, Int.toNat_natCast, Int.toNat_natCast]
      generalize plN w h c (ends w h g).1 = A at *
      generalize plN w h c (ends w h g).2 = B at *
      generalize pm (ends w h) g (plN w h c) (und c b) = f at *
      generalize partsN w h c = n at *
      exact mat_four hB (by omega) p1 p2 ih
/-- The determinant of what is left is the number of perfect mazes. -/
theorem cf_det (hf : pop (gapsN w h) c + partsN w h c = cellsN w h) (hd : ∀ i, c.testBit i = true → b.testBit i = false) : Ev (fun k => (impl_without.f k (mat (partsN w h c) (partsN w h c) (pm (ends w h) (gapsN w h) (plN w h c) (und c b))) 0).bind fun t149 => (impl_determinant.f k t149).bind fun t152 => some t152) ((totN w h c b : Nat) : Int) := by
  have hV := cells_pos hg
  have hp : 0 < partsN w h c := parts_pos hc (by omega)
  have h16 := partsN_le w h c
  have htot := trees_place (gr_grid w h) hV hc hb hd hf
  obtain ⟨n, hn⟩ : ∃ n, partsN w h c = n + 1 := ⟨partsN w h c - 1, by omega⟩
  have hw := without_ev (mat (partsN w h c) (partsN w h c) (pm (ends w h) (gapsN w h) (plN w h c) (und c b))) 0 (by rw [mat_len]; omega) (fun row hr => by
    unfold mat at hr
    obtain ⟨i, _, rfl⟩ := List.mem_map.1 hr
    rw [dlist_length]
    omega)
  refine Ev.bind hw ?_
  rw [hn, minor_mat0]
  have hrow : ∀ r : Nat, r < n → (rd_L2 (mat n n fun i j => pm (ends w h) (gapsN w h) (plN w h c) (und c b) (i + 1) (j + 1)) (r : Nat)).length = n := fun r hr => by rw [rd_mat hr, dlist_length]
  refine Ev.bind (impl_det_ev (m := mat n n fun i j => pm (ends w h) (gapsN w h) (plN w h c) (und c b) (i + 1) (j + 1)) (n := n) (by rw [mat_len]) (by omega) hrow) (Ev.ret ?_)
  rw [Ds_full, dt_congr (B := fun i j => pm (ends w h) (gapsN w h) (plc (ends w h) (gapsN w h) c) (und c b) (i + 1) (j + 1)) (fun i j hi hj => by unfold ent; rw [rd_mat hi, rd_dlist hj]; rfl)]
  have hpn : parts (ends w h) (cellsN w h) (gapsN w h) c - 1 = n := by unfold partsN at hn; omega
  rw [hpn] at htot
  have hle := totN_le w h c b
  unfold totN at hle ⊢
  rw [← htot, wrap64_id (by omega) (by omega)]
omit hg hb hc in
theorem plc_first {x : Nat} (hl : labN w h c x = x) : plN w h c x = cnt (fun z => lab (ends w h) c (gapsN w h) z == z) x := by
  unfold plN plc
  unfold labN at hl
  rw [hl]
omit hg hb hc in
theorem plc_lab (x : Nat) : plN w h c (labN w h c x) = plN w h c x := by
  unfold plN plc labN
  rw [lab_lab]
omit hg hc hb in
theorem cf_l1 {R : Int} (L : List Int) (next : Ev (fun k => impl_CountFixed.l2 k c b L (mat (partsN w h c) (partsN w h c) fun _ _ => 0) 0 w h) R) :
    ∀ d i : Nat, i + d = partsN w h c → Ev (fun k => impl_CountFixed.l1 k c b L (partsN w h c : Nat) (rowsZ (partsN w h c) i) (partsN w h c : Nat) i w h) R
  | 0, i, hd => by
    refine Ev.step (fun _ => impl_CountFixed.l1.eq_2 ..) (Ev.ff (by omega) ?_)
    rw [show i = partsN w h c by omega, rowsZ_all]
    exact next
  | d + 1, i, hd => by
    have h16 := partsN_le w h c
    refine Ev.step (fun _ => impl_CountFixed.l1.eq_2 ..) (Ev.tt (by omega) (Ev.tt (by omega) (Ev.tt (by omega) (Ev.tt (by omega) (Ev.tt (by rw [rowsZ_len]; omega) ?_)))))
    rw [Int.toNat_natCast, Int.toNat_natCast, zeros_dlist, rowsZ_set (by omega), wsucc (by omega)]
    exact cf_l1 L next d (i + 1) (by omega)
omit hb in
theorem cf_l0 {R : Int} (next : Ev (fun k => impl_CountFixed.l1 k c b (dlist (cellsN w h) fun x => (plN w h c x : Nat)) (partsN w h c : Nat) (rowsZ (partsN w h c) 0) (partsN w h c : Nat) 0 w h) R) :
    ∀ d i : Nat, i + d = cellsN w h → Ev (fun k => impl_CountFixed.l0 k c b (dlist (cellsN w h) fun x => if x < i then (plN w h c x : Nat) else 0) (cnt (fun z => lab (ends w h) c (gapsN w h) z == z) i : Nat) (cellsN w h : Nat) i w h w h c) R
  | 0, i, hd => by
    have h16 := partsN_le w h c
    obtain rfl : i = cellsN w h := by omega
    have e1 : (dlist (cellsN w h) fun x => if x < cellsN w h then (plN w h c x : Int) else 0) = dlist (cellsN w h) fun x => (plN w h c x : Nat) := by
      unfold dlist
      exact List.map_congr_left fun x hx => by rw [if_pos (List.mem_range.1 hx)]
    rw [e1]
    have e2 : cnt (fun z => lab (ends w h) c (gapsN w h) z == z) (cellsN w h) = partsN w h c := rfl
    rw [e2]
    refine Ev.step (fun _ => impl_CountFixed.l0.eq_2 ..) (Ev.ff (by omega) (Ev.tt (by omega) (Ev.tt (by omega) ?_)))
    rw [Int.toNat_natCast, rowsZ_zero]
    refine Ev.bnd0 rfl ?_
    rw [rowsZ_len]
    exact next
  | d + 1, i, hd => by
    have h16 := cellsN_le w h
    have hi : i < cellsN w h := by omega
    obtain ⟨e1, e2⟩ := head_is hc hi
    have ih := cf_l0 next d (i + 1) (by omega)
    have hle : labN w h c i ≤ i := lab_le _ _ _ _
    have hcl := cnt_le (fun z => lab (ends w h) c (gapsN w h) z == z) i
    have key : ∀ v : Int, v = (plN w h c i : Int) → (dlist (cellsN w h) fun x => if x < i then (plN w h c x : Int) else 0).set i v = dlist (cellsN w h) fun x => if x < i + 1 then (plN w h c x : Int) else 0 := by
      intro v hv
      rw [dlist_set hi]
      unfold dlist upd
      refine List.map_congr_left fun x _ => ?_
      by_cases q : x = i
      · subst q; rw [if_pos rfl, if_pos (by omega), hv]
      · rw [if_neg q]
        show (if x < i then (plN w h c x : Int) else 0) = _
        by_cases q2 : x < i
        · rw [if_pos q2, if_pos (by omega)]
        · rw [if_neg q2, if_neg (by omega)]
    refine Ev.step (fun _ => impl_CountFixed.l0.eq_2 ..) (Ev.tt (by omega) (Ev.bind (impl_Reached_ev hg hc hi) (Ev.tt e1 ?_)))
    rw [e2, wsucc (show i < 4611686018427387904 by omega)]
    refine Ev.ite (fun q => ?_) (fun q => ?_)
    · refine Ev.tt (by omega) (Ev.tt (by rw [dlist_length]; omega) (Ev.tt (by omega) (Ev.tt (by rw [dlist_length]; omega) ?_)))
      rw [rd_dlist (show labN w h c i < cellsN w h by omega), if_pos (show labN w h c i < i by omega), Int.toNat_natCast, key _ (by rw [plc_lab])]
      have : cnt (fun z => lab (ends w h) c (gapsN w h) z == z) (i + 1) = cnt (fun z => lab (ends w h) c (gapsN w h) z == z) i := by
        have hne : (lab (ends w h) c (gapsN w h) i == i) = false := by
          rw [beq_eq_false_iff_ne]
          intro hq
          unfold labN at q
          omega
        show cnt _ i + (lab (ends w h) c (gapsN w h) i == i).toNat = _
        rw [hne]
        rfl
      rw [this] at ih
      exact ih
    · refine Ev.tt (by omega) (Ev.tt (by rw [dlist_length]; omega) ?_)
      have hl : labN w h c i = i := by omega
      rw [Int.toNat_natCast, key _ (by rw [plc_first hl]), wsucc (by omega)]
      have : cnt (fun z => lab (ends w h) c (gapsN w h) z == z) (i + 1) = cnt (fun z => lab (ends w h) c (gapsN w h) z == z) i + 1 := by
        have heq : (lab (ends w h) c (gapsN w h) i == i) = true := by
          rw [beq_iff_eq]; exact hl
        show cnt _ i + (lab (ends w h) c (gapsN w h) i == i).toNat = _
        rw [heq]
        rfl
      rw [this] at ih
      exact ih
omit hb in
theorem impl_CountLoops_ev : Ev (fun k => impl_CountLoops.f k w h c) (((pop (gapsN w h) c : Nat) : Int) - (cellsN w h : Nat) + (partsN w h c : Nat)) := by
  have h24 := gapsN_le w h
  have hV := cellsN_cast w h
  have h16 := cellsN_le w h
  have hp := partsN_le w h c
  have hpo := pop_le (gapsN w h) c
  unfold impl_CountLoops.f
  refine Ev.bnd0 (impl_MazeOk_eq ..) (Ev.tt (mazeOk_nat hg hc) (Ev.bnd0 (impl_CountPassages_eq hg hc) (Ev.bnd0 (impl_CountCells_eq w h) (Ev.bind (impl_CountParts_ev hg hc) (Ev.ret ?_)))))
  rw [← hV, wrap64_id (x := ((pop (gapsN w h) c : Nat) : Int) - (cellsN w h : Nat)) (by omega) (by omega), wrap64_id (by omega) (by omega)]
theorem cf_j0 (hd : ∀ i, c.testBit i = true → b.testBit i = false) : Ev (fun k => impl_CountFixed.j0 k c b false w h) ((totN w h c b : Nat) : Int) := by
  have hV := cellsN_cast w h
  have h16 := cellsN_le w h
  have hno := loops_nonneg (v := cellsN w h) (gr_grid w h) c hc
  refine Ev.step (fun _ => impl_CountFixed.j0.eq_2 ..) (Ev.ff (by simp) (Ev.bind (impl_CountLoops_ev hg hc) ?_))
  refine Ev.ite (fun e => ?_) (fun e => ?_)
  · refine Ev.ret ?_
    have := trees_loops (gr_grid w h) (b := b) hc (show ¬ pop (gapsN w h) c + parts (ends w h) (cellsN w h) (gapsN w h) c = cellsN w h by unfold partsN at e; omega)
    unfold totN
    rw [this]
    rfl
  · have hf : pop (gapsN w h) c + partsN w h c = cellsN w h := by unfold partsN at e ⊢; omega
    refine Ev.bnd0 (impl_CountCells_eq w h) ?_
    rw [← hV]
    refine Ev.tt (by omega) (Ev.tt (by omega) (Ev.bnd0 rfl ?_))
    rw [Int.toNat_natCast, List.length_replicate, zeros_dlist]
    have := cf_l0 hg hc (cf_l1 _ (cf_l2 hc hb (cf_det hg hc hb hf hd) (gapsN w h) 0 (by omega)) (partsN w h c) 0 (by omega)) (cellsN w h) 0 (by omega)
    have e0 : (dlist (cellsN w h) fun x => if x < 0 then (plN w h c x : Int) else 0) = dlist (cellsN w h) fun _ => 0 := by
      unfold dlist
      exact List.map_congr_left fun x _ => by rw [if_neg (by omega)]
    rw [e0] at this
    exact this
end
end Go.Proofs.Ytoohcdfokejkdaa.P
namespace Go.Proofs.Ytoohcdfokejkdaa.P
open Go.RowKit Go.Proofs.YtoohcdfokejkdaaW.PrintWords
set_option linter.unusedVariables false
set_option linter.unusedSimpArgs false

/-- The first k rows and columns, bordered by the row i and the column j. -/
def bd (A : Nat → Nat → Int) (k i j : Nat) : Nat → Nat → Int := fun r c => A (if r < k then r else i) (if c < k then c else j)
def mnB (A : Nat → Nat → Int) (k i j : Nat) : Int := dt (k + 1) (bd A k i j)
theorem mn_zero (A : Nat → Nat → Int) (i j : Nat) : mnB A 0 i j = A i j := by
  simp [mnB, dt, sumTo, bd, sgn]
theorem mn_diag (A : Nat → Nat → Int) (k : Nat) : mnB A k k k = dt (k + 1) A := by
  refine dt_congr fun r c hr hc => ?_
  unfold bd
  rw [show (if r < k then r else k) = r by split <;> omega, show (if c < k then c else k) = c by split <;> omega]
theorem mn_row (A : Nat → Nat → Int) (k i : Nat) : ∃ f : Nat → Int, ∀ j, mnB A k i j = dt k A * A i j + sumTo k (fun l => f l * A l j) := by
  refine ⟨fun l => sgn (k - l) * dt k (er l (bd A k i 0)), fun j => ?_⟩
  unfold mnB
  simp only [dt, sumTo]
  rw [Int.add_comm]
  congr 1
  · rw [Nat.sub_self, show bd A k i j k k = A i j by simp [bd], show dt k (er k (bd A k i j)) = dt k A from dt_congr fun r c hr hc => by simp [er, bd, hr, hc]]
    simp [sgn, Int.mul_comm]
  · refine sumTo_congr fun l hl => ?_
    rw [show bd A k i j l k = A l j by simp [bd, hl], show dt k (er l (bd A k i j)) = dt k (er l (bd A k i 0)) from dt_congr fun r c hr hc => by
      by_cases h : r < l <;> simp [er, bd, hc, h]]
    grind
theorem mn_col {A : Nat → Nat → Int} {k i j : Nat} (h : j < k) : mnB A k i j = 0 := by
  unfold mnB
  rw [← dt_tr]
  refine dt_eq _ (i := j) (j := k) (by omega) (by omega) (by omega) fun c => ?_
  simp [tr, bd]
theorem dt_comb {r : Nat} (A : Nat → Nat → Int) {i : Nat} (hi : i < r) (p : Int) (f : Nat → Int) : ∀ m, m ≤ i → dt r (rp A i (fun x => p * A i x + sumTo m (fun l => f l * A l x))) = p * dt r A
  | 0, _ => by
    have h := dt_lin A hi p 0 (A i) (A i)
    rw [rp_self] at h
    rw [show (fun x => p * A i x + sumTo 0 (fun l => f l * A l x)) = fun x => p * A i x + 0 * A i x by funext x; simp [sumTo], h]
    omega
  | m + 1, hm => by
    have h := dt_lin A hi 1 (f m) (fun x => p * A i x + sumTo m (fun l => f l * A l x)) (A m)
    rw [dt_comb A hi p f m (by omega), dt_eq (rp A i (A m)) (i := i) (j := m) (by omega) hi (by omega) (fun c => by rw [rp_same, rp_ne _ (by omega)])] at h
    rw [show (fun x => p * A i x + sumTo (m + 1) (fun l => f l * A l x)) = fun x => 1 * (p * A i x + sumTo m (fun l => f l * A l x)) + f m * A m x by
      funext x; simp only [sumTo]; omega, h]
    omega
theorem syl (A : Nat → Nat → Int) (k i j : Nat) (hp : dt k A ≠ 0) : dt k A * mnB A (k + 1) i j = mnB A k k k * mnB A k i j - mnB A k i k * mnB A k k j := by
  obtain ⟨f, hf⟩ := mn_row A k k
  obtain ⟨g, hg⟩ := mn_row A k i
  have hM : ∀ l, l ≤ k → ∀ x, bd A (k + 1) i j l x = A l (if x < k + 1 then x else j) := fun l hl x => by unfold bd; rw [if_pos (show l < k + 1 by omega)]
  have hL : ∀ x, bd A (k + 1) i j (k + 1) x = A i (if x < k + 1 then x else j) := fun x => by unfold bd; rw [if_neg (show ¬ k + 1 < k + 1 by omega)]
  generalize hMM : bd A (k + 1) i j = M at *
  have e1 := dt_comb (r := k + 2) M (i := k) (by omega) (dt k A) f k (Nat.le_refl k)
  have e1' : (fun x => dt k A * M k x + sumTo k (fun l => f l * M l x)) = fun x => mnB A k k (if x < k + 1 then x else j) := by
    funext x
    rw [hf, hM k (Nat.le_refl k)]
    congr 1
    exact sumTo_congr fun l hl => by rw [hM l (by omega)]
  rw [e1'] at e1
  generalize hN : rp M k (fun x => mnB A k k (if x < k + 1 then x else j)) = N at *
  have e2 := dt_comb (r := k + 2) N (i := k + 1) (by omega) (dt k A) g k (by omega)
  have hNl : ∀ l, l ≠ k → N l = M l := fun l hl => by rw [← hN, rp_ne _ hl]
  have hNk : ∀ x, N k x = mnB A k k (if x < k + 1 then x else j) := fun x => by rw [← hN, rp_same]
  have e2' : (fun x => dt k A * N (k + 1) x + sumTo k (fun l => g l * N l x)) = fun x => mnB A k i (if x < k + 1 then x else j) := by
    funext x
    rw [hg, hNl (k + 1) (by omega), hL]
    congr 1
    exact sumTo_congr fun l hl => by rw [hNl l (by omega), hM l (by omega)]
  rw [e2'] at e2
  generalize hR : rp N (k + 1) (fun x => mnB A k i (if x < k + 1 then x else j)) = R at *
  have hRl : ∀ l, l < k → ∀ x, R l x = A l (if x < k + 1 then x else j) := fun l hl x => by rw [← hR, rp_ne _ (by omega), hNl l (by omega), hM l (by omega)]
  have hRk : ∀ x, R k x = mnB A k k (if x < k + 1 then x else j) := fun x => by rw [← hR, rp_ne _ (by omega), hNk]
  have hRi : ∀ x, R (k + 1) x = mnB A k i (if x < k + 1 then x else j) := fun x => by rw [← hR, rp_same]
  have e3 : dt (k + 2) R = dt k A * (mnB A k k k * mnB A k i j - mnB A k i k * mnB A k k j) := by
    rw [dt_lastvec]
    have z : sumTo (k + 2) (fun c => sgn (k + 1 - c) * R (k + 1) c * dt (k + 1) (ec c R)) = sumTo k (fun c => sgn (k + 1 - c) * R (k + 1) c * dt (k + 1) (ec c R)) + sgn (k + 1 - k) * R (k + 1) k * dt (k + 1) (ec k R) + sgn (k + 1 - (k + 1)) * R (k + 1) (k + 1) * dt (k + 1) (ec (k + 1) R) := rfl
    rw [z, sumTo_zero (fun c hc => by rw [hRi, if_pos (by omega), mn_col hc]; simp)]
    have u1 : dt (k + 1) (ec k R) = mnB A k k j * dt k A := by
      rw [dt_unit (ec k R) (p := k) (q := k) (Nat.le_refl k) (Nat.le_refl k) (fun c hc hne => by
        rw [show ec k R k c = R k c from if_pos (by omega), hRk, if_pos (by omega), mn_col (by omega)])]
      rw [show ec k R k k = R k (k + 1) from if_neg (by omega), hRk, if_neg (by omega), sgn_par (show (k + k) % 2 = 0 % 2 by omega)]
      rw [show dt k (er k (ec k (ec k R))) = dt k A from dt_congr fun r c hr hc => by
        rw [show er k (ec k (ec k R)) r c = R r c by simp [er, ec, hr, hc], hRl r hr, if_pos (by omega)]]
      simp [sgn]
    have u2 : dt (k + 1) (ec (k + 1) R) = mnB A k k k * dt k A := by
      rw [dt_unit (ec (k + 1) R) (p := k) (q := k) (Nat.le_refl k) (Nat.le_refl k) (fun c hc hne => by
        rw [show ec (k + 1) R k c = R k c from if_pos (by omega), hRk, if_pos (by omega), mn_col (by omega)])]
      rw [show ec (k + 1) R k k = R k k from if_pos (by omega), hRk, if_pos (by omega), sgn_par (show (k + k) % 2 = 0 % 2 by omega)]
      rw [show dt k (er k (ec k (ec (k + 1) R))) = dt k A from dt_congr fun r c hr hc => by
        rw [show er k (ec k (ec (k + 1) R)) r c = R r c by simp [er, ec, hr, hc, show c < k + 1 by omega], hRl r hr, if_pos (by omega)]]
      simp [sgn]
    rw [u1, u2, hRi, hRi, if_pos (by omega), if_neg (by omega), show k + 1 - k = 1 by omega, Nat.sub_self, show sgn 1 = -1 from rfl, show sgn 0 = 1 from rfl]
    grind
  rw [e3, e1] at e2
  have e4 : dt k A * (mnB A k k k * mnB A k i j - mnB A k i k * mnB A k k j) = dt k A * (dt k A * mnB A (k + 1) i j) := by
    rw [e2]; unfold mnB; rw [hMM]
  exact (Int.eq_of_mul_eq_mul_left hp e4).symm
/-- A sum from k on. -/
def sumFrom (k n : Nat) (f : Nat → Int) : Int := sumTo n fun j => if k ≤ j then f j else 0
/-- Off the diagonal no entry is positive, and no row sums to less than 0. -/
structure Heavy (n : Nat) (A : Nat → Nat → Int) : Prop where
  off : ∀ i j, i < n → j < n → i ≠ j → A i j ≤ 0
  row : ∀ i, i < n → 0 ≤ sumTo n (A i)
structure HeavyK (n : Nat) (A : Nat → Nat → Int) (k : Nat) : Prop where
  off : ∀ i j, k ≤ i → k ≤ j → i < n → j < n → i ≠ j → mnB A k i j ≤ 0
  row : ∀ i, k ≤ i → i < n → 0 ≤ sumFrom k n (mnB A k i)
  pos : 0 < dt k A
theorem sumTo_ge {n i : Nat} {f : Nat → Int} (hi : i < n) (h : ∀ j, j < n → j ≠ i → f j ≤ 0) : sumTo n f ≤ f i := by
  induction n with
  | zero => omega
  | succ n ih =>
    simp only [sumTo]
    by_cases e : i = n
    · subst e
      have : ∀ m, m ≤ i → sumTo m f ≤ 0 := by
        intro m
        induction m with
        | zero => intro _; exact Int.le_refl _
        | succ m ihm => intro hm; simp only [sumTo]; have := ihm (by omega); have := h m (by omega) (by omega); omega
      have := this i (Nat.le_refl i)
      omega
    · have := ih (by omega) (fun j hj hne => h j (by omega) hne)
      have := h n (by omega) (fun e' => e e'.symm)
      omega
theorem sumTo_ge2 {n i j : Nat} {f : Nat → Int} (hi : i < n) (hj : j < n) (hij : i ≠ j) (h : ∀ j, j < n → j ≠ i → f j ≤ 0) : sumTo n f ≤ f i + f j := by
  have h1 := sumTo_one (f := fun k => if k = j then 0 else f k) (g := f) hj (fun k hk hne => by simp [hne])
  have h2 := sumTo_ge (f := fun k => if k = j then 0 else f k) hi (fun k hk hne => by
    show (if k = j then 0 else f k) ≤ 0
    by_cases e : k = j
    · rw [if_pos e]; omega
    · rw [if_neg e]; exact h k hk hne)
  rw [if_pos rfl] at h1
  rw [if_neg hij] at h2
  omega
theorem HeavyK.diag {n k : Nat} {A : Nat → Nat → Int} (H : HeavyK n A k) {i : Nat} (h1 : k ≤ i) (h2 : i < n) : 0 ≤ mnB A k i i := by
  have := H.row i h1 h2
  unfold sumFrom at this
  have h3 := sumTo_ge (f := fun j => if k ≤ j then mnB A k i j else 0) h2 (fun j hj hne => by
    show (if k ≤ j then mnB A k i j else 0) ≤ 0
    split
    · rename_i hkj; exact H.off i j h1 hkj h2 hj hne.symm
    · omega)
  simp only [h1, if_true] at h3
  omega
theorem HeavyK.abs {n k : Nat} {A : Nat → Nat → Int} (H : HeavyK n A k) {i j : Nat} (h1 : k ≤ i) (h2 : i < n) (h3 : k ≤ j) (h4 : j < n) (hij : i ≠ j) : -mnB A k i i ≤ mnB A k i j := by
  have := H.row i h1 h2
  unfold sumFrom at this
  have h5 := sumTo_ge2 (f := fun j => if k ≤ j then mnB A k i j else 0) h2 h4 hij (fun j hj hne => by
    show (if k ≤ j then mnB A k i j else 0) ≤ 0
    split
    · rename_i hkj; exact H.off i j h1 hkj h2 hj hne.symm
    · omega)
  simp only [h1, h3, if_true] at h5
  omega
theorem HeavyK.start {n : Nat} {A : Nat → Nat → Int} (H : Heavy n A) : HeavyK n A 0 where
  off := fun i j _ _ hi hj hij => by rw [mn_zero]; exact H.off i j hi hj hij
  row := fun i _ hi => by
    unfold sumFrom
    simp only [mn_zero, Nat.zero_le, if_true]
    exact H.row i hi
  pos := by simp [dt]
theorem HeavyK.next {n k : Nat} {A : Nat → Nat → Int} (H : HeavyK n A k) (hk : k < n) (hp : mnB A k k k ≠ 0) : HeavyK n A (k + 1) := by
  have hd := H.diag (Nat.le_refl k) hk
  have hpos := H.pos
  have S := fun i j => syl A k i j (by omega)
  refine { off := fun i j hi hj hin hjn hij => ?_, row := fun i hi hin => ?_, pos := by rw [← mn_diag]; omega }
  · have h1 := H.off i j (by omega) (by omega) hin hjn hij
    have h2 := H.off i k (by omega) (by omega) hin hk (by omega)
    have h3 := H.off k j (by omega) (by omega) hk hjn (by omega)
    have e := S i j
    have a1 : mnB A k k k * mnB A k i j ≤ 0 := Int.mul_nonpos_of_nonneg_of_nonpos hd h1
    have a2 : 0 ≤ mnB A k i k * mnB A k k j := Int.mul_nonneg_of_nonpos_of_nonpos h2 h3
    rcases Int.lt_or_le 0 (mnB A (k + 1) i j) with hc | hc
    · have := Int.mul_pos hpos hc
      omega
    · exact hc
  · have e : dt k A * sumFrom (k + 1) n (mnB A (k + 1) i) = mnB A k k k * sumFrom k n (mnB A k i) - mnB A k i k * sumFrom k n (mnB A k k) := by
      unfold sumFrom
      rw [← sumTo_mul, ← sumTo_mul, ← sumTo_mul, Int.sub_eq_add_neg, ← sumTo_neg, ← sumTo_add]
      refine sumTo_congr fun j hj => ?_
      by_cases h1 : k + 1 ≤ j
      · rw [if_pos h1, if_pos (by omega), if_pos (by omega), S i j]; omega
      · rw [if_neg h1]
        by_cases h2 : k = j
        · subst h2
          rw [if_pos (Nat.le_refl _), if_pos (Nat.le_refl _), Int.mul_comm (mnB A k i k)]; omega
        · rw [if_neg (by omega), if_neg (by omega)]; omega
    have h1 := H.row i (by omega) hin
    have h2 := H.row k (Nat.le_refl k) hk
    have h3 := H.off i k (by omega) (by omega) hin hk (by omega)
    have a1 := Int.mul_nonneg hd h1
    have a2 : mnB A k i k * sumFrom k n (mnB A k k) ≤ 0 := Int.mul_nonpos_of_nonpos_of_nonneg h3 h2
    rcases Int.lt_or_le (sumFrom (k + 1) n (mnB A (k + 1) i)) 0 with hc | hc
    · have := Int.mul_neg_of_pos_of_neg hpos hc
      omega
    · exact hc
/-- An empty pivot: the determinant is 0. -/
theorem HeavyK.zero {n k : Nat} {A : Nat → Nat → Int} (H : HeavyK n A k) (hk : k < n) (hp : mnB A k k k = 0) : dt n A = 0 := by
  have hpos := H.pos
  have hz : ∀ j, j < n → mnB A k k j = 0 := by
    intro j hj
    by_cases h1 : j < k
    · exact mn_col h1
    · by_cases h2 : k = j
      · rw [← h2]; exact hp
      · have := H.off k j (Nat.le_refl k) (by omega) hk hj h2
        have := H.abs (Nat.le_refl k) hk (show k ≤ j by omega) hj h2
        omega
  obtain ⟨f, hf⟩ := mn_row A k k
  have h1 := dt_comb A hk (dt k A) f k (Nat.le_refl k)
  rw [dt_zero _ hk (fun c hc => by rw [rp_same, ← hf, hz c hc])] at h1
  rcases Int.mul_eq_zero.1 h1.symm with h | h
  · omega
  · exact h
/-- The diagonal bounds. -/
theorem HeavyK.step_le {n k : Nat} {A : Nat → Nat → Int} (H : HeavyK n A k) (hk : k < n) {i : Nat} (hi : k < i) (hin : i < n) : dt k A * mnB A (k + 1) i i ≤ dt (k + 1) A * mnB A k i i := by
  rw [syl A k i i (by have := H.pos; omega), ← mn_diag]
  have := Int.mul_nonneg_of_nonpos_of_nonpos (H.off i k (by omega) (by omega) hin hk (by omega)) (H.off k i (by omega) (by omega) hk hin (by omega))
  omega
/-- The product of the first k numbers of the diagonal. -/
def dprod (A : Nat → Nat → Int) : Nat → Int
  | 0 => 1
  | k + 1 => dprod A k * A k k
theorem Heavy.diag {n : Nat} {A : Nat → Nat → Int} (H : Heavy n A) {i : Nat} (hi : i < n) : 0 ≤ A i i := by
  have := H.row i hi
  have := sumTo_ge (f := A i) hi (fun j hj hne => H.off i j hi hj (Ne.symm hne))
  omega
theorem dprod_nonneg {n : Nat} {A : Nat → Nat → Int} (H : Heavy n A) : ∀ k, k ≤ n → 0 ≤ dprod A k
  | 0, _ => by simp [dprod]
  | k + 1, h => Int.mul_nonneg (dprod_nonneg H k (by omega)) (H.diag (by omega))
/-- What is kept from step to step. -/
structure Stage (n : Nat) (A : Nat → Nat → Int) (k : Nat) : Prop extends HeavyK n A k where
  ple : dt k A ≤ dprod A k
  dle : ∀ i, k ≤ i → i < n → mnB A k i i ≤ dt k A * A i i
theorem Stage.start {n : Nat} {A : Nat → Nat → Int} (H : Heavy n A) : Stage n A 0 :=
  { HeavyK.start H with ple := by simp [dt, dprod], dle := fun i _ _ => by rw [mn_zero]; simp [dt] }
theorem Stage.next {n k : Nat} {A : Nat → Nat → Int} (H : Heavy n A) (K : Stage n A k) (hk : k < n) (hp : mnB A k k k ≠ 0) : Stage n A (k + 1) := by
  have N := K.toHeavyK.next hk hp
  have hpos := K.pos
  refine { N with ple := ?_, dle := fun i hi hin => ?_ }
  · have h1 := K.dle k (Nat.le_refl k) hk
    rw [mn_diag] at h1
    have h2 := Int.mul_le_mul_of_nonneg_right K.ple (H.diag hk)
    exact Int.le_trans h1 h2
  · have h1 := K.toHeavyK.step_le hk (show k < i by omega) hin
    have h2 := K.dle i (by omega) hin
    have h3 := Int.mul_le_mul_of_nonneg_left h2 (Int.le_of_lt N.pos)
    have h4 : dt k A * mnB A (k + 1) i i ≤ dt k A * (dt (k + 1) A * A i i) := by
      refine Int.le_trans h1 (Int.le_trans h3 (Int.le_of_eq ?_))
      rw [← Int.mul_assoc, ← Int.mul_assoc, Int.mul_comm (dt (k + 1) A)]
    exact Int.le_of_mul_le_mul_left h4 hpos
theorem cube_pow : ∀ d : Nat, d ^ 3 ≤ 3 ^ d
  | 0 => by decide
  | 1 => by decide
  | 2 => by decide
  | 3 => by decide
  | d + 4 => by
    have ih := cube_pow (d + 3)
    rw [Nat.pow_succ 3 (d + 3)]
    have : (d + 4) ^ 3 ≤ (d + 3) ^ 3 * 3 := by
      have e1 : (d + 4) ^ 3 = d * d * d + 12 * (d * d) + 48 * d + 64 := by grind
      have e2 : (d + 3) ^ 3 = d * d * d + 9 * (d * d) + 27 * d + 27 := by grind
      rw [e1, e2]
      omega
    omega
theorem cube_le {a b : Nat} (h : a ^ 3 ≤ b ^ 3) : a ≤ b := by
  rcases Nat.lt_or_ge b a with h1 | h1
  · have := Nat.pow_lt_pow_left h1 (show 3 ≠ 0 by decide)
    omega
  · exact h1
theorem dprod_cube {n : Nat} {A : Nat → Nat → Int} (H : Heavy n A) : ∀ k, k ≤ n → ∃ s : Nat, sumTo k (fun l => A l l) = s ∧ (dprod A k).toNat ^ 3 ≤ 3 ^ s
  | 0, _ => ⟨0, rfl, by simp [dprod]⟩
  | k + 1, hk => by
    obtain ⟨s, h1, h2⟩ := dprod_cube H k (by omega)
    have hd := H.diag (show k < n by omega)
    obtain ⟨a, ha⟩ := Int.eq_ofNat_of_zero_le hd
    obtain ⟨p, hp⟩ := Int.eq_ofNat_of_zero_le (dprod_nonneg H k (by omega))
    refine ⟨s + a, by simp only [sumTo]; rw [h1, ha]; rfl, ?_⟩
    simp only [dprod]
    rw [hp] at h2
    rw [ha, hp, ← Int.natCast_mul, Int.toNat_natCast, Nat.mul_pow, Nat.pow_add]
    exact Nat.mul_le_mul (by simpa using h2) (cube_pow a)
theorem sumTo_mono {n m : Nat} {f : Nat → Int} (h : ∀ i, i < m → 0 ≤ f i) (hn : n ≤ m) : sumTo n f ≤ sumTo m f := by
  induction m with
  | zero => rw [Nat.le_zero.1 hn]; exact Int.le_refl _
  | succ m ih =>
    by_cases e : n = m + 1
    · rw [e]; exact Int.le_refl _
    · have := ih (fun i hi => h i (by omega)) (by omega)
      simp only [sumTo]
      have := h m (by omega)
      omega
theorem sumTo_mono1 {n m i : Nat} {f : Nat → Int} (h : ∀ i, i < m → 0 ≤ f i) (hn : n ≤ i) (hi : i < m) : sumTo n f + f i ≤ sumTo m f := by
  have h1 := sumTo_mono (f := f) (fun j hj => h j (by omega)) hn (m := i)
  have h2 := sumTo_mono (f := f) h (show i + 1 ≤ m by omega)
  simp only [sumTo] at h2
  omega
/-- Every bordered minor is small. -/
theorem Stage.small {n k : Nat} {A : Nat → Nat → Int} (H : Heavy n A) (K : Stage n A k) (hs : sumTo n (fun l => A l l) ≤ 48) {i j : Nat} (hi : k ≤ i) (hin : i < n) (hj : k ≤ j) (hjn : j < n) : -43046721 ≤ mnB A k i j ∧ mnB A k i j ≤ 43046721 := by
  have hd := H.diag hin
  have hpn := dprod_nonneg H k (by omega)
  have key : mnB A k i i ≤ 43046721 := by
    have h1 := K.dle i hi hin
    have h2 := Int.mul_le_mul_of_nonneg_right K.ple hd
    have h3 : dprod A k * A i i ≤ 43046721 := by
      obtain ⟨s, e1, e2⟩ := dprod_cube H k (by omega)
      obtain ⟨a, ha⟩ := Int.eq_ofNat_of_zero_le hd
      obtain ⟨p, hp⟩ := Int.eq_ofNat_of_zero_le hpn
      have h4 := sumTo_mono1 (f := fun l => A l l) (fun l hl => H.diag hl) hi hin
      simp only [e1, ha] at h4
      rw [hp] at e2
      have h5 : (p * a) ^ 3 ≤ 43046721 ^ 3 := by
        rw [Nat.mul_pow]
        refine Nat.le_trans (Nat.mul_le_mul (by simpa using e2) (cube_pow a)) ?_
        rw [← Nat.pow_add, show (43046721 : Nat) ^ 3 = 3 ^ 48 by decide]
        exact Nat.pow_le_pow_right (by decide) (by omega)
      have h6 := cube_le h5
      rw [ha, hp, ← Int.natCast_mul]
      omega
    omega
  have h0 := K.toHeavyK.diag hi hin
  by_cases e : i = j
  · subst e; omega
  · have := K.off i j hi hj hin hjn e
    have := K.toHeavyK.abs hi hin hj hjn e
    omega
def pB (e : Nat → Nat × Nat) (E : Nat) (P : Nat → Nat) (U : Nat → Bool) (i j : Nat) : Int := pm e E P U (i + 1) (j + 1)
theorem sumTo_dl (n p : Nat) : sumTo n (fun j => dl (j + 1) p) = if 1 ≤ p ∧ p ≤ n then 1 else 0 := by
  induction n with
  | zero => simp only [sumTo]; rw [if_neg (by omega)]
  | succ n ih =>
    simp only [sumTo]
    rw [ih]
    unfold dl
    by_cases h : n + 1 = p
    · rw [if_neg (by omega), if_pos h, if_pos (by omega)]; rfl
    · rw [if_neg h]
      by_cases h2 : 1 ≤ p ∧ p ≤ n
      · rw [if_pos h2, if_pos (by omega)]; rfl
      · rw [if_neg h2, if_neg (by omega)]; rfl
theorem sumTo_le {n : Nat} {f g : Nat → Int} (h : ∀ i, i < n → f i ≤ g i) : sumTo n f ≤ sumTo n g := by
  induction n with
  | zero => exact Int.le_refl _
  | succ n ih => simp only [sumTo]; have := ih fun i hi => h i (by omega); have := h n (by omega); omega
theorem sumTo_nonneg {n : Nat} {f : Nat → Int} (h : ∀ i, i < n → 0 ≤ f i) : 0 ≤ sumTo n f := by
  have := sumTo_le (f := fun _ => 0) (g := f) h
  rwa [sumTo_zero fun _ _ => rfl] at this
theorem sumTo_nonpos {n : Nat} {f : Nat → Int} (h : ∀ i, i < n → f i ≤ 0) : sumTo n f ≤ 0 := by
  have := sumTo_le (f := f) (g := fun _ => 0) h
  rwa [sumTo_zero (f := fun _ => 0) fun _ _ => rfl] at this
theorem sumTo_const (n : Nat) (c : Int) : sumTo n (fun _ => c) = n * c := by
  induction n with
  | zero => simp [sumTo]
  | succ n ih => simp only [sumTo]; rw [ih]; grind
theorem pm_heavy {e : Nat → Nat × Nat} {V E n : Nat} {P : Nat → Nat} {U : Nat → Bool} (hP : ∀ x, x < V → P x ≤ n) (hG : Gr e V E) : Heavy n (pB e E P U) where
  off := fun i j _ _ hij => by
    unfold pB pm
    refine sumTo_nonpos fun g _ => ?_
    split
    · unfold dl
      repeat' split
      all_goals first | omega | decide
    · omega
  row := fun i hi => by
    unfold pB pm
    rw [sumTo_comm]
    refine sumTo_nonneg fun g hg => ?_
    by_cases hU : U g = true
    · simp only [hU, if_true]
      rw [sumTo_mul, show (fun j => dl (j + 1) (P (e g).1) - dl (j + 1) (P (e g).2)) = (fun j => dl (j + 1) (P (e g).1) + (-dl (j + 1) (P (e g).2))) from funext fun j => by omega, sumTo_add, sumTo_neg, sumTo_dl, sumTo_dl]
      have h1 := hP _ (hG g hg).1
      have h2 := hP _ (hG g hg).2
      unfold dl
      repeat' split
      all_goals first | omega | decide
    · simp only [hU]
      exact sumTo_nonneg fun _ _ => Int.le_refl _
theorem pm_trace {e : Nat → Nat × Nat} {E n : Nat} {P : Nat → Nat} {U : Nat → Bool} : sumTo n (fun l => pB e E P U l l) ≤ 2 * E := by
  unfold pB pm
  rw [sumTo_comm]
  have : sumTo E (fun g => sumTo n fun l => if U g then (dl (l + 1) (P (e g).1) - dl (l + 1) (P (e g).2)) * (dl (l + 1) (P (e g).1) - dl (l + 1) (P (e g).2)) else 0) ≤ sumTo E (fun _ => 2) := by
    refine sumTo_le fun g _ => ?_
    have h : sumTo n (fun l => if U g then (dl (l + 1) (P (e g).1) - dl (l + 1) (P (e g).2)) * (dl (l + 1) (P (e g).1) - dl (l + 1) (P (e g).2)) else 0) ≤ sumTo n (fun l => dl (l + 1) (P (e g).1) + dl (l + 1) (P (e g).2)) := by
      refine sumTo_le fun l _ => ?_
      unfold dl
      repeat' split
      all_goals first | omega | decide
    rw [sumTo_add, sumTo_dl, sumTo_dl] at h
    refine Int.le_trans h ?_
    repeat' split
    all_goals omega
  rw [sumTo_const] at this
  omega
end Go.Proofs.Ytoohcdfokejkdaa.P
namespace Go.Proofs.Ytoohcdfokejkdaa.P
open Go.RowKit Go.Proofs.YtoohcdfokejkdaaW.PrintWords
set_option linter.unusedVariables false
set_option linter.unusedSimpArgs false

theorem mul_box {a b : Int} (h1 : -43046721 ≤ a ∧ a ≤ 43046721) (h2 : -43046721 ≤ b ∧ b ≤ 43046721) : -1853020188851841 ≤ a * b ∧ a * b ≤ 1853020188851841 := by
  have e : (a * b).natAbs = a.natAbs * b.natAbs := Int.natAbs_mul a b
  have l : a.natAbs * b.natAbs ≤ 43046721 * 43046721 := Nat.mul_le_mul (by omega) (by omega)
  omega
/-- The state of a step: rows above i, and row i up to j, are done. -/
def gst (A : Nat → Nat → Int) (k i j r s : Nat) : Int := if k < r ∧ k < s ∧ (r < i ∨ (r = i ∧ s < j)) then mnB A (k + 1) r s else mnB A k r s
def Good (n : Nat) (A : Nat → Nat → Int) (k i j : Nat) (F : Nat → Nat → Int) : Prop := ∀ r s, k ≤ r → r < n → k ≤ s → s < n → F r s = gst A k i j r s
section
variable {n : Nat} {A : Nat → Nat → Int} (H : Heavy n A) (htr : sumTo n (fun l => A l l) ≤ 48) (hn : n ≤ 16)
include H htr hn
theorem bar_l3 {k i : Nat} (K : Stage n A k) (hz : mnB A k k k ≠ 0) (hki : k < i) (hin : i < n) {R : Int}
    (next : ∀ F, Good n A k i n F → Ev (fun r => spec_l11Trees.l2 r n (mat n n F) (dt k A) k ((i + 1 : Nat) : Int)) R) :
    ∀ (d j : Nat) (F : Nat → Nat → Int), j + d = n → k < j → Good n A k i j F → Ev (fun r => spec_l11Trees.l3 r n (mat n n F) (dt k A) k i j) R
  | 0, j, F, hd, hkj, hF => by
    refine Ev.step (fun _ => spec_l11Trees.l3.eq_2 ..) (Ev.ff (by omega) ?_)
    rw [wsucc (by omega)]
    rw [show j = n by omega] at hF
    exact next F hF
  | d + 1, j, F, hd, hkj, hF => by
    have hj : j < n := by omega
    have hkn : k < n := by omega
    have hpos := K.pos
    refine Ev.step (fun _ => spec_l11Trees.l3.eq_2 ..) (Ev.tt (by omega) (Ev.tt (by omega) (Ev.tt (by rw [mat_len]; omega) (Ev.tt (by omega) (Ev.tt (by rw [rd_mat hin, dlist_length]; omega)
      (Ev.tt (by omega) (Ev.tt (by rw [mat_len]; omega) (Ev.tt (by rw [rd_mat hkn, dlist_length]; omega) (Ev.tt (by rw [rd_mat hin, dlist_length]; omega) (Ev.tt (by rw [rd_mat hkn, dlist_length]; omega) (Ev.ff (by omega) ?_)))))))))))
    have f1 : F i j = mnB A k i j := by rw [hF i j (by omega) hin (by omega) hj]; exact if_neg (by omega)
    have f2 : F k k = mnB A k k k := by rw [hF k k (by omega) hkn (by omega) hkn]; exact if_neg (by omega)
    have f3 : F i k = mnB A k i k := by rw [hF i k (by omega) hin (by omega) hkn]; exact if_neg (by omega)
    have f4 : F k j = mnB A k k j := by rw [hF k j (by omega) hkn (by omega) hj]; exact if_neg (by omega)
    have b1 := K.small H htr (show k ≤ i by omega) hin (show k ≤ j by omega) hj
    have b2 := K.small H htr (Nat.le_refl k) hkn (Nat.le_refl k) hkn
    have b3 := K.small H htr (show k ≤ i by omega) hin (Nat.le_refl k) hkn
    have b4 := K.small H htr (Nat.le_refl k) hkn (show k ≤ j by omega) hj
    have m1 := mul_box b1 b2
    have m2 := mul_box b3 b4
    have hsyl := syl A k i j (by omega)
    have hval : wrap64 (Int.tdiv (wrap64 ((wrap64 (F i j * F k k)) - (wrap64 (F i k * F k j)))) (dt k A)) = mnB A (k + 1) i j := by
      rw [f1, f2, f3, f4, wrap64_id (x := mnB A k i j * mnB A k k k) (by omega) (by omega), wrap64_id (x := mnB A k i k * mnB A k k j) (by omega) (by omega), wrap64_id (x := mnB A k i j * mnB A k k k - mnB A k i k * mnB A k k j) (by omega) (by omega)]
      have e : mnB A k i j * mnB A k k k - mnB A k i k * mnB A k k j = dt k A * mnB A (k + 1) i j := by rw [hsyl, Int.mul_comm (mnB A k i j)]
      rw [e, Int.mul_tdiv_cancel_left _ (by omega)]
      have K' := Stage.next H K hkn hz
      have b5 := K'.small H htr (show k + 1 ≤ i by omega) hin (show k + 1 ≤ j by omega) hj
      exact wrap64_id (by omega) (by omega)
    have hM : (mat n n F).set i ((rd_L2 (mat n n F) (i : Int)).set j (wrap64 (Int.tdiv (wrap64 ((wrap64 (rd (rd_L2 (mat n n F) (i : Int)) (j : Int) * rd (rd_L2 (mat n n F) (k : Int)) (k : Int))) - (wrap64 (rd (rd_L2 (mat n n F) (i : Int)) (k : Int) * rd (rd_L2 (mat n n F) (k : Int)) (j : Int))))) (dt k A)))) = mat n n (put F i j (mnB A (k + 1) i j)) := by
      rw [mat_put hin hj, rd_mat hin, rd_mat hkn, rd_dlist hj, rd_dlist hkn, rd_dlist hkn, rd_dlist hj, hval]
    rw [Int.toNat_natCast, Int.toNat_natCast, hM, wsucc (by omega)]
    refine bar_l3 K hz hki hin next d (j + 1) _ (by omega) (by omega) ?_
    intro r s h1 h2 h3 h4
    by_cases e : r = i ∧ s = j
    · obtain ⟨rfl, rfl⟩ := e
      have eg : gst A k r (s + 1) r s = mnB A (k + 1) r s := if_pos ⟨by omega, by omega, .inr ⟨rfl, by omega⟩⟩
      rw [eg]
      unfold put upd
      simp
    · have e0 : put F i j (mnB A (k + 1) i j) r s = F r s := by
        unfold put upd
        by_cases q : r = i
        · have : ¬ s = j := fun q2 => e ⟨q, q2⟩
          simp only [q, if_true, this, if_false]
        · simp only [q, if_false]
      rw [e0, hF r s h1 h2 h3 h4]
      unfold gst
      by_cases c1 : k < r ∧ k < s ∧ (r < i ∨ (r = i ∧ s < j))
      · rw [if_pos c1, if_pos ⟨c1.1, c1.2.1, by omega⟩]
      · rw [if_neg c1, if_neg (by omega)]
theorem bar_l2 {k : Nat} (K : Stage n A k) (hz : mnB A k k k ≠ 0) (hkn : k < n) {R : Int}
    (next : ∀ F, Good n A k n (k + 1) F → Ev (fun r => spec_l11Trees.l1 r n (mat n n F) (mnB A k k k) ((k + 1 : Nat) : Int)) R) :
    ∀ (d i : Nat) (F : Nat → Nat → Int), i + d = n → k < i → Good n A k i (k + 1) F → Ev (fun r => spec_l11Trees.l2 r n (mat n n F) (dt k A) k i) R
  | 0, i, F, hd, hki, hF => by
    obtain rfl : i = n := by omega
    refine Ev.step (fun _ => spec_l11Trees.l2.eq_2 ..) (Ev.ff (by omega) (Ev.tt (by omega) (Ev.tt (by rw [mat_len]; omega) (Ev.tt (by rw [rd_mat hkn, dlist_length]; omega) ?_))))
    have f2 : F k k = mnB A k k k := by rw [hF k k (by omega) hkn (by omega) hkn]; exact if_neg (by omega)
    rw [rd_mat hkn, rd_dlist hkn, f2, wsucc (by omega)]
    exact next F hF
  | d + 1, i, F, hd, hki, hF => by
    refine Ev.step (fun _ => spec_l11Trees.l2.eq_2 ..) (Ev.tt (by omega) ?_)
    rw [wsucc (by omega)]
    refine bar_l3 H htr hn K hz hki (by omega) (fun F' hF' => bar_l2 K hz hkn next d (i + 1) F' (by omega) (by omega) ?_) (n - (k + 1)) (k + 1) F (by omega) (by omega) hF
    intro r s h1 h2 h3 h4
    rw [hF' r s h1 h2 h3 h4]
    unfold gst
    by_cases c1 : k < r ∧ k < s ∧ (r < i ∨ (r = i ∧ s < n))
    · rw [if_pos c1, if_pos (by omega)]
    · rw [if_neg c1, if_neg (by omega)]
theorem bar_l1 : ∀ (d k : Nat) (F : Nat → Nat → Int), k + d + 1 = n → Stage n A k → Good n A k (k + 1) (k + 1) F → Ev (fun r => spec_l11Trees.l1 r n (mat n n F) (dt k A) k) (dt n A)
  | 0, k, F, hd, K, hF => by
    have hkn : k < n := by omega
    refine Ev.step (fun _ => spec_l11Trees.l1.eq_2 ..) ?_
    rw [wrap64_id (by omega) (by omega), show (n : Int) - 1 = (k : Int) by omega]
    refine Ev.ff (by omega) (Ev.ff (by omega) (Ev.tt (by omega) (Ev.tt (by rw [mat_len]; omega) (Ev.tt (by rw [rd_mat hkn, dlist_length]; omega) (Ev.ret ?_)))))
    rw [rd_mat hkn, rd_dlist hkn, hF k k (by omega) hkn (by omega) hkn]
    unfold gst
    rw [if_neg (by omega), mn_diag, show k + 1 = n by omega]
  | d + 1, k, F, hd, K, hF => by
    have hkn : k < n := by omega
    have f2 : F k k = mnB A k k k := by rw [hF k k (by omega) hkn (by omega) hkn]; exact if_neg (by omega)
    refine Ev.step (fun _ => spec_l11Trees.l1.eq_2 ..) ?_
    rw [wrap64_id (by omega) (by omega)]
    refine Ev.tt (by omega) (Ev.tt (by omega) (Ev.tt (by rw [mat_len]; omega) (Ev.tt (by rw [rd_mat hkn, dlist_length]; omega) ?_)))
    rw [rd_mat hkn, rd_dlist hkn, f2, wsucc (by omega)]
    refine Ev.ite (fun e => Ev.ret (K.toHeavyK.zero hkn e).symm) (fun e => ?_)
    have K' := Stage.next H K hkn e
    refine bar_l2 H htr hn K e hkn (fun F' hF' => ?_) (n - (k + 1)) (k + 1) F (by omega) (by omega) hF
    rw [mn_diag]
    refine bar_l1 d (k + 1) F' (by omega) K' ?_
    intro r s h1 h2 h3 h4
    rw [hF' r s (by omega) h2 (by omega) h4]
    unfold gst
    rw [if_pos ⟨by omega, by omega, .inl h2⟩, if_neg (by omega)]
omit H htr in
theorem bar_l0 {m : List (List Int)} {R : Int} (hm : m.length = n) (hrow : ∀ row ∈ m, row.length ≤ 1000) (next : Ev (fun r => spec_l11Trees.l1 r n m 1 0) R) : ∀ (d i : Nat), i + d = n → Ev (fun r => spec_l11Trees.l0 r m n (m.take i) i) R
  | 0, i, hd => by
    refine Ev.step (fun _ => spec_l11Trees.l0.eq_2 ..) (Ev.ff (by omega) ?_)
    rw [List.take_of_length_le (by omega)]
    exact next
  | d + 1, i, hd => by
    have hi : i < m.length := by omega
    have := hrow _ (List.getElem_mem hi)
    refine Ev.step (fun _ => spec_l11Trees.l0.eq_2 ..) (Ev.tt (by omega) (Ev.bnd0 rfl (Ev.tt (by omega) (Ev.tt (by omega) ?_))))
    rw [rdL_get hi, wsucc (by omega)]
    refine Ev.tt (by simp; omega) (Ev.tt (by rw [List.length_take]; omega) ?_)
    have := bar_l0 hm hrow next d (i + 1) (by omega)
    rw [List.take_succ_eq_append_getElem hi] at this
    rw [List.nil_append]
    exact this
/-- The determinant of a heavy matrix. -/
theorem l11_ev : Ev (fun r => spec_l11Trees.f r (mat n n A)) (dt n A) := by
  unfold spec_l11Trees.f
  rw [mat_len]
  have hrow : ∀ row ∈ mat n n A, row.length ≤ 1000 := fun row hr => by
    unfold mat at hr
    obtain ⟨i, _, rfl⟩ := List.mem_map.1 hr
    rw [dlist_length]
    omega
  have := @bar_l0 n hn (mat n n A) (dt n A) (mat_len ..) hrow ?_ n 0 (by omega)
  · rwa [List.take_zero] at this
  · rcases Nat.eq_zero_or_pos n with h0 | h0
    · refine Ev.step (fun _ => spec_l11Trees.l1.eq_2 ..) ?_
      rw [wrap64_id (by omega) (by omega)]
      refine Ev.ff (by omega) (Ev.tt (by omega) (Ev.ret ?_))
      rw [h0]
      rfl
    · have := bar_l1 H htr hn (n - 1) 0 A (by omega) (Stage.start H) (fun r s _ _ _ _ => by
        unfold gst
        rw [if_neg (by omega), mn_zero])
      exact this
end
end Go.Proofs.Ytoohcdfokejkdaa.P
namespace Go.Proofs.Ytoohcdfokejkdaa.P
open Go.RowKit Go.Proofs.YtoohcdfokejkdaaW.PrintWords
set_option linter.unusedVariables false
set_option linter.unusedSimpArgs false

theorem spec_EndsOf_eq (w h g : Int) : spec_EndsOf.f w h g = some (endsI w h g) := by
  unfold spec_EndsOf.f endsI
  have hr0 := gapsOf_range w h
  rw [spec_CountGaps_eq, Option.bind_some, wrap64_id (x := gapsOf w h - 1) (by omega) (by omega), l01In_eq, Option.bind_some]
  by_cases hc : 0 ≤ g ∧ g < gapsOf w h
  · rw [if_pos hc, if_pos (by simp; omega)]
    obtain ⟨hg, hgw⟩ := gapsOf_valid hc.1 hc.2
    have hgr := gridOk_iff.1 hg
    have hrr := gapsOf_range w h
    have hq0 : 0 ≤ (w - 1) * h := Int.mul_nonneg (by omega) (by omega)
    have hq1 : (w - 1) * h ≤ 3 * 4 := Int.mul_le_mul (by omega) (by omega) (by omega) (by omega)
    have hw1 : w - 1 = 0 → (w - 1) * h = 0 := fun e => by rw [e, Int.zero_mul]
    rw [spec_l02East_eq hg]
    unfold eastOf
    simp only [Option.bind_some]
    rw [wrap64_id (x := w - 1) (by omega) (by omega)]
    by_cases hlt : g < (w - 1) * h
    · rw [if_pos hlt, if_pos hlt]
      have hne : w - 1 ≠ 0 := fun e => by have := hw1 e; omega
      have ha0 : 0 ≤ g / (w - 1) := Int.ediv_nonneg hc.1 (by omega)
      have ha1 : g / (w - 1) ≤ g := Int.ediv_le_self _ hc.1
      have hb0 : 0 ≤ g % (w - 1) := Int.emod_nonneg _ (by omega)
      have hb1 : g % (w - 1) < w - 1 := Int.emod_lt_of_pos _ (by omega)
      have hp0 : 0 ≤ g / (w - 1) * w := Int.mul_nonneg ha0 (by omega)
      have hp1 : g / (w - 1) * w ≤ 23 * 4 := Int.mul_le_mul (by omega) (by omega) (by omega) (by omega)
      rw [if_neg hne, Int.tmod_eq_emod_of_nonneg hc.1, Int.tdiv_eq_ediv_of_nonneg hc.1, wrap64_id (x := g / (w - 1)) (by omega) (by omega), wrap64_id (x := g / (w - 1) * w) (by omega) (by omega), wrap64_id (x := g / (w - 1) * w + g % (w - 1)) (by omega) (by omega), wrap64_id (by omega) (by omega)]
    · rw [if_neg hlt, if_neg hlt]
      rw [wrap64_id (x := g - (w - 1) * h) (by omega) (by omega), wrap64_id (by omega) (by omega)]
  · rw [if_neg hc, if_neg (by simp; omega)]
end Go.Proofs.Ytoohcdfokejkdaa.P
namespace Go.Proofs.Ytoohcdfokejkdaa.P
open Go.RowKit Go.Proofs.YtoohcdfokejkdaaW.PrintWords
set_option linter.unusedVariables false
set_option linter.unusedSimpArgs false

theorem mat_four2 {g n A B : Nat} {f : Nat → Nat → Int} {R : Int} (G : Nat → List (List Int) → Option Int) (hB : Bd f g) (hg : g ≤ 24) (p1 : A < n) (p2 : B < n)
    (ih : Ev (fun k => G k (mat n n (put (put (put (put f A A (f A A + 1)) B B (put f A A (f A A + 1) B B + 1)) A B (put (put f A A (f A A + 1)) B B (put f A A (f A A + 1) B B + 1) A B - 1)) B A
      (put (put (put f A A (f A A + 1)) B B (put f A A (f A A + 1) B B + 1)) A B (put (put f A A (f A A + 1)) B B (put f A A (f A A + 1) B B + 1) A B - 1) B A - 1)))) R) :
    Ev (fun k => if 0 ≤ (A : Int) then if (A : Int) < ((mat n n f).length : Int) then if (A : Int) < ((rd_L2 (mat n n f) (A : Int)).length : Int) then
      (some ((mat n n f).set A ((rd_L2 (mat n n f) (A : Int)).set A (wrap64 (rd (rd_L2 (mat n n f) (A : Int)) (A : Int) + 1))))).bind fun y133 =>
      if 0 ≤ (B : Int) then if (B : Int) < ((mat n n f).length : Int) then if (B : Int) < ((rd_L2 y133 (B : Int)).length : Int) then
      (some (y133.set B ((rd_L2 y133 (B : Int)).set B (wrap64 (rd (rd_L2 y133 (B : Int)) (B : Int) + 1))))).bind fun y138 =>
      if (B : Int) < ((rd_L2 y138 (A : Int)).length : Int) then
      (some (y138.set A ((rd_L2 y138 (A : Int)).set B (wrap64 (rd (rd_L2 y138 (A : Int)) (B : Int) - 1))))).bind fun y143 =>
      if (A : Int) < ((rd_L2 y143 (B : Int)).length : Int) then
        G k (y143.set B ((rd_L2 y143 (B : Int)).set A (wrap64 (rd (rd_L2 y143 (B : Int)) (A : Int) - 1))))
      else none else none else none else none else none else none else none else none) R := by
  have b0 : 0 ≤ (g : Int) := by omega
  have v1 := hB A A
  have hB1 := bd_put (a := A) (b := A) (v := f A A + 1) hB b0 (by omega) (by omega)
  have v2 := hB1 B B
  have hB2 := bd_put (a := B) (b := B) (v := put f A A (f A A + 1) B B + 1) hB1 (by omega) (by omega) (by omega)
  have v3 := hB2 A B
  have hB3 := bd_put (a := A) (b := B) (v := put (put f A A (f A A + 1)) B B (put f A A (f A A + 1) B B + 1) A B - 1) hB2 (by omega) (by omega) (by omega)
  refine Ev.tt (by omega) (Ev.tt (by rw [mat_len]; omega) (Ev.tt (by rw [rd_mat p1, dlist_length]; omega) ?_))
  refine Ev.bnd0 (congrArg some (mat_inc hB (by omega) p1 p1)) ?_
  refine Ev.tt (by omega) (Ev.tt (by rw [mat_len]; omega) (Ev.tt (by rw [rd_mat p2, dlist_length]; omega) ?_))
  refine Ev.bnd0 (congrArg some (mat_inc hB1 (by omega) p2 p2)) ?_
  refine Ev.tt (by rw [rd_mat p1, dlist_length]; omega) ?_
  refine Ev.bnd0 (congrArg some (mat_dec hB2 (by omega) p1 p2)) ?_
  refine Ev.tt (by rw [rd_mat p2, dlist_length]; omega) ?_
  rw [mat_dec hB3 (by omega) p2 p1]
  exact ih
theorem dlist_drop1 (n : Nat) (D : Nat → Int) : (dlist (n + 1) D).drop 1 = dlist n fun i => D (i + 1) := by
  rw [← dlist_erase0]
  simp
theorem tail_l0 {n : Nat} {M : Nat → Nat → Int} {R : Int} (hn : n ≤ 1000) (next : Ev (fun k => spec_l11Trees.f k (mat n n fun i j => M (i + 1) (j + 1))) R) :
    ∀ d i : Nat, i + d = n → Ev (fun k => spec_l12Tail.l0 k ((n + 1 : Nat) : Int) (mat (n + 1) (n + 1) M) (mat i n fun i j => M (i + 1) (j + 1)) ((i + 1 : Nat) : Int)) R
  | 0, i, hd => by
    obtain rfl : i = n := by omega
    exact Ev.step (fun _ => spec_l12Tail.l0.eq_2 ..) (Ev.ff (by omega) (Ev.bind next (Ev.ret rfl)))
  | d + 1, i, hd => by
    have hi : i + 1 < n + 1 := by omega
    refine Ev.step (fun _ => spec_l12Tail.l0.eq_2 ..) (Ev.tt (by omega) (Ev.tt (by omega) (Ev.tt (by rw [mat_len]; omega) (Ev.tt (by rw [rd_mat hi, dlist_length]; omega) (Ev.tt (by rw [mat_len]; omega) ?_)))))
    rw [rd_mat hi, dlist_drop1, wsucc (by omega)]
    have := tail_l0 hn next d (i + 1) (by omega)
    rw [← mat_app (n := i)] at this
    exact this
section
variable {w h : Int} {c b : Nat} (hg : gridOk w h = true) (hc : c < 2 ^ gapsN w h) (hb : b < 2 ^ gapsN w h)
include hg hc hb
theorem l12_tail (hf : pop (gapsN w h) c + partsN w h c = cellsN w h) (hd : ∀ i, c.testBit i = true → b.testBit i = false) :
    Ev (fun k => spec_l12Tail.f k (mat (partsN w h c) (partsN w h c) (pm (ends w h) (gapsN w h) (plN w h c) (und c b))) (partsN w h c : Nat)) ((totN w h c b : Nat) : Int) := by
  have hV := cells_pos hg
  have hp : 0 < partsN w h c := parts_pos hc (by omega)
  have h16 := partsN_le w h c
  have h24 := gapsN_le w h
  have htot := trees_place (gr_grid w h) hV hc hb hd hf
  obtain ⟨n, hn⟩ : ∃ n, partsN w h c = n + 1 := ⟨partsN w h c - 1, by omega⟩
  have hH : Heavy n (pB (ends w h) (gapsN w h) (plN w h c) (und c b)) := pm_heavy (V := cellsN w h) (fun x hx => by
    have : plN w h c x < partsN w h c := plN_lt hx
    omega) (gr_grid w h)
  have htr := pm_trace (e := ends w h) (E := gapsN w h) (n := n) (P := plN w h c) (U := und c b)
  have h11 := l11_ev hH (by omega) (by omega)
  have hpn : parts (ends w h) (cellsN w h) (gapsN w h) c - 1 = n := by unfold partsN at hn; omega
  rw [hpn] at htot
  have he : dt n (pB (ends w h) (gapsN w h) (plN w h c) (und c b)) = ((totN w h c b : Nat) : Int) := htot.symm
  rw [he] at h11
  rw [hn]
  unfold spec_l12Tail.f
  exact tail_l0 (by omega) h11 n 0 (by omega)
omit hg in
theorem l12_l3 {R : Int} (next : Ev (fun k => spec_l12Tail.f k (mat (partsN w h c) (partsN w h c) (pm (ends w h) (gapsN w h) (plN w h c) (und c b))) (partsN w h c : Nat)) R) :
    ∀ d g : Nat, g + d = gapsN w h → Ev (fun k => spec_l12Trees.l3 k ((c ||| b : Nat) : Int) (dlist (cellsN w h) fun x => (plN w h c x : Nat)) (partsN w h c : Nat) (mat (partsN w h c) (partsN w h c) (pm (ends w h) g (plN w h c) (und c b))) g w h) R
  | 0, g, hd => by
    have hcc := gapsN_cast w h
    obtain rfl : g = gapsN w h := by omega
    exact Ev.step (fun _ => spec_l12Trees.l3.eq_2 ..) (Ev.bnd0 (spec_CountGaps_eq w h) (Ev.ff (by omega) (Ev.bind next (Ev.ret rfl))))
  | d + 1, g, hd => by
    have hcc := gapsN_cast w h
    have h24 := gapsN_le w h
    have hgg : g < gapsN w h := by omega
    obtain ⟨e1, e2, e3⟩ := ends_facts hgg
    have hor : (c ||| b) < 2 ^ gapsN w h := Nat.or_lt_two_pow hc hb
    have hos := open_small hor
    have ih := l12_l3 next d (g + 1) (by omega)
    have p1 : plN w h c (ends w h g).1 < partsN w h c := plN_lt (by omega)
    have p2 : plN w h c (ends w h g).2 < partsN w h c := plN_lt e3
    have hun : und c b g = !(c ||| b).testBit g := by unfold und; rw [Nat.testBit_or]; cases c.testBit g <;> cases b.testBit g <;> rfl
    refine Ev.step (fun _ => spec_l12Trees.l3.eq_2 ..) (Ev.bnd0 (spec_CountGaps_eq w h) (Ev.tt (by omega) (Ev.bnd0 (spec_EndsOf_eq w h g) (Ev.bnd0 (spec_l03Bit_eq hos (by omega)) ?_))))
    rw [openI_nat', wsucc (by omega), e1]
    refine Ev.ite (fun e => ?_) (fun e => ?_)
    · rw [pm_succ, if_neg (by rw [hun, e]; simp)] at ih
      exact ih
    · refine Ev.tt (by omega) (Ev.tt (by rw [dlist_length]; omega) (Ev.tt (by omega) (Ev.tt (by rw [dlist_length]; omega) ?_)))
      rw [rd_dlist (show (ends w h g).1 < cellsN w h by omega), rd_dlist e3]
      refine Ev.ite (fun e4 => ?_) (fun e4 => ?_)
      · rw [pm_same (show plN w h c (ends w h g).1 = plN w h c (ends w h g).2 by omega)] at ih
        exact ih
      · rw [pm_succ, if_pos (by rw [hun, Bool.eq_false_iff.2 e]; rfl)] at ih
        have hB := pm_bd (ends w h) (plN w h c) (und c b) g
        rw [← four_put] at ih
        rw [Int.toNat_natCast, Int.toNat_natCast]
        generalize hAA : plN w h c (ends w h g).1 = A at *
        generalize hBB : plN w h c (ends w h g).2 = B at *
        generalize pm (ends w h) g (plN w h c) (und c b) = f at *
        exact mat_four2 (fun k M => spec_l12Trees.l3 k ((c ||| b : Nat) : Int) (dlist (cellsN w h) fun x => (plN w h c x : Nat)) (partsN w h c : Nat) M ((g + 1 : Nat) : Int) w h) hB (by omega) p1 p2 ih
omit hg hc hb in
theorem l12_l2 {R : Int} (L : List Int) (next : Ev (fun k => spec_l12Trees.l3 k ((c ||| b : Nat) : Int) L (partsN w h c : Nat) (mat (partsN w h c) (partsN w h c) fun _ _ => 0) 0 w h) R) :
    ∀ d i : Nat, i + d = partsN w h c → Ev (fun k => spec_l12Trees.l2 k ((c ||| b : Nat) : Int) L (partsN w h c : Nat) (mat i (partsN w h c) fun _ _ => 0) i w h) R
  | 0, i, hd => by
    obtain rfl : i = partsN w h c := by omega
    exact Ev.step (fun _ => spec_l12Trees.l2.eq_2 ..) (Ev.ff (by omega) next)
  | d + 1, i, hd => by
    have h16 := partsN_le w h c
    refine Ev.step (fun _ => spec_l12Trees.l2.eq_2 ..) (Ev.tt (by omega) (Ev.tt (by omega) (Ev.tt (by omega) (Ev.tt (by rw [mat_len]; omega) ?_))))
    rw [Int.toNat_natCast, zeros_dlist, wsucc (by omega)]
    have := l12_l2 L next d (i + 1) (by omega)
    rw [← mat_app (n := i)] at this
    exact this
end
section
variable {w h : Int} {c : Nat} (hc : c < 2 ^ gapsN w h) {P : Nat → Int} (hP : ∀ x y, x < cellsN w h → y < cellsN w h → (P x = P y ↔ labN w h c x = labN w h c y))
include hc hP
/-- The places while cell i is looked up. -/
def plst (w h : Int) (c i j x : Nat) : Int := if x < i then (plN w h c x : Nat) else if x = i then (if labN w h c i < j then (plN w h c i : Nat) else -1) else 0
omit hc in
theorem l12_l1 {X R : Int} {i n : Nat} (hi : i < cellsN w h)
    (next : Ev (fun k => spec_l12Trees.l1 k X (dlist (cellsN w h) P) (dlist (cellsN w h) (plst w h c i i)) n i i w h) R) :
    ∀ d j : Nat, j + d = i → Ev (fun k => spec_l12Trees.l1 k X (dlist (cellsN w h) P) (dlist (cellsN w h) (plst w h c i j)) n i j w h) R
  | 0, j, hd => by
    rw [show j = i by omega]
    exact next
  | d + 1, j, hd => by
    have h16 := cellsN_le w h
    have hj : j < cellsN w h := by omega
    refine Ev.step (fun _ => spec_l12Trees.l1.eq_2 ..) (Ev.tt (by omega) (Ev.tt (by omega) (Ev.tt (by rw [dlist_length]; omega) (Ev.tt (by omega) (Ev.tt (by rw [dlist_length]; omega) ?_)))))
    rw [rd_dlist hj, rd_dlist hi, wsucc (by omega)]
    have ih := l12_l1 hi next d (j + 1) (by omega)
    refine Ev.ite (fun e => Ev.tt (by rw [dlist_length]; omega) (Ev.tt (by rw [dlist_length]; omega) ?_)) (fun e => ?_)
    · have hl := (hP j i hj hi).1 e
      have hle : labN w h c j ≤ j := lab_le _ _ _ _
      have hpl : plN w h c j = plN w h c i := plc_eq.2 hl
      rw [rd_dlist hj, Int.toNat_natCast, dlist_set hi]
      have e0 : dlist (cellsN w h) (upd (plst w h c i j) i (plst w h c i j j)) = dlist (cellsN w h) (plst w h c i (j + 1)) := by
        unfold dlist upd
        refine List.map_congr_left fun x _ => ?_
        by_cases q : x = i
        · subst q
          rw [if_pos rfl]
          unfold plst
          rw [if_pos (by omega), if_neg (by omega), if_pos rfl, if_pos (by omega), hpl]
        · rw [if_neg q]
          unfold plst
          by_cases q2 : x < i
          · rw [if_pos q2, if_pos q2]
          · rw [if_neg q2, if_neg q, if_neg q2, if_neg q]
      rw [e0]
      exact ih
    · have hne : labN w h c i ≠ j := by
        intro q
        apply e
        rw [hP j i hj hi, ← q]
        exact lab_lab _ _ _ _
      have e0 : dlist (cellsN w h) (plst w h c i j) = dlist (cellsN w h) (plst w h c i (j + 1)) := by
        unfold dlist plst
        refine List.map_congr_left fun x _ => ?_
        by_cases q2 : x < i
        · rw [if_pos q2, if_pos q2]
        · rw [if_neg q2, if_neg q2]
          by_cases q : x = i
          · rw [if_pos q, if_pos q]
            by_cases q3 : labN w h c i < j
            · rw [if_pos q3, if_pos (by omega)]
            · rw [if_neg q3, if_neg (by omega)]
          · rw [if_neg q, if_neg q]
      rw [e0]
      exact ih
omit hc in
theorem l12_l0 {X R : Int} (next : Ev (fun k => spec_l12Trees.l2 k X (dlist (cellsN w h) fun x => (plN w h c x : Nat)) (partsN w h c : Nat) [] 0 w h) R) :
    ∀ d i : Nat, i + d = cellsN w h → Ev (fun k => spec_l12Trees.l0 k X (dlist (cellsN w h) P) (dlist (cellsN w h) fun x => if x < i then (plN w h c x : Nat) else 0) (cnt (fun z => lab (ends w h) c (gapsN w h) z == z) i : Nat) i w h) R
  | 0, i, hd => by
    obtain rfl : i = cellsN w h := by omega
    have e1 : (dlist (cellsN w h) fun x => if x < cellsN w h then (plN w h c x : Int) else 0) = dlist (cellsN w h) fun x => (plN w h c x : Nat) := by
      unfold dlist
      exact List.map_congr_left fun x hx => by rw [if_pos (List.mem_range.1 hx)]
    rw [e1]
    exact Ev.step (fun _ => spec_l12Trees.l0.eq_2 ..) (Ev.ff (by rw [dlist_length]; omega) next)
  | d + 1, i, hd => by
    have h16 := cellsN_le w h
    have hi : i < cellsN w h := by omega
    have hle : labN w h c i ≤ i := lab_le _ _ _ _
    have hcl := cnt_le (fun z => lab (ends w h) c (gapsN w h) z == z) i
    have ih := l12_l0 next d (i + 1) (by omega)
    refine Ev.step (fun _ => spec_l12Trees.l0.eq_2 ..) (Ev.tt (by rw [dlist_length]; omega) (Ev.tt (by omega) (Ev.tt (by rw [dlist_length]; omega) ?_)))
    rw [Int.toNat_natCast, dlist_set hi]
    have e0 : dlist (cellsN w h) (upd (fun x => if x < i then (plN w h c x : Int) else 0) i (-1)) = dlist (cellsN w h) (plst w h c i 0) := by
      unfold dlist upd plst
      refine List.map_congr_left fun x _ => ?_
      by_cases q : x = i
      · subst q; rw [if_pos rfl, if_neg (by omega), if_pos rfl, if_neg (by omega)]
      · rw [if_neg q]
        show (if x < i then (plN w h c x : Int) else 0) = _
        by_cases q2 : x < i
        · rw [if_pos q2, if_pos q2]
        · rw [if_neg q2, if_neg q2, if_neg q]
    rw [e0]
    refine l12_l1 hP hi ?_ i 0 (by omega)
    refine Ev.step (fun _ => spec_l12Trees.l1.eq_2 ..) (Ev.ff (by omega) (Ev.tt (by omega) (Ev.tt (by rw [dlist_length]; omega) ?_)))
    rw [rd_dlist hi, wsucc (show i < 4611686018427387904 by omega)]
    have hv : plst w h c i i i = if labN w h c i < i then (plN w h c i : Int) else -1 := by
      unfold plst
      rw [if_neg (by omega), if_pos rfl]
    rw [hv]
    have key : ∀ v : Int, v = (plN w h c i : Int) → dlist (cellsN w h) (upd (plst w h c i i) i v) = dlist (cellsN w h) fun x => if x < i + 1 then (plN w h c x : Int) else 0 := by
      intro v hv
      unfold dlist upd
      refine List.map_congr_left fun x _ => ?_
      by_cases q : x = i
      · subst q; rw [if_pos rfl, if_pos (by omega), hv]
      · rw [if_neg q]
        unfold plst
        by_cases q2 : x < i
        · rw [if_pos q2, if_pos (by omega)]
        · rw [if_neg q2, if_neg q, if_neg (by omega)]
    by_cases q : labN w h c i < i
    · rw [if_pos q]
      refine Ev.ff (by omega) ?_
      have : cnt (fun z => lab (ends w h) c (gapsN w h) z == z) (i + 1) = cnt (fun z => lab (ends w h) c (gapsN w h) z == z) i := by
        have hne : (lab (ends w h) c (gapsN w h) i == i) = false := by
          rw [beq_eq_false_iff_ne]
          intro hq
          unfold labN at q
          omega
        show cnt _ i + (lab (ends w h) c (gapsN w h) i == i).toNat = _
        rw [hne]
        rfl
      rw [this] at ih
      have e5 : dlist (cellsN w h) (plst w h c i i) = dlist (cellsN w h) fun x => if x < i + 1 then (plN w h c x : Int) else 0 := by
        rw [← key _ rfl]
        unfold dlist upd
        refine List.map_congr_left fun x _ => ?_
        by_cases q3 : x = i
        · subst q3; rw [if_pos rfl, hv, if_pos q]
        · rw [if_neg q3]
      rw [e5]
      exact ih
    · rw [if_neg q]
      have hl : labN w h c i = i := by omega
      refine Ev.tt (by omega) ?_
      rw [Int.toNat_natCast, dlist_set hi, key _ (by rw [plc_first hl]), wsucc (by omega)]
      have : cnt (fun z => lab (ends w h) c (gapsN w h) z == z) (i + 1) = cnt (fun z => lab (ends w h) c (gapsN w h) z == z) i + 1 := by
        have heq : (lab (ends w h) c (gapsN w h) i == i) = true := by
          rw [beq_iff_eq]; exact hl
        show cnt _ i + (lab (ends w h) c (gapsN w h) i == i).toNat = _
        rw [heq]
        rfl
      rw [this] at ih
      exact ih
theorem l12_ev {b : Nat} (hg : gridOk w h = true) (hb : b < 2 ^ gapsN w h) (hf : pop (gapsN w h) c + partsN w h c = cellsN w h) (hd : ∀ i, c.testBit i = true → b.testBit i = false) :
    Ev (fun k => spec_l12Trees.f k w h ((c ||| b : Nat) : Int) (dlist (cellsN w h) P)) ((totN w h c b : Nat) : Int) := by
  have h16 := cellsN_le w h
  unfold spec_l12Trees.f
  rw [dlist_length]
  refine Ev.tt (by omega) (Ev.tt (by omega) ?_)
  rw [Int.toNat_natCast, zeros_dlist]
  have := l12_l0 hP (l12_l2 _ (l12_l3 hc hb (l12_tail hg hc hb hf hd) (gapsN w h) 0 (by omega)) (partsN w h c) 0 (by omega)) (cellsN w h) 0 (by omega)
  have e0 : (dlist (cellsN w h) fun x => if x < 0 then (plN w h c x : Int) else 0) = dlist (cellsN w h) fun _ => 0 := by
    unfold dlist
    exact List.map_congr_left fun x _ => by rw [if_neg (by omega)]
  rw [e0] at this
  exact this
end
end Go.Proofs.Ytoohcdfokejkdaa.P
namespace Go.Proofs.Ytoohcdfokejkdaa.P
open Go.RowKit Go.Proofs.YtoohcdfokejkdaaW.PrintWords
set_option linter.unusedVariables false
set_option linter.unusedSimpArgs false

section
variable {e : Nat → Nat × Nat} {V E : Nat}
/-- Labels P tell the parts of o; no loop; what was looked at is joined. -/
structure KInv (e : Nat → Nat × Nat) (V E : Nat) (done : Nat → Prop) (P : Nat → Int) (o : Nat) : Prop where
  lt : o < 2 ^ E
  lab : ∀ x y, x < V → y < V → (P x = P y ↔ Cn e o x y)
  fo : pop E o + parts e V E o = V
  dn : ∀ g, g < E → done g → Cn e o (e g).1 (e g).2
theorem pop_zero' (E : Nat) : pop E 0 = 0 := by
  induction E with
  | zero => rfl
  | succ m ih => simp only [pop, Nat.zero_testBit, ih]; rfl
theorem KInv.start {P : Nat → Int} (hP : ∀ x, P x = x) : KInv e V E (fun _ => False) P 0 := by
  refine ⟨Nat.two_pow_pos E, fun x y _ _ => ?_, ?_, fun _ _ h => h.elim⟩
  · rw [hP, hP, Cn_zero]
    omega
  · rw [parts_zero, pop_zero', Nat.zero_add]
theorem KInv.skip {done : Nat → Prop} {P : Nat → Int} {o g : Nat} (hG : Gr e V E) (K : KInv e V E done P o) (hg : g < E) (h : P (e g).1 = P (e g).2) : KInv e V E (fun j => done j ∨ j = g) P o :=
  ⟨K.lt, K.lab, K.fo, fun j hj hd => hd.elim (K.dn j hj) (fun h2 => by subst h2; exact (K.lab _ _ (hG j hg).1 (hG j hg).2).1 h)⟩
theorem KInv.join {done : Nat → Prop} {P : Nat → Int} {o g : Nat} (hG : Gr e V E) (K : KInv e V E done P o) (hg : g < E) (h : ¬ P (e g).1 = P (e g).2) :
    KInv e V E (fun j => done j ∨ j = g) (fun x => if P x = P (e g).2 then P (e g).1 else P x) (setB o g true) := by
  obtain ⟨g1, g2⟩ := hG g hg
  have hnc : ¬ Cn e o (e g).1 (e g).2 := fun hc => h ((K.lab _ _ g1 g2).2 hc)
  have hb : o.testBit g = false := by
    cases hb : o.testBit g
    · rfl
    · exact absurd (Cn.edge hb) hnc
  refine ⟨setB_lt true K.lt hg, fun x y hx hy => ?_, ?_, fun j hj hd => ?_⟩
  · rw [Cn_add, ← K.lab x y hx hy, ← K.lab x _ hx g1, ← K.lab _ y g2 hy, ← K.lab x _ hx g2, ← K.lab _ y g1 hy]
    show (if P x = P (e g).2 then P (e g).1 else P x) = (if P y = P (e g).2 then P (e g).1 else P y) ↔ _
    by_cases e1 : P x = P (e g).2 <;> by_cases e2 : P y = P (e g).2
    · rw [if_pos e1, if_pos e2, e1, e2]; simp
    · rw [if_pos e1, if_neg e2]
      constructor
      · intro e3; exact Or.inr (Or.inr ⟨e1, e3⟩)
      · rintro (e3 | ⟨e3, e4⟩ | ⟨_, e4⟩)
        · exact absurd (e3.symm.trans e1) e2
        · exact absurd e4.symm e2
        · exact e4
    · rw [if_neg e1, if_pos e2]
      constructor
      · intro e3; exact Or.inr (Or.inl ⟨e3, e2.symm⟩)
      · rintro (e3 | ⟨e3, _⟩ | ⟨e3, _⟩)
        · exact absurd (e3.trans e2) e1
        · exact e3
        · exact absurd e3 e1
    · rw [if_neg e1, if_neg e2]
      constructor
      · exact Or.inl
      · rintro (e3 | ⟨_, e4⟩ | ⟨e3, _⟩)
        · exact e3
        · exact absurd e4.symm e2
        · exact absurd e3 e1
  · have h1 := (parts_add (v := V) K.lt hg g1 g2).2 hnc
    have h2 := K.fo
    rw [pop_setB hg hb]
    omega
  · rcases hd with hd | rfl
    · exact Cn.mono (fun i hi => by rw [testBit_setB]; split <;> simp_all) (K.dn j hj hd)
    · have : (setB o j true).testBit j = true := setB_bit o j true
      exact Cn.edge this
end
end Go.Proofs.Ytoohcdfokejkdaa.P
namespace Go.Proofs.Ytoohcdfokejkdaa.P
open Go.RowKit Go.Proofs.YtoohcdfokejkdaaW.PrintWords
set_option linter.unusedVariables false
set_option linter.unusedSimpArgs false

section
variable {w h : Int} {c b : Nat} (hg : gridOk w h = true) (hc : c < 2 ^ gapsN w h) (hb : b < 2 ^ gapsN w h) (hd : ∀ i, c.testBit i = true → b.testBit i = false)
include hg hc hb hd
omit hg hc hb hd in
theorem join_l2 {E g : Int} {P : Nat → Int} {e1 : Nat} {old : Int} {R : Int} (he : e1 < cellsN w h) (hne : ¬ P e1 = old)
    (next : Ev (fun k => spec_CountFixed.l1 k c b E (dlist (cellsN w h) fun x => if P x = old then P e1 else P x) (wrap64 (g + 1)) w h) R) :
    ∀ d i : Nat, i + d = cellsN w h → Ev (fun k => spec_CountFixed.l2 k c b E (dlist (cellsN w h) fun x => if x < i then (if P x = old then P e1 else P x) else P x) g e1 old i w h) R
  | 0, i, hd => by
    obtain rfl : i = cellsN w h := by omega
    refine Ev.step (fun _ => spec_CountFixed.l2.eq_2 ..) (Ev.ff (by rw [dlist_length]; omega) ?_)
    have e0 : (dlist (cellsN w h) fun x => if x < cellsN w h then (if P x = old then P e1 else P x) else P x) = dlist (cellsN w h) fun x => if P x = old then P e1 else P x := by
      unfold dlist
      exact List.map_congr_left fun x hx => if_pos (List.mem_range.1 hx)
    rw [e0]
    exact next
  | d + 1, i, hd => by
    have h16 := cellsN_le w h
    have hi : i < cellsN w h := by omega
    have ih := join_l2 he hne next d (i + 1) (by omega)
    refine Ev.step (fun _ => spec_CountFixed.l2.eq_2 ..) (Ev.tt (by rw [dlist_length]; omega) (Ev.tt (by omega) ?_))
    rw [rd_dlist hi, wsucc (by omega), if_neg (show ¬ i < i by omega)]
    have step : ∀ v : Int, v = (if P i = old then P e1 else P i) → dlist (cellsN w h) (upd (fun x => if x < i then (if P x = old then P e1 else P x) else P x) i v) = dlist (cellsN w h) fun x => if x < i + 1 then (if P x = old then P e1 else P x) else P x := by
      intro v hv
      unfold dlist upd
      refine List.map_congr_left fun x _ => ?_
      by_cases q : x = i
      · subst q; rw [if_pos rfl, if_pos (by omega), hv]
      · rw [if_neg q]
        show (if x < i then (if P x = old then P e1 else P x) else P x) = _
        by_cases q2 : x < i
        · rw [if_pos q2, if_pos (show x < i + 1 by omega)]
        · rw [if_neg q2, if_neg (show ¬ x < i + 1 by omega)]
    refine Ev.ite (fun e => Ev.tt (by omega) (Ev.tt (by rw [dlist_length]; omega) ?_)) (fun e => ?_)
    · rw [rd_dlist he, Int.toNat_natCast, dlist_set hi, step _ (by
        rw [if_pos e]
        by_cases q : e1 < i
        · rw [if_pos q, if_neg hne]
        · rw [if_neg q])]
      exact ih
    · have e0 : (dlist (cellsN w h) fun x => if x < i then (if P x = old then P e1 else P x) else P x) = dlist (cellsN w h) fun x => if x < i + 1 then (if P x = old then P e1 else P x) else P x := by
        rw [← step (P i) (by rw [if_neg e])]
        unfold dlist upd
        refine List.map_congr_left fun x _ => ?_
        by_cases q : x = i
        · subst q; rw [if_pos rfl, if_neg (by omega)]
        · rw [if_neg q]
      rw [e0]
      exact ih
theorem fixed_l1 : ∀ (d g : Nat) (P : Nat → Int), g + d = gapsN w h → KInv (ends w h) (cellsN w h) (gapsN w h) (fun _ => False) P (low c g) →
    Ev (fun k => spec_CountFixed.l1 k c b (gapsOf w h) (dlist (cellsN w h) P) g w h) ((totN w h c b : Nat) : Int)
  | 0, g, P, hgd, K => by
    have hcc := gapsN_cast w h
    obtain rfl : g = gapsN w h := by omega
    rw [low_all hc] at K
    have hcs := open_small hc
    have hbs := open_small hb
    refine Ev.step (fun _ => spec_CountFixed.l1.eq_2 ..) (Ev.ff (by omega) ?_)
    rw [bits_or (by omega) (by omega)]
    refine Ev.bind (l12_ev hc (fun x y hx hy => ?_) hg hb K.fo hd) (Ev.ret rfl)
    rw [K.lab x y hx hy]
    exact (lab_iff hc x y).symm
  | d + 1, g, P, hgd, K => by
    have hcc := gapsN_cast w h
    have h24 := gapsN_le w h
    have h16 := cellsN_le w h
    have hgg : g < gapsN w h := by omega
    have hcs := open_small hc
    obtain ⟨e1, e2, e3⟩ := ends_facts hgg
    refine Ev.step (fun _ => spec_CountFixed.l1.eq_2 ..) (Ev.tt (by omega) (Ev.bnd0 (spec_l03Bit_eq hcs (by omega)) ?_))
    rw [openI_nat']
    refine Ev.ite (fun eb => ?_) (fun eb => ?_)
    · refine Ev.bnd0 (spec_EndsOf_eq w h g) ?_
      rw [e1]
      refine Ev.tt (by omega) (Ev.tt (by rw [dlist_length]; omega) (Ev.tt (by omega) (Ev.tt (by rw [dlist_length]; omega) ?_)))
      rw [rd_dlist (show (ends w h g).1 < cellsN w h by omega), rd_dlist e3]
      refine Ev.ite (fun el => Ev.ret ?_) (fun el => ?_)
      · have hcn := (K.lab _ _ (by omega) e3).1 el
        have hbg := hd g eb
        have hc' : setB c g false < 2 ^ gapsN w h := setB_lt false hc hgg
        have hu : und (setB c g false) b g = true := by unfold und; rw [setB_bit, hbg]; rfl
        have hmono : Cn (ends w h) (setB c g false) (ends w h g).1 (ends w h g).2 := hcn.mono fun i hi => by
          rw [testBit_low, Bool.and_eq_true, decide_eq_true_eq] at hi
          rw [setB_ne _ (by omega)]
          exact hi.2
        have := trees_loop (gr_grid w h) hc' hgg hu hmono
        rw [setB_off_on eb] at this
        unfold totN
        rw [this]
        rfl
      · have K' := KInv.join (gr_grid w h) K hgg el
        rw [← low_succ_set eb] at K'
        have K2 : KInv (ends w h) (cellsN w h) (gapsN w h) (fun _ => False) (fun x => if P x = P (ends w h g).2 then P (ends w h g).1 else P x) (low c (g + 1)) := ⟨K'.lt, K'.lab, K'.fo, fun _ _ h => h.elim⟩
        have ih := fixed_l1 d (g + 1) _ (by omega) K2
        have := join_l2 (w := w) (h := h) (c := c) (b := b) (E := gapsOf w h) (g := (g : Int)) (P := P) (e1 := (ends w h g).1) (old := P (ends w h g).2) (R := ((totN w h c b : Nat) : Int)) (by omega) el (by rw [wsucc (by omega)]; exact ih) (cellsN w h) 0 (by omega)
        have e0 : (dlist (cellsN w h) fun x => if x < 0 then (if P x = P (ends w h g).2 then P (ends w h g).1 else P x) else P x) = dlist (cellsN w h) P := by
          unfold dlist
          exact List.map_congr_left fun x _ => if_neg (by omega)
        rw [e0] at this
        exact this
    · rw [wsucc (by omega)]
      have hl := low_succ_not (n := c) (k := g) (Bool.eq_false_iff.2 eb)
      rw [← hl] at K
      exact fixed_l1 d (g + 1) P (by omega) K
omit hb hd hc hg in
theorem fixed_l0 {E : Int} {R : Int} (next : Ev (fun k => spec_CountFixed.l1 k c b E (dlist (cellsN w h) fun x => (x : Int)) 0 w h) R) :
    ∀ d i : Nat, i + d = cellsN w h → Ev (fun k => spec_CountFixed.l0 k c b E (dlist (cellsN w h) fun x => if x < i then (x : Int) else 0) i w h) R
  | 0, i, hd => by
    obtain rfl : i = cellsN w h := by omega
    refine Ev.step (fun _ => spec_CountFixed.l0.eq_2 ..) (Ev.ff (by rw [dlist_length]; omega) ?_)
    have e0 : (dlist (cellsN w h) fun x => if x < cellsN w h then (x : Int) else 0) = dlist (cellsN w h) fun x => (x : Int) := by
      unfold dlist
      exact List.map_congr_left fun x hx => if_pos (List.mem_range.1 hx)
    rw [e0]
    exact next
  | d + 1, i, hd => by
    have h16 := cellsN_le w h
    have hi : i < cellsN w h := by omega
    refine Ev.step (fun _ => spec_CountFixed.l0.eq_2 ..) (Ev.tt (by rw [dlist_length]; omega) (Ev.tt (by omega) ?_))
    rw [Int.toNat_natCast, dlist_set hi, wsucc (by omega)]
    have e0 : dlist (cellsN w h) (upd (fun x => if x < i then (x : Int) else 0) i (i : Int)) = dlist (cellsN w h) fun x => if x < i + 1 then (x : Int) else 0 := by
      unfold dlist upd
      refine List.map_congr_left fun x _ => ?_
      by_cases q : x = i
      · subst q; rw [if_pos rfl, if_pos (by omega)]
      · rw [if_neg q]
        show (if x < i then (x : Int) else 0) = _
        by_cases q2 : x < i
        · rw [if_pos q2, if_pos (by omega)]
        · rw [if_neg q2, if_neg (by omega)]
    rw [e0]
    exact fixed_l0 next d (i + 1) (by omega)
theorem sf_j0 : Ev (fun k => spec_CountFixed.j0 k c b (gapsOf w h) false w h) ((totN w h c b : Nat) : Int) := by
  have hV := cellsN_cast w h
  have h16 := cellsN_le w h
  refine Ev.step (fun _ => spec_CountFixed.j0.eq_2 ..) (Ev.ff (by simp) (Ev.bnd0 (spec_CountCells_eq w h) ?_))
  rw [← hV]
  refine Ev.tt (by omega) (Ev.tt (by omega) ?_)
  rw [Int.toNat_natCast, zeros_dlist]
  have K0 : KInv (ends w h) (cellsN w h) (gapsN w h) (fun _ => False) (fun x => (x : Int)) (low c 0) := by
    rw [show low c 0 = 0 by unfold low; omega]
    exact KInv.start fun x => rfl
  have := fixed_l0 (fixed_l1 hg hc hb hd (gapsN w h) 0 _ (by omega) K0) (cellsN w h) 0 (by omega)
  have e0 : (dlist (cellsN w h) fun x => if x < 0 then (x : Int) else 0) = dlist (cellsN w h) fun _ => 0 := by
    unfold dlist
    exact List.map_congr_left fun x _ => if_neg (by omega)
  rw [e0] at this
  exact this
end
/-- The number of perfect mazes with these gaps open and those shut; 0 for what is no question. -/
def cfI (w h a b : Int) : Int := if gridOk w h = true ∧ (0 ≤ a ∧ a < 2 ^ gapsN w h) ∧ (0 ≤ b ∧ b < 2 ^ gapsN w h) ∧ a.toNat &&& b.toNat = 0 then (totN w h a.toNat b.toNat : Nat) else 0
theorem cfI_nat {w h : Int} {a b : Nat} (hg : gridOk w h = true) (ha : a < 2 ^ gapsN w h) (hb : b < 2 ^ gapsN w h) (hd : ∀ i, a.testBit i = true → b.testBit i = false) : cfI w h a b = (totN w h a b : Nat) := by
  have e : a &&& b = 0 := by
    apply Nat.eq_of_testBit_eq
    intro i
    rw [Nat.testBit_and, Nat.zero_testBit]
    cases q : a.testBit i
    · rfl
    · rw [hd i q]; rfl
  unfold cfI
  have ha' : (a : Int) < 2 ^ gapsN w h := by exact_mod_cast ha
  have hb' : (b : Int) < 2 ^ gapsN w h := by exact_mod_cast hb
  rw [if_pos ⟨hg, ⟨by omega, ha'⟩, ⟨by omega, hb'⟩, by rw [Int.toNat_natCast, Int.toNat_natCast]; exact e⟩, Int.toNat_natCast, Int.toNat_natCast]
theorem and_zero {a b : Nat} (h : a &&& b = 0) (i : Nat) (hi : a.testBit i = true) : b.testBit i = false := by
  have := Nat.testBit_and a b i
  rw [h, Nat.zero_testBit, hi] at this
  simpa using this.symm
theorem cfI_range (w h a b : Int) : 0 ≤ cfI w h a b ∧ cfI w h a b ≤ 16777216 := by
  unfold cfI
  split
  · have := totN_le w h a.toNat b.toNat; omega
  · omega
theorem impl_CountFixed_ev (w h a b : Int) : Ev (fun k => impl_CountFixed.f k w h a b) (cfI w h a b) := by
  have hgr := gapsOf_range w h
  have h24 := gapsN_le w h
  have hcast := gapsN_cast w h
  have hS : wrap64 (shl .i64 1 (gapsOf w h) - 1) = 2 ^ gapsN w h - 1 := by
    have hp : (2 : Int) ^ gapsN w h = ((2 ^ gapsN w h : Nat) : Int) := by norm_cast
    have h2 : 2 ^ gapsN w h ≤ 2 ^ 24 := Nat.pow_le_pow_right (by decide) h24
    have h3 := Nat.two_pow_pos (gapsN w h)
    rw [shl_one hgr.1 hgr.2]
    have : (gapsOf w h).toNat = gapsN w h := rfl
    rw [this, hp, wrap64_id (by omega) (by omega)]
  have hp : (2 : Int) ^ gapsN w h = ((2 ^ gapsN w h : Nat) : Int) := by norm_cast
  have bad : ¬ (gridOk w h = true ∧ (0 ≤ a ∧ a < 2 ^ gapsN w h) ∧ (0 ≤ b ∧ b < 2 ^ gapsN w h) ∧ a.toNat &&& b.toNat = 0) → Ev (fun k => impl_CountFixed.j0 k a b true w h) (cfI w h a b) := by
    intro hc
    unfold cfI
    rw [if_neg hc]
    exact Ev.step (fun _ => impl_CountFixed.j0.eq_2 ..) (Ev.tt rfl (Ev.ret rfl))
  unfold impl_CountFixed.f
  refine Ev.bnd0 (impl_CountGaps_eq w h) (Ev.tt hgr.1 (Ev.bnd0 (impl_GridOk_eq w h) ?_))
  rw [hS]
  refine Ev.ite (fun hg => ?_) (fun hg => bad fun hc => hg hc.1)
  refine Ev.ite (fun q => bad fun hc => by omega) (fun q1 => Ev.ite (fun q => bad fun hc => by omega) (fun q2 => Ev.ite (fun q => bad fun hc => by omega) (fun q3 => Ev.ite (fun q => bad fun hc => by omega) (fun q4 => ?_))))
  obtain ⟨c, rfl⟩ := Int.eq_ofNat_of_zero_le (show 0 ≤ a by omega)
  obtain ⟨d, rfl⟩ := Int.eq_ofNat_of_zero_le (show 0 ≤ b by omega)
  have hc : c < 2 ^ gapsN w h := by omega
  have hd : d < 2 ^ gapsN w h := by omega
  have hcs := open_small hc
  have hds := open_small hd
  rw [bits_and (by omega) (by omega)]
  by_cases e : c &&& d = 0
  · rw [e, cfI_nat hg hc hd (and_zero e)]
    exact cf_j0 hg hc hd (and_zero e)
  · have : (((c &&& d : Nat) : Int) != 0) = true := by
      rw [bne_iff_ne]
      omega
    rw [this]
    exact bad fun hx => e (by have := hx.2.2.2; rwa [Int.toNat_natCast, Int.toNat_natCast] at this)
theorem spec_CountFixed_ev (w h a b : Int) : Ev (fun k => spec_CountFixed.f k w h a b) (cfI w h a b) := by
  have hgr := gapsOf_range w h
  have h24 := gapsN_le w h
  have hcast := gapsN_cast w h
  have hS : wrap64 (shl .i64 1 (gapsOf w h) - 1) = 2 ^ gapsN w h - 1 := by
    have hp : (2 : Int) ^ gapsN w h = ((2 ^ gapsN w h : Nat) : Int) := by norm_cast
    have h2 : 2 ^ gapsN w h ≤ 2 ^ 24 := Nat.pow_le_pow_right (by decide) h24
    have h3 := Nat.two_pow_pos (gapsN w h)
    rw [shl_one hgr.1 hgr.2]
    have : (gapsOf w h).toNat = gapsN w h := rfl
    rw [this, hp, wrap64_id (by omega) (by omega)]
  have hp : (2 : Int) ^ gapsN w h = ((2 ^ gapsN w h : Nat) : Int) := by norm_cast
  have bad : ¬ (gridOk w h = true ∧ (0 ≤ a ∧ a < 2 ^ gapsN w h) ∧ (0 ≤ b ∧ b < 2 ^ gapsN w h) ∧ a.toNat &&& b.toNat = 0) → Ev (fun k => spec_CountFixed.j0 k a b (gapsOf w h) true w h) (cfI w h a b) := by
    intro hc
    unfold cfI
    rw [if_neg hc]
    exact Ev.step (fun _ => spec_CountFixed.j0.eq_2 ..) (Ev.tt rfl (Ev.ret rfl))
  unfold spec_CountFixed.f
  refine Ev.bnd0 (spec_CountGaps_eq w h) (Ev.bnd0 (spec_GridOk_eq w h) ?_)
  refine Ev.ite (fun hg => Ev.tt hgr.1 ?_) (fun hg => bad fun hc => hg hc.1)
  rw [hS]
  refine Ev.bnd0 (l01In_eq _ _ _) (Ev.ite (fun q1 => Ev.bnd0 (l01In_eq _ _ _) (Ev.ite (fun q2 => ?_) (fun q2 => bad fun hc => q2 (decide_eq_true (by omega))))) (fun q1 => bad fun hc => q1 (decide_eq_true (by omega))))
  rw [decide_eq_true_eq] at q1 q2
  obtain ⟨c, rfl⟩ := Int.eq_ofNat_of_zero_le (show 0 ≤ a by omega)
  obtain ⟨d, rfl⟩ := Int.eq_ofNat_of_zero_le (show 0 ≤ b by omega)
  have hc : c < 2 ^ gapsN w h := by omega
  have hd : d < 2 ^ gapsN w h := by omega
  have hcs := open_small hc
  have hds := open_small hd
  rw [bits_and (by omega) (by omega)]
  by_cases e : c &&& d = 0
  · rw [e, cfI_nat hg hc hd (and_zero e)]
    exact sf_j0 hg hc hd (and_zero e)
  · have : (((c &&& d : Nat) : Int) != 0) = true := by
      rw [bne_iff_ne]
      omega
    rw [this]
    exact bad fun hx => e (by have := hx.2.2.2; rwa [Int.toNat_natCast, Int.toNat_natCast] at this)
end Go.Proofs.Ytoohcdfokejkdaa.P
namespace Go.Proofs.Ytoohcdfokejkdaa.P
open Go.RowKit Go.Proofs.YtoohcdfokejkdaaW.PrintWords Go.Proofs.YtoohcdfokejkdaaW.PrintLast Go.Proofs.YtoohcdfokejkdaaW.PrintMore
attribute [local go_sem] max2_int min2_int max_two min_two max_three min_three max_four min_four   -- for this text's walks alone
set_option linter.unusedVariables false
set_option linter.unusedSimpArgs false

/-! ### impl_CountAll: function 40 -/
/-! ### spec_CountAll: function 39 -/
/-! ### impl_MazeAt: function 44 -/
/-! ### spec_MazeAt: function 47 -/
/-! ### impl_NextMaze: function 45 -/
/-! ### spec_NextMaze: function 54 -/
end Go.Proofs.Ytoohcdfokejkdaa.P
namespace Go.Proofs.Ytoohcdfokejkdaa.P
open Go.RowKit Go.Proofs.YtoohcdfokejkdaaW.PrintWords
set_option linter.unusedVariables false
set_option linter.unusedSimpArgs false

/-- The number, from gap i on. -/
def numI (w h : Int) (o : Nat) : Nat → Nat → Int → Nat → Nat → Int
  | 0, _, s, _, _ => s
  | d + 1, i, s, c, b => if o.testBit i = true then numI w h o d (i + 1) (s + cfI w h c (b ||| 2 ^ i : Nat)) (c ||| 2 ^ i) b else numI w h o d (i + 1) s c (b ||| 2 ^ i)
theorem pow24 {i : Nat} (h : i < 24) : shl .i64 1 (i : Int) = ((2 ^ i : Nat) : Int) := by
  rw [shl_one (by omega) (by omega), Int.toNat_natCast]
  norm_cast
theorem or_small {c i : Nat} (hc : c < 16777216) (hi : i < 24) : c ||| 2 ^ i < 16777216 := by
  have h1 : 2 ^ i < 2 ^ 24 := Nat.pow_lt_pow_right (by decide) hi
  have := Nat.or_lt_two_pow (n := 24) (show c < 2 ^ 24 by omega) h1
  omega
theorem or_bits {c i : Nat} (hc : c < 16777216) (hi : i < 24) : Go.bits .or .i64 (c : Int) (shl .i64 1 (i : Int)) = ((c ||| 2 ^ i : Nat) : Int) := by
  have h1 : 2 ^ i < 2 ^ 24 := Nat.pow_lt_pow_right (by decide) hi
  rw [pow24 hi, bits_or (by omega) (by omega)]
theorem impl_num_l0 {w h : Int} {o : Nat} (ho : o < 2 ^ gapsN w h) : ∀ (d i : Nat) (s : Int) (c b : Nat), i + d = gapsN w h → 0 ≤ s → s ≤ 16777216 * (i : Int) → c < 16777216 → b < 16777216 →
    Ev (fun k => impl_NumberOf.l0 k s c b i w h o) (numI w h o d i s c b)
  | 0, i, s, c, b, hd, h0, h1, hc, hb => by
    have hcc := gapsN_cast w h
    exact Ev.step (fun _ => impl_NumberOf.l0.eq_2 ..) (Ev.bnd0 (impl_CountGaps_eq w h) (Ev.ff (by omega) (Ev.ret rfl)))
  | d + 1, i, s, c, b, hd, h0, h1, hc, hb => by
    have hcc := gapsN_cast w h
    have h24 := gapsN_le w h
    have hr := cfI_range w h c (b ||| 2 ^ i : Nat)
    have hcb := or_small hc (show i < 24 by omega)
    have hbb := or_small hb (show i < 24 by omega)
    refine Ev.step (fun _ => impl_NumberOf.l0.eq_2 ..) (Ev.bnd0 (impl_CountGaps_eq w h) (Ev.tt (by omega) (Ev.bnd0 (impl_isOpen_eq w h (open_small ho) i) ?_)))
    rw [openI_nat', or_bits hc (by omega), or_bits hb (by omega), wsucc (by omega)]
    unfold numI
    refine Ev.ite (fun e => Ev.tt (by omega) (Ev.bind (impl_CountFixed_ev ..) ?_)) (fun e => Ev.tt (by omega) ?_)
    · rw [if_pos e, wrap64_id (by omega) (by omega)]
      exact impl_num_l0 ho d (i + 1) _ _ _ (by omega) (by omega) (by omega) hcb hb
    · rw [if_neg e]
      exact impl_num_l0 ho d (i + 1) _ _ _ (by omega) (by omega) (by omega) hc hbb
theorem spec_num_l0 {w h : Int} {o : Nat} (ho : o < 2 ^ gapsN w h) : ∀ (d i : Nat) (s : Int) (c b : Nat), i + d = gapsN w h → 0 ≤ s → s ≤ 16777216 * (i : Int) → c < 16777216 → b < 16777216 →
    Ev (fun k => spec_NumberOf.l0 k s c b i w h o) (numI w h o d i s c b)
  | 0, i, s, c, b, hd, h0, h1, hc, hb => by
    have hcc := gapsN_cast w h
    exact Ev.step (fun _ => spec_NumberOf.l0.eq_2 ..) (Ev.bnd0 (spec_CountGaps_eq w h) (Ev.ff (by omega) (Ev.ret rfl)))
  | d + 1, i, s, c, b, hd, h0, h1, hc, hb => by
    have hcc := gapsN_cast w h
    have h24 := gapsN_le w h
    have hr := cfI_range w h c (b ||| 2 ^ i : Nat)
    have hcb := or_small hc (show i < 24 by omega)
    have hbb := or_small hb (show i < 24 by omega)
    refine Ev.step (fun _ => spec_NumberOf.l0.eq_2 ..) (Ev.bnd0 (spec_CountGaps_eq w h) (Ev.tt (by omega) (Ev.bnd0 (spec_l03Bit_eq (open_small ho) (by omega)) ?_)))
    rw [openI_nat', or_bits hc (by omega), or_bits hb (by omega), wsucc (by omega)]
    unfold numI
    refine Ev.ite (fun e => Ev.tt (by omega) (Ev.bind (spec_CountFixed_ev ..) ?_)) (fun e => Ev.tt (by omega) ?_)
    · rw [if_pos e, wrap64_id (by omega) (by omega)]
      exact spec_num_l0 ho d (i + 1) _ _ _ (by omega) (by omega) (by omega) hcb hb
    · rw [if_neg e]
      exact spec_num_l0 ho d (i + 1) _ _ _ (by omega) (by omega) (by omega) hc hbb
def numOf (w h o : Int) : Int := if perfI w h o = true then numI w h o.toNat (gapsN w h) 0 0 0 0 else -1
theorem impl_NumberOf_ev (w h o : Int) : Ev (fun k => impl_NumberOf.f k w h o) (numOf w h o) := by
  unfold impl_NumberOf.f numOf
  refine Ev.bind (impl_IsPerfect_all w h o) (Ev.ite (fun e => ?_) (fun e => ?_))
  · obtain ⟨hg, n, rfl, hn, hp⟩ := perfI_iff.1 e
    rw [if_pos e, Int.toNat_natCast]
    exact impl_num_l0 hn (gapsN w h) 0 0 0 0 (by omega) (by omega) (by omega) (by omega) (by omega)
  · rw [if_neg e]; exact Ev.ret rfl
theorem spec_NumberOf_ev (w h o : Int) : Ev (fun k => spec_NumberOf.f k w h o) (numOf w h o) := by
  unfold spec_NumberOf.f numOf
  refine Ev.bind (spec_IsPerfect_all w h o) (Ev.ite (fun e => ?_) (fun e => ?_))
  · obtain ⟨hg, n, rfl, hn, hp⟩ := perfI_iff.1 e
    rw [if_pos e, Int.toNat_natCast]
    exact spec_num_l0 hn (gapsN w h) 0 0 0 0 (by omega) (by omega) (by omega) (by omega) (by omega)
  · rw [if_neg e]; exact Ev.ret rfl
end Go.Proofs.Ytoohcdfokejkdaa.P
namespace Go.Proofs.Ytoohcdfokejkdaa.P
open Go.RowKit Go.Proofs.YtoohcdfokejkdaaW.PrintWords Go.Proofs.Ytoohcdfokejkdaa.Sup
set_option linter.unusedVariables false
set_option linter.unusedSimpArgs false

theorem FnExactNumberOf_pure (a0_0 a0_1 a0_2 : Int) (w0_0 : InR a0_0) (w0_1 : InR a0_1) (w0_2 : InR a0_2) : ∃ k, laws_FnExactNumberOf.f k a0_0 a0_1 a0_2 = some true := by
  refine Ev.rounds ?_
  unfold laws_FnExactNumberOf.f
  have ht : laws_toMaze.f a0_0 a0_1 a0_2 = some (a0_0, a0_1, a0_2) := rfl
  exact Ev.bnd0 ht (Ev.bind (spec_NumberOf_ev ..) (Ev.bnd0 ht (Ev.bind (impl_NumberOf_ev ..) (Ev.tt rfl (Ev.ret rfl)))))
end Go.Proofs.Ytoohcdfokejkdaa.P
namespace Go.Proofs.Ytoohcdfokejkdaa.fnExactNumberOf
open Go.ChangeShapes Go.WideShapes Go.ChangeAt Go.RowKit Go.Proofs.YtoohcdfokejkdaaW.PrintWords Go.Proofs.Ytoohcdfokejkdaa.Sup
open Go.ChangeMaps (open_string shut_string)
set_option linter.unusedVariables false
theorem own : ownKnob Try.prog.godebug = none := by kernel_rfl
theorem laidOut : laidOutB Try.prog = true := by kernel_rfl
set_option maxRecDepth 100000 in
theorem lifted (os : Os) (started : os.Started) (H : Type) (enc : TypeId × Value → H) :
    ReturnsInHanded {} Try.checked os 14 .any (Rows.fnExactNumberOfSpec.pre6 enc Try.prog Try.f14 Rows.fnExactNumberOfRow.domain false) (Rows.fnExactNumberOfSpec.post enc Try.prog Try.f14 false true false false) := by
  refine returnsInHanded_of_change_sized (C := Try.checked) own started (by kernel_rfl) Try.func14
    (ChangeSpec.witness6 (enc := enc) (C := Try.checked) false ⟨#[], #[.agg #[.int .i64 0, .int .i64 0, .int .i64 0]], []⟩ 8 (by kernel_rfl) (by kernel_rfl) (by kernel_rfl) (by kernel_rfl)) ?_
  intro W base args ds gs before hval0 hW hcnd hsz0 _
  have hsz : (DataW.weightsEach Try.prog (Try.f14.params.toList ++ Rows.fnExactNumberOfSpec.plain.varTypes Try.prog) (ds ++ gs)).all (· ≤ reachBytes) = true := hsz0
  have hval : ∀ (j : Nat) t v, Try.f14.params[j]? = some t → args[j]? = some v → Value.okWide Try.prog W .any base t v := hval0
  have hW' := hW
  obtain ⟨p, q, hA0, hV, rfl, hfz, hnd⟩ := hW
  have hA : DataW.TrodAll enc Try.prog W 0 (fun _ => true) true Try.f14.params.toList args.toList ds p := hA0
  rw [Try.params14] at hA hval hsz
  obtain ⟨v0, vs0, d0, ds0, p0, q0, hargs, rfl, rfl, h0, r0⟩ := trodAll_cons hA
  obtain ⟨rfl, rfl, rfl⟩ := trodAll_nil r0
  obtain rfl : args = #[v0] := by cases args; simp_all
  obtain ⟨rfl, rfl⟩ := trodVars_none hV
  have k0 := h0
  have lt0 : ∀ x ∈ p0, x.block < W.heap.size := by obtain ⟨m, hm⟩ := k0; exact DataW.trod_lt m _ _ _ hm
  obtain ⟨a0_0, a0_1, a0_2, rfl, w0_0, w0_1, w0_2⟩ := open3 Try.underlying38 Try.underlying36 (by kernel_rfl) (by kernel_rfl) (by kernel_rfl) rfl rfl rfl rfl (by kernel_rfl) (by kernel_rfl) (by kernel_rfl) (by kernel_rfl) (by kernel_rfl) (hval 0 38 v0 rfl rfl) h0
  clear hA0 hval0 hsz0 hsz
  obtain ⟨k, hf⟩ := P.FnExactNumberOf_pure a0_0 a0_1 a0_2 w0_0 w0_1 w0_2
  refine (P.laws_FnExactNumberOf.calls k a0_0 a0_1 a0_2 true W  hf).mono fun e W' ⟨he, bel0⟩ => ?_
  have bel : Below W.heap.size W W' := bel0
  subst he
  exact ⟨_, rfl, _, _, _, [], _, [], hW', trodAll_mk1 (shut_bool Try.underlying4 _), (trodAll_cons_mk (Below.trod laidOut (by kernel_rfl) (of_decide_eq_true (by kernel_rfl)) k0 bel lt0) trodAll_mk0), rfl, bel.frame _, fun h => by cases h⟩
theorem over : Rows.fnExactNumberOfRow.holds Try.pinned (OpenSpec.ofChange Rows.fnExactNumberOfSpec) :=
  OpenClaim.holds_of_wide 14 Try.f14 rfl rfl rfl rfl rfl rfl rfl ⟨rfl, rfl, rfl, rfl, rfl⟩ rfl rfl rfl rfl rfl (by kernel_rfl) Try.func14 (by kernel_rfl)
    (of_decide_eq_true (by kernel_rfl)) (by unfold Func.isWrapper; first | (rw [if_pos (by decide +kernel)]; kernel_rfl) | (rw [if_neg (by decide +kernel)]; exact ⟨rfl, rfl⟩))
    (fun os started H enc _ => lifted os started H enc)
theorem proved : Rows.FnExactNumberOfSaid := over
end Go.Proofs.Ytoohcdfokejkdaa.fnExactNumberOf
namespace Go.Proofs.Ytoohcdfokejkdaa
/-- The row, under a short name, for the claim. -/
theorem fnExactNumberOf_holds : Rows.FnExactNumberOfSaid := fnExactNumberOf.proved
#print axioms fnExactNumberOf_holds
end Go.Proofs.Ytoohcdfokejkdaa
