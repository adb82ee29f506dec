/- The statement FnNumbered of the seat, out of its plain form (FnNumbered_pure) and the walk of its Go function. Part 7 of 7: each Go function's walk, then the plain lemmas, then the row. No condition: it holds for every input. -/
import Derived.Test.YtoohcdfokejkdaaBFnNumbered6
import Derived.Test.YtoohcdfokejkdaaRows
import Derived.Below
import Derived.ChangeOld
import Derived.OpenShut
import Derived.ProofKit
import Derived.ShutString
import Derived.SizedLaws
import Derived.WalkKit
namespace Go.Proofs.Ytoohcdfokejkdaa.P
open Go.RowKit Go.Proofs.YtoohcdfokejkdaaW.PrintWords Go.Proofs.Ytoohcdfokejkdaa.Sup
set_option linter.unusedVariables false
set_option linter.unusedSimpArgs false

section
variable {w h : Int}
theorem or_setB (c i : Nat) : c ||| 2 ^ i = setB c i true := by unfold setB; rw [if_pos rfl]
theorem numI_num (hg : gridOk w h = true) (t : Nat) : ∀ (d i : Nat) (s : Int) (c b : Nat), i + d = gapsN w h → Dec (gapsN w h) d c b → numI w h t d i s c b = s + (num (ends w h) (cellsN w h) (gapsN w h) t d c b : Nat)
  | 0, i, s, c, b, hd, D => by unfold numI num; omega
  | d + 1, i, s, c, b, hd, D => by
    obtain rfl : i = gapsN w h - (d + 1) := by omega
    have Doff := D.off (by omega)
    have Don := D.on (by omega)
    unfold numI num
    rw [or_setB, or_setB]
    cases hb : t.testBit (gapsN w h - (d + 1))
    · simp only [Bool.false_eq_true, if_false]
      exact numI_num hg t d _ s c _ (by omega) Doff
    · simp only [if_true]
      rw [numI_num hg t d _ _ _ b (by omega) Don, cfI_nat hg D.cl Doff.bl Doff.dis]
      unfold totN
      omega
theorem atI_nth (hg : gridOk w h = true) : ∀ (d i n c b : Nat), i + d = gapsN w h → Dec (gapsN w h) d c b → atI w h d i (n : Int) c b = nth (ends w h) (cellsN w h) (gapsN w h) d n c b
  | 0, i, n, c, b, hd, D => rfl
  | d + 1, i, n, c, b, hd, D => by
    obtain rfl : i = gapsN w h - (d + 1) := by omega
    have Doff := D.off (by omega)
    have Don := D.on (by omega)
    unfold atI nth
    rw [or_setB, or_setB, cfI_nat hg D.cl Doff.bl Doff.dis]
    unfold totN
    by_cases hlt : n < trees (ends w h) (cellsN w h) (gapsN w h) c (setB b (gapsN w h - (d + 1)) true)
    · rw [if_neg (by omega), if_pos hlt]
      exact atI_nth hg d _ n c _ (by omega) Doff
    · rw [if_pos (by omega), if_neg hlt]
      rw [show (n : Int) - (trees (ends w h) (cellsN w h) (gapsN w h) c (setB b (gapsN w h - (d + 1)) true) : Nat) = ((n - trees (ends w h) (cellsN w h) (gapsN w h) c (setB b (gapsN w h - (d + 1)) true) : Nat) : Int) by omega]
      exact atI_nth hg d _ _ _ b (by omega) Don
def numN (w h : Int) (t : Nat) : Nat := num (ends w h) (cellsN w h) (gapsN w h) t (gapsN w h) 0 0
def nthN (w h : Int) (n : Nat) : Nat := nth (ends w h) (cellsN w h) (gapsN w h) (gapsN w h) n 0 0
theorem perfI_nat (hg : gridOk w h = true) {t : Nat} (ht : t < 2 ^ gapsN w h) (hp : perfN w h t = true) : perfI w h t = true := perfI_iff.2 ⟨hg, t, rfl, ht, hp⟩
theorem numOf_nat (hg : gridOk w h = true) {t : Nat} (ht : t < 2 ^ gapsN w h) (hp : perfN w h t = true) : numOf w h t = (numN w h t : Nat) := by
  unfold numOf
  rw [if_pos (perfI_nat hg ht hp), Int.toNat_natCast, numI_num hg t _ 0 0 0 0 (by omega) Dec.start]
  unfold numN
  omega
theorem cf00 (hg : gridOk w h = true) : cfI w h 0 0 = (totN w h 0 0 : Nat) := by
  have := cfI_nat (a := 0) (b := 0) hg (Nat.two_pow_pos _) (Nat.two_pow_pos _) (fun i hi => by simp at hi)
  exact_mod_cast this
theorem atOf_nat (hg : gridOk w h = true) {n : Nat} (hn : n < totN w h 0 0) : atOf w h n = (w, h, ((nthN w h n : Nat) : Int), true) := by
  unfold atOf
  rw [cf00 hg, if_pos (by omega), atI_nth hg _ 0 n 0 0 (by omega) Dec.start]
  rfl
theorem atOf_big (hg : gridOk w h = true) {n : Nat} (hn : ¬ n < totN w h 0 0) : atOf w h n = (0, 0, 0, false) := by
  unfold atOf
  rw [cf00 hg, if_neg (by omega)]
theorem sup_zero (t : Nat) : sup (gapsN w h) 0 0 t = true := sup_iff.2 fun i _ => ⟨fun q => by simp at q, fun q => by simp at q⟩
theorem numN_lt {t : Nat} (ht : t < 2 ^ gapsN w h) (hp : perfN w h t = true) : numN w h t < totN w h 0 0 := num_lt ht hp _ 0 0 (Nat.le_refl _) Dec.start (sup_zero t)
theorem nthN_num {t : Nat} (ht : t < 2 ^ gapsN w h) (hp : perfN w h t = true) : nthN w h (numN w h t) = t := nth_num ht hp _ 0 0 (Nat.le_refl _) Dec.start (sup_zero t)
theorem nthN_facts {n : Nat} (hn : n < totN w h 0 0) : nthN w h n < 2 ^ gapsN w h ∧ perfN w h (nthN w h n) = true ∧ numN w h (nthN w h n) = n := by
  obtain ⟨a, b, c, d⟩ := num_nth (e := ends w h) (V := cellsN w h) (E := gapsN w h) _ n 0 0 (Nat.le_refl _) Dec.start hn
  exact ⟨a, b, d⟩
end
theorem FnNumbered_pure (l : List Int) (hy : l.length ≤ 140737488351232) (hz : ∀ x ∈ l, 0 ≤ x ∧ x ≤ 255) : ∃ k, laws_FnNumbered.f k l = some true := by
  refine Ev.rounds ?_
  unfold laws_FnNumbered.f
  refine Ev.bnd0 rfl (Ev.ite (fun _ => Ev.ret rfl) (fun hb => ?_))
  have hl : l.length ≤ 1048576 := by simp only [decide_eq_true_eq] at hb; omega
  obtain ⟨w, h, t, hg, ht, hp, ed⟩ := spec_DrawPerfect_ev hl
  obtain ⟨v, ea, v0, v1⟩ := at_eq hl hz (a := 0) (by omega) (by omega)
  obtain ⟨u, eb, u0, u1⟩ := at_eq hl hz (a := 1) (by omega) (by omega)
  have eN := impl_NumberOf_ev w h t
  rw [numOf_nat hg ht hp] at eN
  have eA := impl_CountAll_ev w h
  rw [cf00 hg] at eA
  have hlt := numN_lt ht hp
  have hle := totN_le w h 0 0
  have eM := impl_MazeAt_ev w h (numN w h t : Nat)
  rw [atOf_nat hg hlt, nthN_num ht hp] at eM
  have eX := impl_NextMaze_ev w h t
  have hx : nextOf w h t = if numN w h t + 1 < totN w h 0 0 then (w, h, ((nthN w h (numN w h t + 1) : Nat) : Int), true) else (w, h, (t : Int), false) := by
    unfold nextOf
    rw [numOf_nat hg ht hp, show ((numN w h t : Nat) : Int) + 1 = ((numN w h t + 1 : Nat) : Int) by omega]
    by_cases e : numN w h t + 1 < totN w h 0 0
    · rw [if_pos e, atOf_nat hg e, if_pos ⟨perfI_nat hg ht hp, rfl⟩]
    · rw [if_neg e, atOf_big hg e, if_neg (by simp)]
  have hnext : (numN w h t + 1 < totN w h 0 0 ∧ ∃ x : Nat, Ev (fun k => impl_NextMaze.f k w h t) (w, h, (x : Int), true) ∧ Ev (fun k => impl_NumberOf.f k w h x) ((numN w h t + 1 : Nat) : Int)) ∨ (¬ numN w h t + 1 < totN w h 0 0 ∧ Ev (fun k => impl_NextMaze.f k w h t) (w, h, (t : Int), false)) := by
    rw [hx] at eX
    by_cases e : numN w h t + 1 < totN w h 0 0
    · rw [if_pos e] at eX
      obtain ⟨x1, x2, x3⟩ := nthN_facts e
      have eNX := impl_NumberOf_ev w h (nthN w h (numN w h t + 1) : Nat)
      rw [numOf_nat hg x1 x2, x3] at eNX
      exact .inl ⟨e, _, eX, eNX⟩
    · rw [if_neg e] at eX
      exact .inr ⟨e, eX⟩
  clear eX hx
  have hmx : mx 1 ((totN w h 0 0 : Nat) : Int) = (totN w h 0 0 : Nat) := by unfold mx; split <;> omega
  have hq0 : 0 ≤ v * 256 + u := by omega
  have hw : wrap64 (wrap64 (v * 256) + u) = v * 256 + u := by rw [wrap64_id (x := v * 256) (by omega) (by omega), wrap64_id (by omega) (by omega)]
  have t0 : 0 ≤ Int.tmod (v * 256 + u) (totN w h 0 0 : Nat) := by rw [Int.tmod_eq_emod_of_nonneg hq0]; exact Int.emod_nonneg _ (by omega)
  have t1 : Int.tmod (v * 256 + u) (totN w h 0 0 : Nat) < (totN w h 0 0 : Nat) := by rw [Int.tmod_eq_emod_of_nonneg hq0]; exact Int.emod_lt_of_pos _ (by omega)
  obtain ⟨q, hq⟩ := Int.eq_ofNat_of_zero_le t0
  have hql : q < totN w h 0 0 := by omega
  obtain ⟨y1, y2, y3⟩ := nthN_facts hql
  have eY := impl_MazeAt_ev w h (q : Nat)
  rw [atOf_nat hg hql] at eY
  have eNY := impl_NumberOf_ev w h (nthN w h q : Nat)
  rw [numOf_nat hg y1 y2, y3] at eNY
  have hw1 : wrap64 (((numN w h t : Nat) : Int) + 1) = ((numN w h t + 1 : Nat) : Int) := by rw [wrap64_id (by omega) (by omega)]; omega
  have eT := impl_CountTrees_ev w h (fullN w h : Nat)
  have hcp : cpl w h (fullN w h) = 0 := by
    apply Nat.eq_of_testBit_eq
    intro i
    rw [Nat.zero_testBit]
    by_cases hi : i < gapsN w h
    · rw [cpl_bit hi]; unfold fullN; rw [Nat.testBit_two_pow_sub_one]; simp [hi]
    · exact Nat.testBit_lt_two_pow (Nat.lt_of_lt_of_le (cpl_lt w h _) (Nat.pow_le_pow_right (by decide) (by omega)))
  rw [ctI_nat hg (fullN_lt w h), show ctN w h (fullN w h) = totN w h 0 0 by unfold ctN; rw [hcp]] at eT
  clear hcp y1 y2 y3
  generalize numN w h t = N at *
  generalize totN w h 0 0 = A at *
  generalize nthN w h q = Y at *
  rcases hnext with ⟨e, x, eX, eNX⟩ | ⟨e, eX⟩
  · refine Ev.bind ed (Ev.bind eN (Ev.bind eA (Ev.bind eM (Ev.bind eX (Ev.bnd0 ea (Ev.bnd0 eb ?_))))))
    rw [hmx, hw, hq, hw1]
    have c3 : (true == decide (((N + 1 : Nat) : Int) < (A : Int))) = true := by rw [decide_eq_true (by omega)]; rfl
    have c4 : ((w == w && (h == h)) && ((t : Int) == (t : Int))) = true := by simp
    exact Ev.ff (by omega) (Ev.bind eY (Ev.tt (by omega) (Ev.tt (by omega) (Ev.tt rfl (Ev.tt c4 (Ev.tt c3 (Ev.tt rfl (Ev.bind eNX (Ev.tt rfl (Ev.tt rfl (Ev.bind eNY (Ev.tt rfl (Ev.bnd0 (impl_FullMaze_eq hg) (Ev.bind eT (Ev.ret (beq_self_eq_true _))))))))))))))))
  · refine Ev.bind ed (Ev.bind eN (Ev.bind eA (Ev.bind eM (Ev.bind eX (Ev.bnd0 ea (Ev.bnd0 eb ?_))))))
    rw [hmx, hw, hq, hw1]
    have c3 : (false == decide (((N + 1 : Nat) : Int) < (A : Int))) = true := by rw [decide_eq_false (by omega)]; rfl
    have c4 : ((w == w && (h == h)) && ((t : Int) == (t : Int))) = true := by simp
    exact Ev.ff (by omega) (Ev.bind eY (Ev.tt (by omega) (Ev.tt (by omega) (Ev.tt rfl (Ev.tt c4 (Ev.tt c3 (Ev.ff (by simp) (Ev.tt rfl (Ev.bind eNY (Ev.tt rfl (Ev.bnd0 (impl_FullMaze_eq hg) (Ev.bind eT (Ev.ret (beq_self_eq_true _))))))))))))))
end Go.Proofs.Ytoohcdfokejkdaa.P
namespace Go.Proofs.Ytoohcdfokejkdaa.fnNumbered
open Go.ChangeShapes Go.WideShapes Go.ChangeAt Go.RowKit Go.Proofs.YtoohcdfokejkdaaW.PrintWords Go.Proofs.Ytoohcdfokejkdaa.Sup
open Go.ChangeMaps (open_string shut_string)
set_option linter.unusedVariables false
theorem own : ownKnob Try.prog.godebug = none := by kernel_rfl
theorem laidOut : laidOutB Try.prog = true := by kernel_rfl
set_option maxRecDepth 100000 in
theorem lifted (os : Os) (started : os.Started) (H : Type) (enc : TypeId × Value → H) :
    ReturnsInHanded {} Try.checked os 10 .any (Rows.fnNumberedSpec.pre6 enc Try.prog Try.f10 Rows.fnNumberedRow.domain false) (Rows.fnNumberedSpec.post enc Try.prog Try.f10 false true false false) := by
  refine returnsInHanded_of_change_sized (C := Try.checked) own started (by kernel_rfl) Try.func10
    (ChangeSpec.witness6 (enc := enc) (C := Try.checked) false ⟨#[], #[.slice none 0 0], []⟩ 8 (by kernel_rfl) (by kernel_rfl) (by kernel_rfl) (by kernel_rfl)) ?_
  intro W base args ds gs before hval0 hW hcnd hsz0 _
  have hsz : (DataW.weightsEach Try.prog (Try.f10.params.toList ++ Rows.fnNumberedSpec.plain.varTypes Try.prog) (ds ++ gs)).all (· ≤ reachBytes) = true := hsz0
  have hval : ∀ (j : Nat) t v, Try.f10.params[j]? = some t → args[j]? = some v → Value.okWide Try.prog W .any base t v := hval0
  have hW' := hW
  obtain ⟨p, q, hA0, hV, rfl, hfz, hnd⟩ := hW
  have hA : DataW.TrodAll enc Try.prog W 0 (fun _ => true) true Try.f10.params.toList args.toList ds p := hA0
  rw [Try.params10] at hA hval hsz
  obtain ⟨v0, vs0, d0, ds0, p0, q0, hargs, rfl, rfl, h0, r0⟩ := trodAll_cons hA
  obtain ⟨rfl, rfl, rfl⟩ := trodAll_nil r0
  obtain rfl : args = #[v0] := by cases args; simp_all
  obtain ⟨rfl, rfl⟩ := trodVars_none hV
  obtain ⟨a0, len0, cap0, rfl⟩ := okWide_slice Try.underlying22 (hval 0 22 v0 rfl rfl)
  have k0 := h0
  have lt0 : ∀ x ∈ p0, x.block < W.heap.size := by obtain ⟨m, hm⟩ := k0; exact DataW.trod_lt m _ _ _ hm
  obtain ⟨z0, w0⟩ : ∃ zs, IsRow .u8 W a0 len0 cap0 zs := by
    obtain ⟨fuel, hf⟩ := h0
    rcases open_ints Try.underlying22 Try.underlying5 (by kernel_rfl) hf with ⟨hcs, _⟩ | ⟨x, l, c, zs, hcs, _, hl, hm, hz, _, hcell, hwz⟩
    · simp [Value.cells] at hcs
      obtain ⟨rfl, rfl, rfl⟩ := hcs
      exact ⟨[], .inl ⟨rfl, rfl, rfl, rfl⟩⟩
    · simp [Value.cells] at hcs
      obtain ⟨rfl, rfl, rfl⟩ := hcs
      exact ⟨zs, .inr ⟨_, rfl, hl, hm, by simpa using hz, hcell, hwz⟩⟩
  have y0 : len0 * 1 ≤ 140737488351232 := sized_ints hsz (j := 0) (t := 22) rfl rfl Try.underlying22 Try.underlying5 (by kernel_rfl) (by kernel_rfl) h0
  obtain ⟨l0, rfl, hr0, hm0, hw0, hc0⟩ := ReadsInt.ofRowC w0
  clear hA0 hval0 hsz0 hsz
  obtain ⟨k, hf⟩ := P.FnNumbered_pure l0 (by omega) (fun x hx => u8_of_wf (hw0 x hx))
  refine (P.laws_FnNumbered.calls k _ _ l0 true W (Kd.C_of_reads (d := (0 : Int)) (h1 := fun _ => rfl) hr0) hc0 hf).mono fun e W' ⟨he, bel0⟩ => ?_
  have bel : Below W.heap.size W W' := bel0
  subst he
  exact ⟨_, rfl, _, _, _, [], _, [], hW', trodAll_mk1 (shut_bool Try.underlying4 _), (trodAll_cons_mk (Below.trod laidOut (by kernel_rfl) (of_decide_eq_true (by kernel_rfl)) k0 bel lt0) trodAll_mk0), rfl, bel.frame _, fun h => by cases h⟩
theorem over : Rows.fnNumberedRow.holds Try.pinned (OpenSpec.ofChange Rows.fnNumberedSpec) :=
  OpenClaim.holds_of_wide 10 Try.f10 rfl rfl rfl rfl rfl rfl rfl ⟨rfl, rfl, rfl, rfl, rfl⟩ rfl rfl rfl rfl rfl (by kernel_rfl) Try.func10 (by kernel_rfl)
    (of_decide_eq_true (by kernel_rfl)) (by unfold Func.isWrapper; first | (rw [if_pos (by decide +kernel)]; kernel_rfl) | (rw [if_neg (by decide +kernel)]; exact ⟨rfl, rfl⟩))
    (fun os started H enc _ => lifted os started H enc)
theorem proved : Rows.FnNumberedSaid := over
end Go.Proofs.Ytoohcdfokejkdaa.fnNumbered
namespace Go.Proofs.Ytoohcdfokejkdaa
/-- The row, under a short name, for the claim. -/
theorem fnNumbered_holds : Rows.FnNumberedSaid := fnNumbered.proved
#print axioms fnNumbered_holds
end Go.Proofs.Ytoohcdfokejkdaa
