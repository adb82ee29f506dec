/- The statement FnExactIsSimple of the seat, out of its plain form (FnExactIsSimple_pure) and the walk of its Go function. Part 3 of 3: each Go function's walk, then the plain lemmas, then the row. No condition: it holds for every input. -/
import Derived.Test.YtcajhmldbkfhiaaBFnExactIsSimple2
import Derived.Test.YtcajhmldbkfhiaaRows
import Derived.Below
import Derived.ChangeOld
import Derived.Deep.Matrix
import Derived.Lib.SmallJoins
import Derived.OpenShut
import Derived.ProofKit
import Derived.ShutString
import Derived.SizedLaws
import Derived.WalkKit
namespace Go.Proofs.Ytcajhmldbkfhiaa.Sup
open Go.ChangeShapes Go.WideShapes Go.ChangeAt Go.RowKit Go.Joins Go.Proofs.YtcajhmldbkfhiaaW.PrintWords
set_option linter.unusedVariables false
set_option linter.unusedSimpArgs false

/-- The range of an int. -/
def InR (a : Int) : Prop := -9223372036854775808 ≤ a ∧ a ≤ 9223372036854775807
theorem inR_of_wf {a : Int} (h : (Lit.int .i64 a).wf = true) : InR a := by
  simp only [Lit.wf, IntKind.min, IntKind.max, IntKind.signed, IntKind.bits, Bool.and_eq_true, decide_eq_true_eq, if_true] at h
  unfold InR
  omega
section
variable {H : Type} {enc : TypeId × Value → H} {P : Program} {w : World} {base : Nat} {spare : Nat → Bool} {held : Bool}

end

def IsRow (k : IntKind) (w : World) (a : Option Addr) (len cap : Nat) (zs : List Int) : Prop :=
  (a = none ∧ len = 0 ∧ cap = 0 ∧ zs = []) ∨
  ∃ x, a = some x ∧ len ≤ cap ∧ cap ≤ maxLen ∧ zs.length = cap ∧ (∀ i, i < zs.length → w.cell? (x.add i) = some (.int k (zs.getD i 0))) ∧ ∀ n ∈ zs, (Lit.int k n).wf = true

end Go.Proofs.Ytcajhmldbkfhiaa.Sup
namespace Go.Proofs.Ytcajhmldbkfhiaa.P
open Go.RowKit Go.Proofs.YtcajhmldbkfhiaaW.PrintWords Go.Proofs.Ytcajhmldbkfhiaa.Sup
set_option linter.unusedVariables false
set_option linter.unusedSimpArgs false

theorem nodup_snoc {l : List Int} {x : Int} : (l ++ [x]).Nodup ↔ l.Nodup ∧ x ∉ l := by
  rw [List.nodup_append]
  constructor
  · intro h; exact ⟨h.1, fun hc => h.2.2 x hc x List.mem_cons_self rfl⟩
  · intro h; exact ⟨h.1, by simp, fun a ha b hb e => by rw [List.mem_singleton.1 hb] at e; exact h.2 (e ▸ ha)⟩
theorem specSimple_l0 (l : List Int) (hl : l.length ≤ 1048576) : ∀ (d i : Nat), i + d = l.length → (l.take i).Nodup → Ev (fun k => spec_IsSimple.l0 k l i) (decide l.Nodup)
  | 0, i, hd, hn => by
    refine Ev.step (fun _ => spec_IsSimple.l0.eq_2 ..) (Ev.ff (by omega) (Ev.ret ?_))
    rw [List.take_of_length_le (by omega)] at hn
    exact (decide_eq_true hn).symm
  | d + 1, i, hd, hn => by
    refine Ev.step (fun _ => spec_IsSimple.l0.eq_2 ..) (Ev.tt (by omega) (Ev.tt (by omega) (Ev.tt (by omega) ?_)))
    rw [show ((i : Int)).toNat = i from rfl, rd_get (show i < l.length by omega), wsucc (by omega)]
    refine Ev.bind (l07In_ev _ _ (by rw [List.length_take]; omega)) ?_
    have e1 : l.take (i + 1) = l.take i ++ [l[i]] := by rw [List.take_succ_eq_append_getElem (by omega)]
    refine Ev.ite (fun e => Ev.ret ?_) (fun e => specSimple_l0 l hl d (i + 1) (by omega) ?_)
    · have hm := of_decide_eq_true e
      refine (decide_eq_false fun hc => ?_).symm
      have := (hc.sublist (List.take_sublist (i + 1) l))
      rw [e1, nodup_snoc] at this
      exact this.2 hm
    · rw [e1, nodup_snoc]
      exact ⟨hn, fun hc => e (decide_eq_true hc)⟩
theorem implSimple (l : List Int) (hl : l.length ≤ 1048576) : impl_IsSimple.f l = some (decide l.Nodup) := by
  unfold impl_IsSimple.f impl_ordered.f
  rw [if_pos (by omega), Option.bind_some]
  congr 1
  by_cases h : l.Nodup
  · rw [decide_eq_true h, (ordF_nodup l).2 h]
    exact beq_iff_eq.2 rfl
  · rw [decide_eq_false h]
    refine beq_eq_false_iff_ne.2 fun hc => h ((ordF_nodup l).1 (by omega))
theorem FnExactIsSimple_pure (l0 : List Int) (y0 : l0.length ≤ 17592186044404) (z0 : ∀ x ∈ l0, InR x) : ∃ k, laws_FnExactIsSimple.f k l0 = some true := by
  refine Ev.rounds ?_
  unfold laws_FnExactIsSimple.f
  refine Ev.ite (fun _ => Ev.ret rfl) (fun hl => ?_)
  have hl : l0.length ≤ 1048576 := by omega
  have h1 := toIntS_ev l0 (by omega)
  have h2 : Ev (fun k => spec_IsSimple.f k l0) (decide l0.Nodup) := specSimple_l0 l0 hl l0.length 0 (by omega) (by simp)
  refine Ev.bind h1 (Ev.bind h2 (Ev.bind h1 (Ev.bnd0 (implSimple l0 hl) ?_)))
  rw [show (decide l0.Nodup != decide l0.Nodup) = false from by cases decide l0.Nodup <;> rfl]
  refine Ev.ff (by simp) (Ev.bind h1 (Ev.bind (eqIntS_ev l0 l0 (by omega)) ?_))
  refine Ev.tt ?_ (Ev.ret rfl)
  simp
end Go.Proofs.Ytcajhmldbkfhiaa.P
namespace Go.Proofs.Ytcajhmldbkfhiaa.fnExactIsSimple
open Go.ChangeShapes Go.WideShapes Go.ChangeAt Go.RowKit Go.Proofs.YtcajhmldbkfhiaaW.PrintWords Go.Proofs.Ytcajhmldbkfhiaa.Sup
open Go.ChangeMaps (open_string shut_string)
set_option linter.unusedVariables false
theorem own : ownKnob Try.prog.godebug = none := by kernel_rfl
theorem laidOut : laidOutB Try.prog = true := by kernel_rfl
set_option maxRecDepth 100000 in
theorem lifted (os : Os) (started : os.Started) (H : Type) (enc : TypeId × Value → H) :
    ReturnsInHanded {} Try.checked os 3 .any (Rows.fnExactIsSimpleSpec.pre6 enc Try.prog Try.f3 Rows.fnExactIsSimpleRow.domain false) (Rows.fnExactIsSimpleSpec.post enc Try.prog Try.f3 false true false false) := by
  refine returnsInHanded_of_change_sized (C := Try.checked) own started (by kernel_rfl) Try.func3
    (ChangeSpec.witness6 (enc := enc) (C := Try.checked) false ⟨#[], #[.slice none 0 0], []⟩ 8 (by kernel_rfl) (by kernel_rfl) (by kernel_rfl) (by kernel_rfl)) ?_
  intro W base args ds gs before hval0 hW hcnd hsz0 _
  have hsz : (DataW.weightsEach Try.prog (Try.f3.params.toList ++ Rows.fnExactIsSimpleSpec.plain.varTypes Try.prog) (ds ++ gs)).all (· ≤ reachBytes) = true := hsz0
  have hval : ∀ (j : Nat) t v, Try.f3.params[j]? = some t → args[j]? = some v → Value.okWide Try.prog W .any base t v := hval0
  have hW' := hW
  obtain ⟨p, q, hA0, hV, rfl, hfz, hnd⟩ := hW
  have hA : DataW.TrodAll enc Try.prog W 0 (fun _ => true) true Try.f3.params.toList args.toList ds p := hA0
  rw [Try.params3] at hA hval hsz
  obtain ⟨v0, vs0, d0, ds0, p0, q0, hargs, rfl, rfl, h0, r0⟩ := trodAll_cons hA
  obtain ⟨rfl, rfl, rfl⟩ := trodAll_nil r0
  obtain rfl : args = #[v0] := by cases args; simp_all
  obtain ⟨rfl, rfl⟩ := trodVars_none hV
  obtain ⟨a0, len0, cap0, rfl⟩ := okWide_slice Try.underlying22 (hval 0 22 v0 rfl rfl)
  have k0 := h0
  have lt0 : ∀ x ∈ p0, x.block < W.heap.size := by obtain ⟨m, hm⟩ := k0; exact DataW.trod_lt m _ _ _ hm
  obtain ⟨z0, w0⟩ : ∃ zs, IsRow .i64 W a0 len0 cap0 zs := by
    obtain ⟨fuel, hf⟩ := h0
    rcases open_ints Try.underlying22 Try.underlying3 (by kernel_rfl) hf with ⟨hcs, _⟩ | ⟨x, l, c, zs, hcs, _, hl, hm, hz, _, hcell, hwz⟩
    · simp [Value.cells] at hcs
      obtain ⟨rfl, rfl, rfl⟩ := hcs
      exact ⟨[], .inl ⟨rfl, rfl, rfl, rfl⟩⟩
    · simp [Value.cells] at hcs
      obtain ⟨rfl, rfl, rfl⟩ := hcs
      exact ⟨zs, .inr ⟨_, rfl, hl, hm, by simpa using hz, hcell, hwz⟩⟩
  have y0 : len0 * 8 ≤ 140737488351232 := sized_ints hsz (j := 0) (t := 22) rfl rfl Try.underlying22 Try.underlying3 (by kernel_rfl) (by kernel_rfl) h0
  obtain ⟨l0, rfl, hr0, hm0, hw0, hc0⟩ := ReadsInt.ofRowC w0
  clear hA0 hval0 hsz0 hsz
  obtain ⟨k, hf⟩ := P.FnExactIsSimple_pure l0 (by omega) (fun x hx => inR_of_wf (hw0 x hx))
  refine (P.laws_FnExactIsSimple.calls k _ _ l0 true W (Kd.C_of_reads (d := (0 : Int)) (h1 := fun _ => rfl) hr0) hc0 hf).mono fun e W' ⟨he, bel0⟩ => ?_
  have bel : Below W.heap.size W W' := bel0
  subst he
  exact ⟨_, rfl, _, _, _, [], _, [], hW', trodAll_mk1 (shut_bool Try.underlying4 _), (trodAll_cons_mk (Below.trod laidOut (by kernel_rfl) (of_decide_eq_true (by kernel_rfl)) k0 bel lt0) trodAll_mk0), rfl, bel.frame _, fun h => by cases h⟩
theorem over : Rows.fnExactIsSimpleRow.holds Try.pinned (OpenSpec.ofChange Rows.fnExactIsSimpleSpec) :=
  OpenClaim.holds_of_wide 3 Try.f3 rfl rfl rfl rfl rfl rfl rfl ⟨rfl, rfl, rfl, rfl, rfl⟩ rfl rfl rfl rfl rfl (by kernel_rfl) Try.func3 (by kernel_rfl)
    (of_decide_eq_true (by kernel_rfl)) (by unfold Func.isWrapper; first | (rw [if_pos (by decide +kernel)]; kernel_rfl) | (rw [if_neg (by decide +kernel)]; exact ⟨rfl, rfl⟩))
    (fun os started H enc _ => lifted os started H enc)
theorem proved : Rows.FnExactIsSimpleSaid := over
end Go.Proofs.Ytcajhmldbkfhiaa.fnExactIsSimple
namespace Go.Proofs.Ytcajhmldbkfhiaa
/-- The row, under a short name, for the claim. -/
theorem fnExactIsSimple_holds : Rows.FnExactIsSimpleSaid := fnExactIsSimple.proved
#print axioms fnExactIsSimple_holds
end Go.Proofs.Ytcajhmldbkfhiaa
