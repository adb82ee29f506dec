/- The statement FnGrown of the seat, out of its plain form (FnGrown_pure) and the walk of its Go function. Part 2 of 5: each Go function's walk, then the plain lemmas, then the row. No condition: it holds for every input. -/
import Derived.Test.YtbeajmcjfhbcjaaBFnGrown1
import Derived.Test.YtbeajmcjfhbcjaaProg
import Derived.ArgAppend
import Derived.Below
import Derived.BigQuiet
import Derived.Deep.AppendLies
import Derived.Deep.CutBlock
import Derived.Deep.DeepCutAuto
import Derived.Deep.Draws
import Derived.Deep.LoopGhost
import Derived.Deep.OwnRows
import Derived.Deep.QuietTactic
import Derived.Deep.RegionHeld3
import Derived.Deep.RegionLaw
import Derived.KernelRfl
import Derived.Laws.BitsLemmas
import Derived.Laws.BytesArg
import Derived.Laws.CopyOwn
import Derived.Laws.IdiomCopy
import Derived.Laws.MakeOwn
import Derived.Laws.OwnMore
import Derived.Laws.Rows
import Derived.Laws.Slices
import Derived.Lib.AppendStr
import Derived.Lib.ConvBytes
import Derived.Lib.SliceRun
import Derived.Maps.AppendAt
import Derived.OrdersHeld
import Derived.OwnWalk
import Derived.RowKit
import Derived.RowKit3
import Derived.Tactics
import Derived.WalkKit
import Derived.WideLaws
namespace Go.Proofs.Ytbeajmcjfhbcjaa.P
open Go.RowKit Go.Proofs.YtbeajmcjfhbcjaaW.PrintWords Go.Proofs.YtbeajmcjfhbcjaaW.PrintLast Go.Proofs.YtbeajmcjfhbcjaaW.PrintMore
attribute [local go_sem] max2_int min2_int max_two min_two max_three min_three max_four min_four   -- for this text's walks alone
set_option linter.unusedVariables false
set_option linter.unusedSimpArgs false

def errW : Option Int → Value
  | none => .nilIface
  | some c => .iface 0 (.int .i64 c)
theorem errW_none : errW none = .nilIface := rfl
theorem errW_some (c : Int) : errW (some c) = .iface 0 (.int .i64 c) := rfl

theorem info3 : (Try.prog.info? 3).map (fun i => (i.zero, i.size, i.bytes)) = some (some (.int .i64 0), 1, 8) := by kernel_rfl
-- the values' own types
/-! #### struct type 25 -/
structure S25 where
  f0 : Int
  f1 : Int
/-! #### struct type 27 -/
structure S27 where
  f0 : S25
  f1 : Int
/-! #### struct type 54 -/
structure S54 where
  f0 : Int
  f1 : Int
end Go.Proofs.Ytbeajmcjfhbcjaa.P
namespace Go.Proofs.Ytbeajmcjfhbcjaa.P
open Go Go.RowKit Go.Proofs.YtbeajmcjfhbcjaaW.PrintWords Go.Proofs.YtbeajmcjfhbcjaaW.PrintLast Go.Proofs.YtbeajmcjfhbcjaaW.PrintMore
set_option linter.unusedVariables false
set_option linter.unusedSimpArgs false

theorem iN_ {α : Type} {c : Prop} [Decidable c] {a : Option α} {r : α} (h : (if c then a else none) = some r) : c ∧ a = some r := by
  by_cases hc : c
  · exact ⟨hc, by rwa [if_pos hc] at h⟩
  · rw [if_neg hc] at h; cases h
theorem bA_ {w W : World} (h : Below w.heap.size w W) (o : Obj) : Below w.heap.size w (W.alloc o) := below_alloc h o
theorem bB_ {B : Nat} {w W : World} (h : Below B w W) (n : Nat) : Below B w (W.drewN n) := pw_below_drewN h n
theorem bC_ {base : Nat} {w W : World} (h : Below base w W) : Below base w W.drew := below_drew1 h
theorem cA_ {w : World} {g : Nat} {o : Obj} (h : w.heap[g]? = some o) (n : Nat) : (w.drewN n).heap[g]? = some o := blk_drewN h n
theorem cB_ {w : World} {g : Nat} {o : Obj} (h : w.heap[g]? = some o) : w.drew.heap[g]? = some o := blk_drew h
theorem cC_ {w : World} {g : Nat} {o : Obj} (h : w.heap[g]? = some o) (o' : Obj) : (w.alloc o').heap[g]? = some o := blk_alloc h o'
theorem P6_ : (∀ (a : Act) (n : Nat) (v : Value), a.put (some n) v = { a with tmps := a.tmps.setIfInBounds n v }) ∧ (∀ (a : Act) (v : Value), a.put none v = a) ∧
    (∀ (l : List Value) (i : Nat) (x : Value), l.toArray.setIfInBounds i x = (l.set i x).toArray) ∧ (∀ (a x : Value) (l : List Value), (a :: l).set 0 x = x :: l) ∧ (∀ (a x : Value) (l : List Value) (i : Nat), (a :: l).set (i + 1) x = a :: l.set i x) ∧
    (∀ n : Int, IntKind.i64.wrap n = wrap64 n) ∧ (∀ n : Int, IntKind.i32.wrap n = wrap32 n) :=
  ⟨fun _ _ _ => rfl, fun _ _ => rfl, fun _ _ _ => by simp, fun _ _ _ => rfl, fun _ _ _ _ => rfl, i64_w, i32_w⟩
theorem M3_ {α : Type} (f : α → Value) : (∀ l : List α, Array.map f l.toArray = (l.map f).toArray) ∧ (∀ (a : α) (l : List α), List.map f (a :: l) = f a :: List.map f l) ∧ List.map f [] = [] :=
  ⟨fun l => by simp, fun _ _ => rfl, rfl⟩
section
variable {w : World} {g : Nat} {a b c d e : Value} {t : TypeId}
theorem kk2_ (h : w.heap[g]? = some (.cells #[a, b] t (0, 0))) : w.cell? ⟨g, 0, none⟩ = some a ∧ w.cell? ⟨g, 1, none⟩ = some b := ⟨(blk_cell h 0).trans rfl, (blk_cell h 1).trans rfl⟩
theorem kk3_ (h : w.heap[g]? = some (.cells #[a, b, c] t (0, 0))) : w.cell? ⟨g, 0, none⟩ = some a ∧ w.cell? ⟨g, 1, none⟩ = some b ∧ w.cell? ⟨g, 2, none⟩ = some c := ⟨(blk_cell h 0).trans rfl, (blk_cell h 1).trans rfl, (blk_cell h 2).trans rfl⟩
end
section
variable {P : Program} {md : Region.Mode} {ops : Array Oper} {Q : Exit → Act → World → Prop} {S : World → Prop} {ds : List Nat} {T : Bool × List (List Nat × List Nat)} {B : List Nat} {oi : Oper} {v : Value} {fuel : Nat} {l : Array Bool} {a a' : Act} {w : World}
theorem pv_ (i : Nat) (n : Tmp) (hT : Aside0 (rtab md ops = T)) (h : wpAnyLast P md ops Q S ds fuel (l.setIfInBounds i true) a' w) (hi : ops[i]? = some oi := by exact rfl) (hN : oi.dst = some n := by exact rfl) (hc : anyT T l.toList (l.setIfInBounds i true).toList i = true := by kernel_rfl) (hw : Region.wanted oi (yielded ops a.tmps) = true := by rfl)
    (hv : ∀ w, (execOp a.eval oi).run P w = .ok (.value v) w := by (intro w'; go_simp; with_reducible rfl)) (ha : a.put (some n) v = a' := by (simp only [P6_]; rfl)) (hQ : ∀ c a w, Q (.panic c) (a.put oi.dst v) w → Q (.panic c) a w := by exact fun _ _ _ h => h) : wpAnyLast P md ops Q S ds (fuel + 1) l a w :=
  pure_ _ hi hN (any_of hT.out hc) hQ (Or.inl ⟨hw, hv⟩) ha h
theorem tv_ (i : Nat) (n : Tmp) (hi : ops[i]? = some oi) (hT : Aside0 (rtab md ops = T)) (hB : Aside0 (waitsOk T.2 B = true)) (hS : S w) (hv : ∀ w, S w → (execOp a.eval oi).run P w = .ok (.value v) w) (h : wpAnyLast P md ops Q S ds fuel (l.setIfInBounds i true) a' w) (hN : oi.dst = some n := by exact rfl) (hc : takeW T B ds l.toList (l.setIfInBounds i true).toList i = true := by kernel_rfl) (hw : Region.wanted oi (yielded ops a.tmps) = true := by rfl)
    (ha : a.put (some n) v = a' := by (simp only [P6_]; rfl)) (hQ : ∀ c a w, Q (.panic c) (a.put oi.dst v) w → Q (.panic c) a w := by exact fun _ _ _ h => h) : wpAnyLast P md ops Q S ds (fuel + 1) l a w :=
  take_ _ hi hN (take_ofW hT.out hB.out hc) hQ (Or.inl ⟨hw, hv⟩) hS ha h
theorem pw_ (i : Nat) (n : Tmp) (hT : Aside0 (rtab md ops = T)) (h : wpAnyLast P md ops Q S ds fuel (l.setIfInBounds i true) a' w) (hi : ops[i]? = some oi := by exact rfl) (hN : oi.dst = some n := by exact rfl) (hc : anyT T l.toList (l.setIfInBounds i true).toList i = true := by kernel_rfl) (hw : Region.wanted oi (yielded ops a.tmps) = false := by rfl)
    (ha : a.put (some n) undef = a' := by (simp only [P6_]; rfl)) (hQ : ∀ c a w, Q (.panic c) (a.put oi.dst undef) w → Q (.panic c) a w := by exact fun _ _ _ h => h) : wpAnyLast P md ops Q S ds (fuel + 1) l a w :=
  pure_ _ hi hN (any_of hT.out hc) hQ (Or.inr ⟨hw, rfl⟩) ha h
theorem on_ (i : Nat) (N : Option Tmp) (hi : ops[i]? = some oi) (hN : oi.dst = N) (hT : Aside0 (rtab md ops = T)) (hc : (readyT T.2 l.toList == [i] && l.toList.set i true == (l.setIfInBounds i true).toList) = true) (hd : i ∉ ds)
    (h : ∀ K : Act → World → Prop, Shut (∀ a' w', S w' → (S w' → wpAnyLast P md ops Q S ds fuel (l.setIfInBounds i true) a' w') → K a' w') → if Region.wanted oi (yielded ops a.tmps) = true then Oper.wp P oi a w K Q else K (a.put N undef) w) :
    wpAnyLast P md ops Q S ds (fuel + 1) l a w := one_ _ hi hN (one_of hT.out hc) hd h
end
section
variable {P : Program} {ops : Array Oper} {Q : Exit → Act → World → Prop} {oi : Oper} {a : Act} {w : World} {f : FuncId} {fn : Func} {ar : Array Operand} {ts : Array TypeId}
theorem gl_ {rest : List Oper} (n : Tmp) (hf : P.funcs[f]? = some fn) (args : Array Value) (h : Calls P f args w fun e w' => ∃ v, e = .returned v ∧ wpList P ops Q rest (a.put (some n) v) w') (hop : oi.op = .call { callee := .value (.func f), args := ar, argTypes := ts } := by exact rfl) (hd : oi.dst = some n := by exact rfl) (hg : oi.guard = none := by exact rfl) (hname : (fn.name == "runtime.NumGoroutine") = false := by kernel_rfl) (hb : fn.body.isSome = true := by exact rfl)
    (hargs : ar.map a.eval = args := by (try simp only [M3_]); first | done | rfl | (simp only [List.length_drop, List.length_take]; rfl)) : wpList P ops Q (oi :: rest) a w :=
  goesL_ (some n) hd hg hf hname hb args hop hargs h
theorem gs_ {N : Option Tmp} {K : Act → World → Prop} (hf : P.funcs[f]? = some fn) (args : Array Value) (h : Calls P f args w fun e w' => ∃ v, e = .returned v ∧ K (a.put N v) w') (hop : oi.op = .call { callee := .value (.func f), args := ar, argTypes := ts } := by exact rfl) (hN : oi.dst = N := by exact rfl) (hw : Region.wanted oi (yielded ops a.tmps) = true := by rfl) (hname : (fn.name == "runtime.NumGoroutine") = false := by kernel_rfl) (hb : fn.body.isSome = true := by exact rfl)
    (hargs : ar.map a.eval = args := by (try simp only [M3_]); first | done | rfl | (simp only [List.length_drop, List.length_take]; rfl)) : if Region.wanted oi (yielded ops a.tmps) = true then Oper.wp P oi a w K Q else K (a.put N undef) w :=
  goes_ hf hname hb args hw hN hop hargs h
end
theorem oB_ {α β : Type} {x : Option α} {f : α → Option β} {b : β} (h : x.bind f = some b) : ∃ a, x = some a ∧ f a = some b := Option.bind_eq_some_iff.mp h
theorem bs_ {w W w2 : World} (h : Below w.heap.size w W) (k : Below W.heap.size W w2) : Below w.heap.size w w2 := below_step h k
theorem bf_ {w : World} {g : Nat} {t : TypeId} {cs : Array Value} (h : w.heap[g]? = some (.cells cs t (0, 0))) (i : Nat) : w.frozen? ⟨g, i, none⟩ = false := blk_frozen h i
theorem bS_ {w W : World} {g : Nat} (h : Below w.heap.size w W) (e : g = W.heap.size) : w.heap.size ≤ g := by rw [e]; exact h.size
theorem oD_ {p : Prop} [Decidable p] (h : decide p = true := by with_reducible assumption) : p := of_decide_eq_true h
theorem A_ {p : Prop} (h : p) : Aside0 p := ⟨h⟩
section
variable {P : Program} {ops : Array Oper} {Q : Exit → Act → World → Prop} {o : Oper} {a : Act} {rest : List Oper}
theorem be_ {W : World} (n : Tmp) (cs : Array Value) (t : TypeId) (h : ∀ g, g = W.heap.size → ∀ w1, w1.heap[g]? = some (.cells cs t (0, 0)) → Below W.heap.size W w1 → wpList P ops Q rest (a.put o.dst (.pointer (some ⟨g, 0, none⟩))) w1) (hgd : o.guard = none := by exact rfl) (hd : o.dst = some n := by exact rfl)
    (hrun : (execOp a.eval o).run P W = .ok (.value (.pointer (some ⟨W.heap.size, 0, none⟩))) (W.alloc (.cells cs t (0, 0))) := by (go_simp; done)) : wpList P ops Q (o :: rest) a W :=
  box_event hgd hd hrun h
end
end Go.Proofs.Ytbeajmcjfhbcjaa.P
namespace Go.Proofs.Ytbeajmcjfhbcjaa.P
open Go.RowKit Go.Proofs.YtbeajmcjfhbcjaaW.PrintWords Go.Proofs.YtbeajmcjfhbcjaaW.PrintLast Go.Proofs.YtbeajmcjfhbcjaaW.PrintMore
attribute [local go_sem] max2_int min2_int max_two min_two max_three min_three max_four min_four   -- for this text's walks alone
set_option linter.unusedVariables false
set_option linter.unusedSimpArgs false

theorem eqA25 (d : Nat) (w : World) (x0 y0 : Int) (x1 y1 : Int) :
  (Op.equalIn (d + 2) 25 (.agg #[.int .i64 x0, .int .i64 x1]) (.agg #[.int .i64 y0, .int .i64 y1])).run Try.prog w = .ok (x0 == y0 && (x1 == y1)) w := by
 refine eqA_of Try.underlying25 (by kernel_rfl) ?_
 refine eqf_cons (by rfl) (by go_simp; rfl) (by go_simp; rfl) (by go_simp) ?_
 exact eqf_last (by rfl) (by go_simp; rfl) (by go_simp; rfl) (by go_simp)
def laws_big.f (l0 : List Int) : Option (Bool) := some (decide ((l0.length : Int) > 1048576))
set_option maxHeartbeats 8000000 in
set_option maxRecDepth 100000 in
theorem laws_big.calls (A0 : Option Addr) (c0 : Nat) (l0 : List Int) (r : Bool) (w : World) (hr0 : Kd.C (Kd.int .u8) w A0 l0.length l0) (hc0 : l0.length ≤ c0) (h : laws_big.f l0 = some r) :
  Calls Try.prog 15 #[.slice A0 l0.length c0] w fun e w' => e = .returned (.bool r) ∧ Drawn0 w w' := by
 have HR0 := A_ hr0
 have HC0 := A_ hc0
 clear hr0 hc0
 have H : (some (decide ((l0.length : Int) > 1048576))) = some r := h
 clear h
 obtain rfl := Option.some.inj H
 go_enter Try.func15, Try.ntmps15
 go_wp2
 go_ret
 exact ⟨by first | rfl | (simp; done) | (simp [*]; done), by repeat (first | exact Drawn0.refl _ | apply Drawn0.step)⟩

def impl_GridOk.f (a0_0 : Int) (a0_1 : Int) : Option (Bool) := if a0_0 ≥ 1 then (if a0_0 ≤ 4 then (if a0_1 ≥ 1 then (some (decide (a0_1 ≤ 4))) else (some false)) else (some false)) else (some false)
set_option maxHeartbeats 8000000 in
set_option maxRecDepth 100000 in
theorem impl_GridOk.calls (a0_0 : Int) (a0_1 : Int) (r : Bool) (w : World) (h : impl_GridOk.f a0_0 a0_1 = some r) :
  Calls Try.prog 82 #[.agg #[.int .i64 a0_0, .int .i64 a0_1]] w fun e w' => e = .returned (.bool r) ∧ Below w.heap.size w w' := by
 have hu25 := Try.underlying25
 have HB := A_ (Below.refl w.heap.size w)
 have H : (if a0_0 ≥ 1 then (if a0_0 ≤ 4 then (if a0_1 ≥ 1 then (some (decide (a0_1 ≤ 4))) else (some false)) else (some false)) else (some false)) = some r := h
 clear h
 by_cases c2 : a0_0 ≥ 1
 ·rw [if_pos c2] at H
  have c2b0 : decide (1 ≤ a0_0) = true := decide_eq_true c2
  clear c2
  by_cases c3 : a0_0 ≤ 4
  ·rw [if_pos c3] at H
   have c3b0 : decide (a0_0 ≤ 4) = true := decide_eq_true c3
   clear c3
   by_cases c4 : a0_1 ≥ 1
   ·rw [if_pos c4] at H
    have c4b0 : decide (1 ≤ a0_1) = true := decide_eq_true c4
    clear c4
    obtain rfl := Option.some.inj H
    go_enter Try.func82, Try.ntmps82
    go_wp2_with (((with_reducible refine gate_dst (N := 1) rfl ?_); refine be_ 1 #[.int .i64 a0_0, .int .i64 a0_1] 25 ?_; intro gb101 hg w5 hbox hb; have n0_ := A_ (bs_ HB.1 hb); have n1_ := A_ (hbox); have n2_ := A_ (bS_ HB.out hg); have n3_ := A_ (bS_ HB.out hg); clear HB; have HB := n0_; have BK101 := n1_; have GW101 := n2_; have GE101 := n3_; clear n0_ n1_ n2_ n3_ hb hbox hg; obtain ⟨hcz6_0, hcz6_1⟩ := kk2_ BK101.1; have hfz6_0 := bf_ BK101.out 0; have hfz6_1 := bf_ BK101.out 1))
    go_ret
    exact ⟨by rfl, by repeat ((with_reducible exact HB.out))⟩
   ·rw [if_neg c4] at H
    have c4b0 : decide (1 ≤ a0_1) = false := decide_eq_false c4
    clear c4
    obtain rfl := Option.some.inj H
    go_enter Try.func82, Try.ntmps82
    go_wp2_with (((with_reducible refine gate_dst (N := 1) rfl ?_); refine be_ 1 #[.int .i64 a0_0, .int .i64 a0_1] 25 ?_; intro gb101 hg w7 hbox hb; have n0_ := A_ (bs_ HB.1 hb); have n1_ := A_ (hbox); have n2_ := A_ (bS_ HB.out hg); have n3_ := A_ (bS_ HB.out hg); clear HB; have HB := n0_; have BK101 := n1_; have GW101 := n2_; have GE101 := n3_; clear n0_ n1_ n2_ n3_ hb hbox hg; obtain ⟨hcz8_0, hcz8_1⟩ := kk2_ BK101.1; have hfz8_0 := bf_ BK101.out 0; have hfz8_1 := bf_ BK101.out 1))
    go_ret
    exact ⟨by rfl, by repeat ((with_reducible exact HB.out))⟩
  ·rw [if_neg c3] at H
   have c3b0 : decide (a0_0 ≤ 4) = false := decide_eq_false c3
   clear c3
   obtain rfl := Option.some.inj H
   go_enter Try.func82, Try.ntmps82
   go_wp2_with (((with_reducible refine gate_dst (N := 1) rfl ?_); refine be_ 1 #[.int .i64 a0_0, .int .i64 a0_1] 25 ?_; intro gb101 hg w9 hbox hb; have n0_ := A_ (bs_ HB.1 hb); have n1_ := A_ (hbox); have n2_ := A_ (bS_ HB.out hg); have n3_ := A_ (bS_ HB.out hg); clear HB; have HB := n0_; have BK101 := n1_; have GW101 := n2_; have GE101 := n3_; clear n0_ n1_ n2_ n3_ hb hbox hg; obtain ⟨hcz10_0, hcz10_1⟩ := kk2_ BK101.1; have hfz10_0 := bf_ BK101.out 0; have hfz10_1 := bf_ BK101.out 1))
   go_ret
   exact ⟨by rfl, by repeat ((with_reducible exact HB.out))⟩
 ·rw [if_neg c2] at H
  have c2b0 : decide (1 ≤ a0_0) = false := decide_eq_false c2
  clear c2
  obtain rfl := Option.some.inj H
  go_enter Try.func82, Try.ntmps82
  go_wp2_with (((with_reducible refine gate_dst (N := 1) rfl ?_); refine be_ 1 #[.int .i64 a0_0, .int .i64 a0_1] 25 ?_; intro gb101 hg w11 hbox hb; have n0_ := A_ (bs_ HB.1 hb); have n1_ := A_ (hbox); have n2_ := A_ (bS_ HB.out hg); have n3_ := A_ (bS_ HB.out hg); clear HB; have HB := n0_; have BK101 := n1_; have GW101 := n2_; have GE101 := n3_; clear n0_ n1_ n2_ n3_ hb hbox hg; obtain ⟨hcz12_0, hcz12_1⟩ := kk2_ BK101.1; have hfz12_0 := bf_ BK101.out 0; have hfz12_1 := bf_ BK101.out 1))
  go_ret
  exact ⟨by rfl, by repeat ((with_reducible exact HB.out))⟩

def impl_CountGaps.f (a0_0 : Int) (a0_1 : Int) : Option (Int) := (impl_GridOk.f a0_0 a0_1).bind fun t102 => (if t102 = true then (some (wrap64 ((wrap64 ((wrap64 (a0_0 - 1)) * a0_1)) + (wrap64 (a0_0 * (wrap64 (a0_1 - 1))))))) else (some 0))
set_option maxHeartbeats 8000000 in
set_option maxRecDepth 100000 in
theorem impl_CountGaps.calls (a0_0 : Int) (a0_1 : Int) (r : Int) (w : World) (h : impl_CountGaps.f a0_0 a0_1 = some r) :
  Calls Try.prog 74 #[.agg #[.int .i64 a0_0, .int .i64 a0_1]] w fun e w' => e = .returned (.int .i64 r) ∧ Below w.heap.size w w' := by
 have hu25 := Try.underlying25
 have HB := A_ (Below.refl w.heap.size w)
 have H : ((impl_GridOk.f a0_0 a0_1).bind fun t102 => (if t102 = true then (some (wrap64 ((wrap64 ((wrap64 (a0_0 - 1)) * a0_1)) + (wrap64 (a0_0 * (wrap64 (a0_1 - 1))))))) else (some 0))) = some r := h
 clear h
 obtain ⟨t102, A20, H⟩ := oB_ H
 (try dsimp only at H); have A2 := A_ A20; clear A20
 by_cases c3 : t102 = true
 ·subst c3
  rw [if_pos rfl] at H
  obtain rfl := Option.some.inj H
  go_enter Try.func74, Try.ntmps74
  go_wp2_with (first | ((with_reducible refine gate_dst (N := 1) rfl ?_); refine be_ 1 #[.int .i64 a0_0, .int .i64 a0_1] 25 ?_; intro gb101 hg w4 hbox hb; have n0_ := A_ (bs_ HB.1 hb); have n1_ := A_ (hbox); have n2_ := A_ (bS_ HB.out hg); have n3_ := A_ (bS_ HB.out hg); clear HB; have HB := n0_; have BK101 := n1_; have GW101 := n2_; have GE101 := n3_; clear n0_ n1_ n2_ n3_ hb hbox hg; obtain ⟨hcz5_0, hcz5_1⟩ := kk2_ BK101.1; have hfz5_0 := bf_ BK101.out 0; have hfz5_1 := bf_ BK101.out 1) | ((with_reducible refine gate_callee (f := 82) rfl ?_); refine gl_ 4 Try.func82 #[.agg #[.int .i64 a0_0, .int .i64 a0_1]] ?_; (with_reducible refine (impl_GridOk.calls a0_0 a0_1 true _ A2.out).mono ?_); rintro e w6 ⟨rfl, hb⟩; refine ⟨_, rfl, ?_⟩; have n0_ := A_ (blk_below BK101.out hb); have n1_ := A_ (bs_ HB.1 hb); clear BK101 HB; have BK101 := n0_; have HB := n1_; clear n0_ n1_; (try clear hb); (try clear hk); obtain ⟨hcz7_0, hcz7_1⟩ := kk2_ BK101.1; have hfz7_0 := bf_ BK101.out 0; have hfz7_1 := bf_ BK101.out 1))
  go_ret
  exact ⟨by rfl, by repeat ((with_reducible exact HB.out))⟩
 ·replace c3 := Bool.eq_false_iff.mpr c3
  subst c3
  have H1 : (some 0) = some r := by rw [if_neg (show ¬ (false = true) by decide)] at H; exact H
  clear H
  have H := H1
  clear H1
  obtain rfl := Option.some.inj H
  go_enter Try.func74, Try.ntmps74
  go_wp2_with (first | ((with_reducible refine gate_dst (N := 1) rfl ?_); refine be_ 1 #[.int .i64 a0_0, .int .i64 a0_1] 25 ?_; intro gb101 hg w8 hbox hb; have n0_ := A_ (bs_ HB.1 hb); have n1_ := A_ (hbox); have n2_ := A_ (bS_ HB.out hg); have n3_ := A_ (bS_ HB.out hg); clear HB; have HB := n0_; have BK101 := n1_; have GW101 := n2_; have GE101 := n3_; clear n0_ n1_ n2_ n3_ hb hbox hg; obtain ⟨hcz9_0, hcz9_1⟩ := kk2_ BK101.1; have hfz9_0 := bf_ BK101.out 0; have hfz9_1 := bf_ BK101.out 1) | ((with_reducible refine gate_callee (f := 82) rfl ?_); refine gl_ 4 Try.func82 #[.agg #[.int .i64 a0_0, .int .i64 a0_1]] ?_; (with_reducible refine (impl_GridOk.calls a0_0 a0_1 false _ A2.out).mono ?_); rintro e w10 ⟨rfl, hb⟩; refine ⟨_, rfl, ?_⟩; have n0_ := A_ (blk_below BK101.out hb); have n1_ := A_ (bs_ HB.1 hb); clear BK101 HB; have BK101 := n0_; have HB := n1_; clear n0_ n1_; (try clear hb); (try clear hk)))
  go_ret
  exact ⟨by rfl, by repeat ((with_reducible exact HB.out))⟩

def impl_MazeOk.f (a0_0 : Int) (a0_1 : Int) (a0_2 : Int) : Option (Bool) := (impl_GridOk.f a0_0 a0_1).bind fun t102 => (if t102 = true then (if a0_2 ≥ 0 then ((impl_CountGaps.f a0_0 a0_1).bind fun t103 => (if 0 ≤ t103 then (some (decide (a0_2 < (shl .i64 1 t103)))) else (none))) else (some false)) else (some false))
def impl_MazeOk.T1 : Bool × List (List Nat × List Nat) := (true, [([], []), ([0], [0]), ([1], [1]), ([2, 2], [2]), ([3], [3]), ([4, 3], [3, 4]), ([5, 3], [3, 5]), ([3, 6], [3, 6]), ([7, 3], [7]), ([8], [8]), ([9, 8], [8, 9]), ([8], [8]), ([11, 8], [8, 11]), ([12, 8, 8], [8, 12]), ([13, 8], [8, 13]), ([10, 14, 8], [8, 10, 14]), ([8, 15], [8, 15]), ([16, 13, 0, 1, 2, 3, 4, 5, 6, 7, 8, 9, 10, 11, 12, 13, 14, 15, 16], [16])])
def impl_MazeOk.B1 : List Nat := [0, 1, 3, 7, 15, 31, 63, 127, 255, 511, 1023, 511, 2559, 6655, 14847, 32767, 65535, 131071]
theorem impl_MazeOk.tab1 : rtab .any (opsOf Try.f69 1) = impl_MazeOk.T1 := by kernel_rfl
theorem impl_MazeOk.bits1 : waitsOk impl_MazeOk.T1.2 impl_MazeOk.B1 = true := by kernel_rfl
set_option maxHeartbeats 8000000 in
set_option maxRecDepth 100000 in
theorem impl_MazeOk.calls (a0_0 : Int) (a0_1 : Int) (a0_2 : Int) (r : Bool) (w : World) (h : impl_MazeOk.f a0_0 a0_1 a0_2 = some r) :
  Calls Try.prog 69 #[.agg #[.int .i64 a0_0, .int .i64 a0_1, .int .i64 a0_2]] w fun e w' => e = .returned (.bool r) ∧ Below w.heap.size w w' := by
 have hu27 := Try.underlying27
 have hu25 := Try.underlying25
 have HB := A_ (Below.refl w.heap.size w)
 have H : ((impl_GridOk.f a0_0 a0_1).bind fun t102 => (if t102 = true then (if a0_2 ≥ 0 then ((impl_CountGaps.f a0_0 a0_1).bind fun t103 => (if 0 ≤ t103 then (some (decide (a0_2 < (shl .i64 1 t103)))) else (none))) else (some false)) else (some false))) = some r := h
 clear h
 obtain ⟨t102, A20, H⟩ := oB_ H
 (try dsimp only at H); have A2 := A_ A20; clear A20
 by_cases c3 : t102 = true
 ·subst c3
  rw [if_pos rfl] at H
  by_cases c4 : a0_2 ≥ 0
  ·rw [if_pos c4] at H
   have c4b0 : decide (0 ≤ a0_2) = true := decide_eq_true c4
   clear c4
   obtain ⟨t103, A50, H⟩ := oB_ H
   (try dsimp only at H); have A5 := A_ A50; clear A50
   replace H := iN_ H; obtain ⟨c6, H⟩ := H
   have c6b0 := eq_true c6
   have c6b1 : decide (0 ≤ t103) = true := decide_eq_true c6
   clear c6
   obtain ⟨ji7, hji7⟩ : ∃ j_ : Int, (shl .i64 1 t103) = j_ := ⟨_, rfl⟩
   replace H : (some (decide (a0_2 < (ji7)))) = some r := by (rw [hji7] at H; exact H)
   (try rw [hji7] at A2)
   (try rw [hji7] at A5)
   have hji7_ : (IntKind.i64.wrap (1 * 2 ^ min t103.toNat 64)) = ji7 := hji7
   have hji7z : t103 ≤ 64 → (IntKind.i64.wrap (1 * 2 ^ t103.toNat)) = ji7 := shl_small hji7
   have hji7u : (IntKind.i64.wrap (2 ^ min t103.toNat 64)) = ji7 := by have h_ := hji7_; rw [Int.one_mul] at h_; exact h_
   have hji7v : t103 ≤ 64 → (IntKind.i64.wrap (2 ^ t103.toNat)) = ji7 := fun hle_ => by have h_ := hji7z hle_; rw [Int.one_mul] at h_; exact h_
   have hji7y : (wrap64 (1 * 2 ^ min t103.toNat 64)) = ji7 := (i64_w _).symm.trans hji7_
   have hji7x : t103 ≤ 64 → (wrap64 (1 * 2 ^ t103.toNat)) = ji7 := fun h_ => (i64_w _).symm.trans (hji7z h_)
   obtain rfl := Option.some.inj H
   go_enter Try.func69, Try.ntmps69
   try go_wp2_with (((with_reducible refine gate_dst (N := 1) rfl ?_); refine be_ 1 #[.int .i64 a0_0, .int .i64 a0_1, .int .i64 a0_2] 27 ?_; intro gb101 hg w8 hbox hb; have n0_ := A_ (bs_ HB.1 hb); have n1_ := A_ (hbox); have n2_ := A_ (bS_ HB.out hg); have n3_ := A_ (bS_ HB.out hg); clear HB; have HB := n0_; have BK101 := n1_; have GW101 := n2_; have GE101 := n3_; clear n0_ n1_ n2_ n3_ hb hbox hg)); have n0_ := A_ (blk_drew BK101.out); have n1_ := A_ (below_drew1 HB.out); clear BK101 HB; have BK101 := n0_; have HB := n1_; clear n0_ n1_
   refine start_ (n := 18) (S := fun w' => w'.cell? ⟨gb101, 0, none⟩ = some (.int .i64 a0_0) ∧ w'.cell? ⟨gb101, 1, none⟩ = some (.int .i64 a0_1) ∧ w'.cell? ⟨gb101, 2, none⟩ = some (.int .i64 a0_2)) (ds := []) #[false, false, false, false, false, false, false, false, false, false, false, false, false, false, false, false, false, false] (by kernel_rfl) rfl rfl ⟨(blk_cell BK101.out 0).trans rfl, (blk_cell BK101.out 1).trans rfl, (blk_cell BK101.out 2).trans rfl⟩ (fun hHeld => ?_); refine with_tabW impl_MazeOk.tab1 impl_MazeOk.bits1 (fun HT_ HW_ => ?_)
   generalize w8.drew = w9 at BK101 HB hHeld ⊢; refine pv_ 0 3 HT_ ?_; refine tv_ 1 4 rfl HT_ HW_ hHeld (by rintro w' ⟨s0, s1, s2⟩; go_simp; with_reducible rfl) ?_
   refine on_ 2 (some 5) rfl rfl HT_ (by kernel_rfl) (by decide) (fun K hK => ?_)
   refine gs_ Try.func82 #[.agg #[.int .i64 a0_0, .int .i64 a0_1]] ?_
   with_reducible refine (impl_GridOk.calls a0_0 a0_1 true _ A2.out).mono ?_
   rintro e w10 ⟨rfl, hb⟩
   refine ⟨_, rfl, ?_⟩
   have n0_ := A_ (blk_below BK101.out hb)
   have n1_ := A_ (bs_ HB.1 hb)
   clear BK101 HB; have BK101 := n0_; have HB := n1_; clear n0_ n1_; (try clear hb); (try clear hk)
   refine hK.out _ _ ⟨(blk_cell BK101.out 0).trans rfl, (blk_cell BK101.out 1).trans rfl, (blk_cell BK101.out 2).trans rfl⟩ (fun hHeld => ?_)
   clear hK K
   refine norm_ (a' := ?_) ?_ ?_; rotate_left; (show Act.put _ (some 5) _ = _; simp only [P6_]; rfl)
   refine pv_ 3 6 HT_ ?_; refine pv_ 4 7 HT_ ?_; refine tv_ 5 8 rfl HT_ HW_ hHeld (by rintro w' ⟨s0, s1, s2⟩; go_simp; with_reducible rfl) ?_
   refine pv_ 6 9 HT_ ?_; refine pv_ 7 10 HT_ ?_; refine pv_ 8 11 HT_ ?_; refine pv_ 9 12 HT_ ?_; refine pv_ 11 14 HT_ ?_; refine tv_ 10 13 rfl HT_ HW_ hHeld (by rintro w' ⟨s0, s1, s2⟩; go_simp; with_reducible rfl) ?_
   refine tv_ 12 15 rfl HT_ HW_ hHeld (by rintro w' ⟨s0, s1, s2⟩; go_simp; with_reducible rfl) ?_
   refine on_ 13 (some 16) rfl rfl HT_ (by kernel_rfl) (by decide) (fun K hK => ?_)
   refine gs_ Try.func74 #[.agg #[.int .i64 a0_0, .int .i64 a0_1]] ?_
   with_reducible refine (impl_CountGaps.calls a0_0 a0_1 t103 _ A5.out).mono ?_
   rintro e w11 ⟨rfl, hb⟩
   refine ⟨_, rfl, ?_⟩
   have n0_ := A_ (blk_below BK101.out hb)
   have n1_ := A_ (bs_ HB.1 hb)
   clear BK101 HB; have BK101 := n0_; have HB := n1_; clear n0_ n1_; (try clear hb); (try clear hk)
   refine hK.out _ _ ⟨(blk_cell BK101.out 0).trans rfl, (blk_cell BK101.out 1).trans rfl, (blk_cell BK101.out 2).trans rfl⟩ (fun hHeld => ?_)
   clear hK K
   refine norm_ (a' := ?_) ?_ ?_; rotate_left; (show Act.put _ (some 16) _ = _; simp only [P6_]; rfl)
   refine pv_ 14 17 HT_ ?_; refine pv_ 15 18 HT_ ?_; refine pv_ 16 19 HT_ ?_; refine pv_ 17 2 HT_ ?_
   refine done_ (done_of HT_.out (by kernel_rfl)) ?_
   try go_wp2
   go_ret
   exact ⟨by rfl, by repeat ((with_reducible exact HB.out))⟩
  ·rw [if_neg c4] at H
   have c4b0 : decide (0 ≤ a0_2) = false := decide_eq_false c4
   clear c4
   obtain rfl := Option.some.inj H
   go_enter Try.func69, Try.ntmps69
   try go_wp2_with (((with_reducible refine gate_dst (N := 1) rfl ?_); refine be_ 1 #[.int .i64 a0_0, .int .i64 a0_1, .int .i64 a0_2] 27 ?_; intro gb101 hg w12 hbox hb; have n0_ := A_ (bs_ HB.1 hb); have n1_ := A_ (hbox); have n2_ := A_ (bS_ HB.out hg); have n3_ := A_ (bS_ HB.out hg); clear HB; have HB := n0_; have BK101 := n1_; have GW101 := n2_; have GE101 := n3_; clear n0_ n1_ n2_ n3_ hb hbox hg)); have n0_ := A_ (blk_drew BK101.out); have n1_ := A_ (below_drew1 HB.out); clear BK101 HB; have BK101 := n0_; have HB := n1_; clear n0_ n1_
   refine start_ (n := 18) (S := fun w' => w'.cell? ⟨gb101, 0, none⟩ = some (.int .i64 a0_0) ∧ w'.cell? ⟨gb101, 1, none⟩ = some (.int .i64 a0_1) ∧ w'.cell? ⟨gb101, 2, none⟩ = some (.int .i64 a0_2)) (ds := []) #[false, false, false, false, false, false, false, false, false, false, false, false, false, false, false, false, false, false] (by kernel_rfl) rfl rfl ⟨(blk_cell BK101.out 0).trans rfl, (blk_cell BK101.out 1).trans rfl, (blk_cell BK101.out 2).trans rfl⟩ (fun hHeld => ?_); refine with_tabW impl_MazeOk.tab1 impl_MazeOk.bits1 (fun HT_ HW_ => ?_)
   generalize w12.drew = w13 at BK101 HB hHeld ⊢; refine pv_ 0 3 HT_ ?_; refine tv_ 1 4 rfl HT_ HW_ hHeld (by rintro w' ⟨s0, s1, s2⟩; go_simp; with_reducible rfl) ?_
   refine on_ 2 (some 5) rfl rfl HT_ (by kernel_rfl) (by decide) (fun K hK => ?_)
   refine gs_ Try.func82 #[.agg #[.int .i64 a0_0, .int .i64 a0_1]] ?_
   with_reducible refine (impl_GridOk.calls a0_0 a0_1 true _ A2.out).mono ?_
   rintro e w14 ⟨rfl, hb⟩
   refine ⟨_, rfl, ?_⟩
   have n0_ := A_ (blk_below BK101.out hb)
   have n1_ := A_ (bs_ HB.1 hb)
   clear BK101 HB; have BK101 := n0_; have HB := n1_; clear n0_ n1_; (try clear hb); (try clear hk)
   refine hK.out _ _ ⟨(blk_cell BK101.out 0).trans rfl, (blk_cell BK101.out 1).trans rfl, (blk_cell BK101.out 2).trans rfl⟩ (fun hHeld => ?_)
   clear hK K
   refine norm_ (a' := ?_) ?_ ?_; rotate_left; (show Act.put _ (some 5) _ = _; simp only [P6_]; rfl)
   refine pv_ 3 6 HT_ ?_; refine pv_ 4 7 HT_ ?_; refine tv_ 5 8 rfl HT_ HW_ hHeld (by rintro w' ⟨s0, s1, s2⟩; go_simp; with_reducible rfl) ?_
   refine pv_ 6 9 HT_ ?_; refine pv_ 7 10 HT_ ?_; refine pv_ 8 11 HT_ ?_; refine pw_ 9 12 HT_ ?_; refine pw_ 10 13 HT_ ?_; refine pw_ 11 14 HT_ ?_; refine pw_ 12 15 HT_ ?_; refine pw_ 13 16 HT_ ?_; refine pw_ 14 17 HT_ ?_; refine pw_ 15 18 HT_ ?_; refine pv_ 16 19 HT_ ?_; refine pv_ 17 2 HT_ ?_
   refine done_ (done_of HT_.out (by kernel_rfl)) ?_
   try go_wp2
   go_ret
   exact ⟨by rfl, by repeat ((with_reducible exact HB.out))⟩
 ·replace c3 := Bool.eq_false_iff.mpr c3
  subst c3
  have H1 : (some false) = some r := by rw [if_neg (show ¬ (false = true) by decide)] at H; exact H
  clear H
  have H := H1
  clear H1
  obtain rfl := Option.some.inj H
  go_enter Try.func69, Try.ntmps69
  try go_wp2_with (((with_reducible refine gate_dst (N := 1) rfl ?_); refine be_ 1 #[.int .i64 a0_0, .int .i64 a0_1, .int .i64 a0_2] 27 ?_; intro gb101 hg w15 hbox hb; have n0_ := A_ (bs_ HB.1 hb); have n1_ := A_ (hbox); have n2_ := A_ (bS_ HB.out hg); have n3_ := A_ (bS_ HB.out hg); clear HB; have HB := n0_; have BK101 := n1_; have GW101 := n2_; have GE101 := n3_; clear n0_ n1_ n2_ n3_ hb hbox hg)); have n0_ := A_ (blk_drew BK101.out); have n1_ := A_ (below_drew1 HB.out); clear BK101 HB; have BK101 := n0_; have HB := n1_; clear n0_ n1_
  refine start_ (n := 18) (S := fun w' => w'.cell? ⟨gb101, 0, none⟩ = some (.int .i64 a0_0) ∧ w'.cell? ⟨gb101, 1, none⟩ = some (.int .i64 a0_1) ∧ w'.cell? ⟨gb101, 2, none⟩ = some (.int .i64 a0_2)) (ds := []) #[false, false, false, false, false, false, false, false, false, false, false, false, false, false, false, false, false, false] (by kernel_rfl) rfl rfl ⟨(blk_cell BK101.out 0).trans rfl, (blk_cell BK101.out 1).trans rfl, (blk_cell BK101.out 2).trans rfl⟩ (fun hHeld => ?_); refine with_tabW impl_MazeOk.tab1 impl_MazeOk.bits1 (fun HT_ HW_ => ?_)
  generalize w15.drew = w16 at BK101 HB hHeld ⊢; refine pv_ 0 3 HT_ ?_; refine tv_ 1 4 rfl HT_ HW_ hHeld (by rintro w' ⟨s0, s1, s2⟩; go_simp; with_reducible rfl) ?_
  refine on_ 2 (some 5) rfl rfl HT_ (by kernel_rfl) (by decide) (fun K hK => ?_)
  refine gs_ Try.func82 #[.agg #[.int .i64 a0_0, .int .i64 a0_1]] ?_
  with_reducible refine (impl_GridOk.calls a0_0 a0_1 false _ A2.out).mono ?_
  rintro e w17 ⟨rfl, hb⟩
  refine ⟨_, rfl, ?_⟩
  have n0_ := A_ (blk_below BK101.out hb)
  have n1_ := A_ (bs_ HB.1 hb)
  clear BK101 HB; have BK101 := n0_; have HB := n1_; clear n0_ n1_; (try clear hb); (try clear hk)
  refine hK.out _ _ ⟨(blk_cell BK101.out 0).trans rfl, (blk_cell BK101.out 1).trans rfl, (blk_cell BK101.out 2).trans rfl⟩ (fun hHeld => ?_)
  clear hK K
  refine norm_ (a' := ?_) ?_ ?_; rotate_left; (show Act.put _ (some 5) _ = _; simp only [P6_]; rfl)
  refine pv_ 3 6 HT_ ?_; refine pw_ 4 7 HT_ ?_; refine pw_ 5 8 HT_ ?_; refine pw_ 6 9 HT_ ?_; refine pv_ 7 10 HT_ ?_; refine pv_ 8 11 HT_ ?_; refine pw_ 9 12 HT_ ?_; refine pw_ 10 13 HT_ ?_; refine pw_ 11 14 HT_ ?_; refine pw_ 12 15 HT_ ?_; refine pw_ 13 16 HT_ ?_; refine pw_ 14 17 HT_ ?_; refine pw_ 15 18 HT_ ?_; refine pv_ 16 19 HT_ ?_; refine pv_ 17 2 HT_ ?_
  refine done_ (done_of HT_.out (by kernel_rfl)) ?_
  try go_wp2
  go_ret
  exact ⟨by rfl, by repeat ((with_reducible exact HB.out))⟩

def bits_OnesCount64.f (a0 : Int) : Option (Int) := some (Go.bits .and .i64 (wrap64 (IntKind.u64.wrap ((IntKind.u64.wrap ((IntKind.u64.wrap ((Go.bits .and .u64 (IntKind.u64.wrap (((IntKind.u64.wrap ((Go.bits .and .u64 ((IntKind.u64.wrap ((Go.bits .and .u64 (a0 / 2) 6148914691236517205) + (Go.bits .and .u64 a0 6148914691236517205))) / 4) 3689348814741910323) + (Go.bits .and .u64 (IntKind.u64.wrap ((Go.bits .and .u64 (a0 / 2) 6148914691236517205) + (Go.bits .and .u64 a0 6148914691236517205))) 3689348814741910323))) / 16) + (IntKind.u64.wrap ((Go.bits .and .u64 ((IntKind.u64.wrap ((Go.bits .and .u64 (a0 / 2) 6148914691236517205) + (Go.bits .and .u64 a0 6148914691236517205))) / 4) 3689348814741910323) + (Go.bits .and .u64 (IntKind.u64.wrap ((Go.bits .and .u64 (a0 / 2) 6148914691236517205) + (Go.bits .and .u64 a0 6148914691236517205))) 3689348814741910323))))) 1085102592571150095) + ((Go.bits .and .u64 (IntKind.u64.wrap (((IntKind.u64.wrap ((Go.bits .and .u64 ((IntKind.u64.wrap ((Go.bits .and .u64 (a0 / 2) 6148914691236517205) + (Go.bits .and .u64 a0 6148914691236517205))) / 4) 3689348814741910323) + (Go.bits .and .u64 (IntKind.u64.wrap ((Go.bits .and .u64 (a0 / 2) 6148914691236517205) + (Go.bits .and .u64 a0 6148914691236517205))) 3689348814741910323))) / 16) + (IntKind.u64.wrap ((Go.bits .and .u64 ((IntKind.u64.wrap ((Go.bits .and .u64 (a0 / 2) 6148914691236517205) + (Go.bits .and .u64 a0 6148914691236517205))) / 4) 3689348814741910323) + (Go.bits .and .u64 (IntKind.u64.wrap ((Go.bits .and .u64 (a0 / 2) 6148914691236517205) + (Go.bits .and .u64 a0 6148914691236517205))) 3689348814741910323))))) 1085102592571150095) / 256))) + ((IntKind.u64.wrap ((Go.bits .and .u64 (IntKind.u64.wrap (((IntKind.u64.wrap ((Go.bits .and .u64 ((IntKind.u64.wrap ((Go.bits .and .u64 (a0 / 2) 6148914691236517205) + (Go.bits .and .u64 a0 6148914691236517205))) / 4) 3689348814741910323) + (Go.bits .and .u64 (IntKind.u64.wrap ((Go.bits .and .u64 (a0 / 2) 6148914691236517205) + (Go.bits .and .u64 a0 6148914691236517205))) 3689348814741910323))) / 16) + (IntKind.u64.wrap ((Go.bits .and .u64 ((IntKind.u64.wrap ((Go.bits .and .u64 (a0 / 2) 6148914691236517205) + (Go.bits .and .u64 a0 6148914691236517205))) / 4) 3689348814741910323) + (Go.bits .and .u64 (IntKind.u64.wrap ((Go.bits .and .u64 (a0 / 2) 6148914691236517205) + (Go.bits .and .u64 a0 6148914691236517205))) 3689348814741910323))))) 1085102592571150095) + ((Go.bits .and .u64 (IntKind.u64.wrap (((IntKind.u64.wrap ((Go.bits .and .u64 ((IntKind.u64.wrap ((Go.bits .and .u64 (a0 / 2) 6148914691236517205) + (Go.bits .and .u64 a0 6148914691236517205))) / 4) 3689348814741910323) + (Go.bits .and .u64 (IntKind.u64.wrap ((Go.bits .and .u64 (a0 / 2) 6148914691236517205) + (Go.bits .and .u64 a0 6148914691236517205))) 3689348814741910323))) / 16) + (IntKind.u64.wrap ((Go.bits .and .u64 ((IntKind.u64.wrap ((Go.bits .and .u64 (a0 / 2) 6148914691236517205) + (Go.bits .and .u64 a0 6148914691236517205))) / 4) 3689348814741910323) + (Go.bits .and .u64 (IntKind.u64.wrap ((Go.bits .and .u64 (a0 / 2) 6148914691236517205) + (Go.bits .and .u64 a0 6148914691236517205))) 3689348814741910323))))) 1085102592571150095) / 256))) / 65536))) + ((IntKind.u64.wrap ((IntKind.u64.wrap ((Go.bits .and .u64 (IntKind.u64.wrap (((IntKind.u64.wrap ((Go.bits .and .u64 ((IntKind.u64.wrap ((Go.bits .and .u64 (a0 / 2) 6148914691236517205) + (Go.bits .and .u64 a0 6148914691236517205))) / 4) 3689348814741910323) + (Go.bits .and .u64 (IntKind.u64.wrap ((Go.bits .and .u64 (a0 / 2) 6148914691236517205) + (Go.bits .and .u64 a0 6148914691236517205))) 3689348814741910323))) / 16) + (IntKind.u64.wrap ((Go.bits .and .u64 ((IntKind.u64.wrap ((Go.bits .and .u64 (a0 / 2) 6148914691236517205) + (Go.bits .and .u64 a0 6148914691236517205))) / 4) 3689348814741910323) + (Go.bits .and .u64 (IntKind.u64.wrap ((Go.bits .and .u64 (a0 / 2) 6148914691236517205) + (Go.bits .and .u64 a0 6148914691236517205))) 3689348814741910323))))) 1085102592571150095) + ((Go.bits .and .u64 (IntKind.u64.wrap (((IntKind.u64.wrap ((Go.bits .and .u64 ((IntKind.u64.wrap ((Go.bits .and .u64 (a0 / 2) 6148914691236517205) + (Go.bits .and .u64 a0 6148914691236517205))) / 4) 3689348814741910323) + (Go.bits .and .u64 (IntKind.u64.wrap ((Go.bits .and .u64 (a0 / 2) 6148914691236517205) + (Go.bits .and .u64 a0 6148914691236517205))) 3689348814741910323))) / 16) + (IntKind.u64.wrap ((Go.bits .and .u64 ((IntKind.u64.wrap ((Go.bits .and .u64 (a0 / 2) 6148914691236517205) + (Go.bits .and .u64 a0 6148914691236517205))) / 4) 3689348814741910323) + (Go.bits .and .u64 (IntKind.u64.wrap ((Go.bits .and .u64 (a0 / 2) 6148914691236517205) + (Go.bits .and .u64 a0 6148914691236517205))) 3689348814741910323))))) 1085102592571150095) / 256))) + ((IntKind.u64.wrap ((Go.bits .and .u64 (IntKind.u64.wrap (((IntKind.u64.wrap ((Go.bits .and .u64 ((IntKind.u64.wrap ((Go.bits .and .u64 (a0 / 2) 6148914691236517205) + (Go.bits .and .u64 a0 6148914691236517205))) / 4) 3689348814741910323) + (Go.bits .and .u64 (IntKind.u64.wrap ((Go.bits .and .u64 (a0 / 2) 6148914691236517205) + (Go.bits .and .u64 a0 6148914691236517205))) 3689348814741910323))) / 16) + (IntKind.u64.wrap ((Go.bits .and .u64 ((IntKind.u64.wrap ((Go.bits .and .u64 (a0 / 2) 6148914691236517205) + (Go.bits .and .u64 a0 6148914691236517205))) / 4) 3689348814741910323) + (Go.bits .and .u64 (IntKind.u64.wrap ((Go.bits .and .u64 (a0 / 2) 6148914691236517205) + (Go.bits .and .u64 a0 6148914691236517205))) 3689348814741910323))))) 1085102592571150095) + ((Go.bits .and .u64 (IntKind.u64.wrap (((IntKind.u64.wrap ((Go.bits .and .u64 ((IntKind.u64.wrap ((Go.bits .and .u64 (a0 / 2) 6148914691236517205) + (Go.bits .and .u64 a0 6148914691236517205))) / 4) 3689348814741910323) + (Go.bits .and .u64 (IntKind.u64.wrap ((Go.bits .and .u64 (a0 / 2) 6148914691236517205) + (Go.bits .and .u64 a0 6148914691236517205))) 3689348814741910323))) / 16) + (IntKind.u64.wrap ((Go.bits .and .u64 ((IntKind.u64.wrap ((Go.bits .and .u64 (a0 / 2) 6148914691236517205) + (Go.bits .and .u64 a0 6148914691236517205))) / 4) 3689348814741910323) + (Go.bits .and .u64 (IntKind.u64.wrap ((Go.bits .and .u64 (a0 / 2) 6148914691236517205) + (Go.bits .and .u64 a0 6148914691236517205))) 3689348814741910323))))) 1085102592571150095) / 256))) / 65536))) / 4294967296)))) 127)
set_option maxHeartbeats 8000000 in
set_option maxRecDepth 100000 in
theorem bits_OnesCount64.calls (a0 : Int) (r : Int) (w : World) (h : bits_OnesCount64.f a0 = some r) :
  Calls Try.prog 154 #[.int .u64 a0] w fun e w' => e = .returned (.int .i64 r) ∧ Drawn0 w w' := by
 have H : (some (Go.bits .and .i64 (wrap64 (IntKind.u64.wrap ((IntKind.u64.wrap ((IntKind.u64.wrap ((Go.bits .and .u64 (IntKind.u64.wrap (((IntKind.u64.wrap ((Go.bits .and .u64 ((IntKind.u64.wrap ((Go.bits .and .u64 (a0 / 2) 6148914691236517205) + (Go.bits .and .u64 a0 6148914691236517205))) / 4) 3689348814741910323) + (Go.bits .and .u64 (IntKind.u64.wrap ((Go.bits .and .u64 (a0 / 2) 6148914691236517205) + (Go.bits .and .u64 a0 6148914691236517205))) 3689348814741910323))) / 16) + (IntKind.u64.wrap ((Go.bits .and .u64 ((IntKind.u64.wrap ((Go.bits .and .u64 (a0 / 2) 6148914691236517205) + (Go.bits .and .u64 a0 6148914691236517205))) / 4) 3689348814741910323) + (Go.bits .and .u64 (IntKind.u64.wrap ((Go.bits .and .u64 (a0 / 2) 6148914691236517205) + (Go.bits .and .u64 a0 6148914691236517205))) 3689348814741910323))))) 1085102592571150095) + ((Go.bits .and .u64 (IntKind.u64.wrap (((IntKind.u64.wrap ((Go.bits .and .u64 ((IntKind.u64.wrap ((Go.bits .and .u64 (a0 / 2) 6148914691236517205) + (Go.bits .and .u64 a0 6148914691236517205))) / 4) 3689348814741910323) + (Go.bits .and .u64 (IntKind.u64.wrap ((Go.bits .and .u64 (a0 / 2) 6148914691236517205) + (Go.bits .and .u64 a0 6148914691236517205))) 3689348814741910323))) / 16) + (IntKind.u64.wrap ((Go.bits .and .u64 ((IntKind.u64.wrap ((Go.bits .and .u64 (a0 / 2) 6148914691236517205) + (Go.bits .and .u64 a0 6148914691236517205))) / 4) 3689348814741910323) + (Go.bits .and .u64 (IntKind.u64.wrap ((Go.bits .and .u64 (a0 / 2) 6148914691236517205) + (Go.bits .and .u64 a0 6148914691236517205))) 3689348814741910323))))) 1085102592571150095) / 256))) + ((IntKind.u64.wrap ((Go.bits .and .u64 (IntKind.u64.wrap (((IntKind.u64.wrap ((Go.bits .and .u64 ((IntKind.u64.wrap ((Go.bits .and .u64 (a0 / 2) 6148914691236517205) + (Go.bits .and .u64 a0 6148914691236517205))) / 4) 3689348814741910323) + (Go.bits .and .u64 (IntKind.u64.wrap ((Go.bits .and .u64 (a0 / 2) 6148914691236517205) + (Go.bits .and .u64 a0 6148914691236517205))) 3689348814741910323))) / 16) + (IntKind.u64.wrap ((Go.bits .and .u64 ((IntKind.u64.wrap ((Go.bits .and .u64 (a0 / 2) 6148914691236517205) + (Go.bits .and .u64 a0 6148914691236517205))) / 4) 3689348814741910323) + (Go.bits .and .u64 (IntKind.u64.wrap ((Go.bits .and .u64 (a0 / 2) 6148914691236517205) + (Go.bits .and .u64 a0 6148914691236517205))) 3689348814741910323))))) 1085102592571150095) + ((Go.bits .and .u64 (IntKind.u64.wrap (((IntKind.u64.wrap ((Go.bits .and .u64 ((IntKind.u64.wrap ((Go.bits .and .u64 (a0 / 2) 6148914691236517205) + (Go.bits .and .u64 a0 6148914691236517205))) / 4) 3689348814741910323) + (Go.bits .and .u64 (IntKind.u64.wrap ((Go.bits .and .u64 (a0 / 2) 6148914691236517205) + (Go.bits .and .u64 a0 6148914691236517205))) 3689348814741910323))) / 16) + (IntKind.u64.wrap ((Go.bits .and .u64 ((IntKind.u64.wrap ((Go.bits .and .u64 (a0 / 2) 6148914691236517205) + (Go.bits .and .u64 a0 6148914691236517205))) / 4) 3689348814741910323) + (Go.bits .and .u64 (IntKind.u64.wrap ((Go.bits .and .u64 (a0 / 2) 6148914691236517205) + (Go.bits .and .u64 a0 6148914691236517205))) 3689348814741910323))))) 1085102592571150095) / 256))) / 65536))) + ((IntKind.u64.wrap ((IntKind.u64.wrap ((Go.bits .and .u64 (IntKind.u64.wrap (((IntKind.u64.wrap ((Go.bits .and .u64 ((IntKind.u64.wrap ((Go.bits .and .u64 (a0 / 2) 6148914691236517205) + (Go.bits .and .u64 a0 6148914691236517205))) / 4) 3689348814741910323) + (Go.bits .and .u64 (IntKind.u64.wrap ((Go.bits .and .u64 (a0 / 2) 6148914691236517205) + (Go.bits .and .u64 a0 6148914691236517205))) 3689348814741910323))) / 16) + (IntKind.u64.wrap ((Go.bits .and .u64 ((IntKind.u64.wrap ((Go.bits .and .u64 (a0 / 2) 6148914691236517205) + (Go.bits .and .u64 a0 6148914691236517205))) / 4) 3689348814741910323) + (Go.bits .and .u64 (IntKind.u64.wrap ((Go.bits .and .u64 (a0 / 2) 6148914691236517205) + (Go.bits .and .u64 a0 6148914691236517205))) 3689348814741910323))))) 1085102592571150095) + ((Go.bits .and .u64 (IntKind.u64.wrap (((IntKind.u64.wrap ((Go.bits .and .u64 ((IntKind.u64.wrap ((Go.bits .and .u64 (a0 / 2) 6148914691236517205) + (Go.bits .and .u64 a0 6148914691236517205))) / 4) 3689348814741910323) + (Go.bits .and .u64 (IntKind.u64.wrap ((Go.bits .and .u64 (a0 / 2) 6148914691236517205) + (Go.bits .and .u64 a0 6148914691236517205))) 3689348814741910323))) / 16) + (IntKind.u64.wrap ((Go.bits .and .u64 ((IntKind.u64.wrap ((Go.bits .and .u64 (a0 / 2) 6148914691236517205) + (Go.bits .and .u64 a0 6148914691236517205))) / 4) 3689348814741910323) + (Go.bits .and .u64 (IntKind.u64.wrap ((Go.bits .and .u64 (a0 / 2) 6148914691236517205) + (Go.bits .and .u64 a0 6148914691236517205))) 3689348814741910323))))) 1085102592571150095) / 256))) + ((IntKind.u64.wrap ((Go.bits .and .u64 (IntKind.u64.wrap (((IntKind.u64.wrap ((Go.bits .and .u64 ((IntKind.u64.wrap ((Go.bits .and .u64 (a0 / 2) 6148914691236517205) + (Go.bits .and .u64 a0 6148914691236517205))) / 4) 3689348814741910323) + (Go.bits .and .u64 (IntKind.u64.wrap ((Go.bits .and .u64 (a0 / 2) 6148914691236517205) + (Go.bits .and .u64 a0 6148914691236517205))) 3689348814741910323))) / 16) + (IntKind.u64.wrap ((Go.bits .and .u64 ((IntKind.u64.wrap ((Go.bits .and .u64 (a0 / 2) 6148914691236517205) + (Go.bits .and .u64 a0 6148914691236517205))) / 4) 3689348814741910323) + (Go.bits .and .u64 (IntKind.u64.wrap ((Go.bits .and .u64 (a0 / 2) 6148914691236517205) + (Go.bits .and .u64 a0 6148914691236517205))) 3689348814741910323))))) 1085102592571150095) + ((Go.bits .and .u64 (IntKind.u64.wrap (((IntKind.u64.wrap ((Go.bits .and .u64 ((IntKind.u64.wrap ((Go.bits .and .u64 (a0 / 2) 6148914691236517205) + (Go.bits .and .u64 a0 6148914691236517205))) / 4) 3689348814741910323) + (Go.bits .and .u64 (IntKind.u64.wrap ((Go.bits .and .u64 (a0 / 2) 6148914691236517205) + (Go.bits .and .u64 a0 6148914691236517205))) 3689348814741910323))) / 16) + (IntKind.u64.wrap ((Go.bits .and .u64 ((IntKind.u64.wrap ((Go.bits .and .u64 (a0 / 2) 6148914691236517205) + (Go.bits .and .u64 a0 6148914691236517205))) / 4) 3689348814741910323) + (Go.bits .and .u64 (IntKind.u64.wrap ((Go.bits .and .u64 (a0 / 2) 6148914691236517205) + (Go.bits .and .u64 a0 6148914691236517205))) 3689348814741910323))))) 1085102592571150095) / 256))) / 65536))) / 4294967296)))) 127)) = some r := h
 clear h
 obtain rfl := Option.some.inj H
 go_enter Try.func154, Try.ntmps154
 go_wp2
 go_ret
 exact ⟨by rfl, by repeat (exact Drawn0.refl _)⟩

def bits_OnesCount.f (a0 : Int) : Option (Int) := (bits_OnesCount64.f a0).bind fun t101 => (some t101)
set_option maxHeartbeats 8000000 in
set_option maxRecDepth 100000 in
theorem bits_OnesCount.calls (a0 : Int) (r : Int) (w : World) (h : bits_OnesCount.f a0 = some r) :
  Calls Try.prog 120 #[.int .u64 a0] w fun e w' => e = .returned (.int .i64 r) ∧ Drawn0 w w' := by
 have H : ((bits_OnesCount64.f a0).bind fun t101 => (some t101)) = some r := h
 clear h
 obtain ⟨t101, A20, H⟩ := oB_ H
 (try dsimp only at H); have A2 := A_ A20; clear A20
 obtain rfl := Option.some.inj H
 go_enter Try.func120, Try.ntmps120
 go_wp2_with (first | ((with_reducible refine gate_callee (f := 154) rfl ?_); refine gl_ 7 Try.func154 #[.int .u64 a0] ?_; (with_reducible refine (bits_OnesCount64.calls a0 t101 _ A2.out).mono ?_); rintro e w' ⟨rfl, ⟨nd, rfl⟩⟩; refine ⟨_, rfl, ?_⟩))
 go_ret
 exact ⟨by first | rfl | (simp; done) | (simp [*]; done), by repeat (first | exact Drawn0.refl _ | apply Drawn0.step)⟩

def impl_CountPassages.f (a0_0 : Int) (a0_1 : Int) (a0_2 : Int) : Option (Int) := (impl_MazeOk.f a0_0 a0_1 a0_2).bind fun t102 => (if t102 = true then ((bits_OnesCount.f (IntKind.u64.wrap (a0_2))).bind fun t103 => (some t103)) else (some 0))
set_option maxHeartbeats 8000000 in
set_option maxRecDepth 100000 in
theorem impl_CountPassages.calls (a0_0 : Int) (a0_1 : Int) (a0_2 : Int) (r : Int) (w : World) (h : impl_CountPassages.f a0_0 a0_1 a0_2 = some r) :
  Calls Try.prog 60 #[.agg #[.int .i64 a0_0, .int .i64 a0_1, .int .i64 a0_2]] w fun e w' => e = .returned (.int .i64 r) ∧ Below w.heap.size w w' := by
 have hu27 := Try.underlying27
 have HB := A_ (Below.refl w.heap.size w)
 have H : ((impl_MazeOk.f a0_0 a0_1 a0_2).bind fun t102 => (if t102 = true then ((bits_OnesCount.f (IntKind.u64.wrap (a0_2))).bind fun t103 => (some t103)) else (some 0))) = some r := h
 clear h
 obtain ⟨t102, A20, H⟩ := oB_ H
 (try dsimp only at H); have A2 := A_ A20; clear A20
 by_cases c3 : t102 = true
 ·subst c3
  rw [if_pos rfl] at H
  obtain ⟨t103, A40, H⟩ := oB_ H
  (try dsimp only at H); have A4 := A_ A40; clear A40
  obtain rfl := Option.some.inj H
  go_enter Try.func60, Try.ntmps60
  go_wp2_with (first | ((with_reducible refine gate_dst (N := 1) rfl ?_); refine be_ 1 #[.int .i64 a0_0, .int .i64 a0_1, .int .i64 a0_2] 27 ?_; intro gb101 hg w5 hbox hb; have n0_ := A_ (bs_ HB.1 hb); have n1_ := A_ (hbox); have n2_ := A_ (bS_ HB.out hg); have n3_ := A_ (bS_ HB.out hg); clear HB; have HB := n0_; have BK101 := n1_; have GW101 := n2_; have GE101 := n3_; clear n0_ n1_ n2_ n3_ hb hbox hg; obtain ⟨hcz6_0, hcz6_1, hcz6_2⟩ := kk3_ BK101.1; have hfz6_0 := bf_ BK101.out 0; have hfz6_1 := bf_ BK101.out 1; have hfz6_2 := bf_ BK101.out 2) | ((with_reducible refine gate_callee (f := 69) rfl ?_); refine gl_ 4 Try.func69 #[.agg #[.int .i64 a0_0, .int .i64 a0_1, .int .i64 a0_2]] ?_; (with_reducible refine (impl_MazeOk.calls a0_0 a0_1 a0_2 true _ A2.out).mono ?_); rintro e w7 ⟨rfl, hb⟩; refine ⟨_, rfl, ?_⟩; have n0_ := A_ (blk_below BK101.out hb); have n1_ := A_ (bs_ HB.1 hb); clear BK101 HB; have BK101 := n0_; have HB := n1_; clear n0_ n1_; (try clear hb); (try clear hk); obtain ⟨hcz8_0, hcz8_1, hcz8_2⟩ := kk3_ BK101.1; have hfz8_0 := bf_ BK101.out 0; have hfz8_1 := bf_ BK101.out 1; have hfz8_2 := bf_ BK101.out 2) | ((with_reducible refine gate_callee (f := 120) rfl ?_); refine gl_ 9 Try.func120 #[.int .u64 (IntKind.u64.wrap (a0_2))] ?_; (with_reducible refine (bits_OnesCount.calls (IntKind.u64.wrap (a0_2)) t103 _ A4.out).mono ?_); rintro e w' ⟨rfl, ⟨nd, rfl⟩⟩; refine ⟨_, rfl, ?_⟩))
  go_ret
  exact ⟨by rfl, by repeat ((with_reducible first | exact HB.out | apply pw_below_drewN))⟩
 ·replace c3 := Bool.eq_false_iff.mpr c3
  subst c3
  have H1 : (some 0) = some r := by rw [if_neg (show ¬ (false = true) by decide)] at H; exact H
  clear H
  have H := H1
  clear H1
  obtain rfl := Option.some.inj H
  go_enter Try.func60, Try.ntmps60
  go_wp2_with (first | ((with_reducible refine gate_dst (N := 1) rfl ?_); refine be_ 1 #[.int .i64 a0_0, .int .i64 a0_1, .int .i64 a0_2] 27 ?_; intro gb101 hg w9 hbox hb; have n0_ := A_ (bs_ HB.1 hb); have n1_ := A_ (hbox); have n2_ := A_ (bS_ HB.out hg); have n3_ := A_ (bS_ HB.out hg); clear HB; have HB := n0_; have BK101 := n1_; have GW101 := n2_; have GE101 := n3_; clear n0_ n1_ n2_ n3_ hb hbox hg; obtain ⟨hcz10_0, hcz10_1, hcz10_2⟩ := kk3_ BK101.1; have hfz10_0 := bf_ BK101.out 0; have hfz10_1 := bf_ BK101.out 1; have hfz10_2 := bf_ BK101.out 2) | ((with_reducible refine gate_callee (f := 69) rfl ?_); refine gl_ 4 Try.func69 #[.agg #[.int .i64 a0_0, .int .i64 a0_1, .int .i64 a0_2]] ?_; (with_reducible refine (impl_MazeOk.calls a0_0 a0_1 a0_2 false _ A2.out).mono ?_); rintro e w11 ⟨rfl, hb⟩; refine ⟨_, rfl, ?_⟩; have n0_ := A_ (blk_below BK101.out hb); have n1_ := A_ (bs_ HB.1 hb); clear BK101 HB; have BK101 := n0_; have HB := n1_; clear n0_ n1_; (try clear hb); (try clear hk)))
  go_ret
  exact ⟨by rfl, by repeat ((with_reducible exact HB.out))⟩

def impl_CountCells.f (a0_0 : Int) (a0_1 : Int) : Option (Int) := (impl_GridOk.f a0_0 a0_1).bind fun t102 => (if t102 = true then (some (wrap64 (a0_0 * a0_1))) else (some 0))
set_option maxHeartbeats 8000000 in
set_option maxRecDepth 100000 in
theorem impl_CountCells.calls (a0_0 : Int) (a0_1 : Int) (r : Int) (w : World) (h : impl_CountCells.f a0_0 a0_1 = some r) :
  Calls Try.prog 68 #[.agg #[.int .i64 a0_0, .int .i64 a0_1]] w fun e w' => e = .returned (.int .i64 r) ∧ Below w.heap.size w w' := by
 have hu25 := Try.underlying25
 have HB := A_ (Below.refl w.heap.size w)
 have H : ((impl_GridOk.f a0_0 a0_1).bind fun t102 => (if t102 = true then (some (wrap64 (a0_0 * a0_1))) else (some 0))) = some r := h
 clear h
 obtain ⟨t102, A20, H⟩ := oB_ H
 (try dsimp only at H); have A2 := A_ A20; clear A20
 by_cases c3 : t102 = true
 ·subst c3
  rw [if_pos rfl] at H
  obtain rfl := Option.some.inj H
  go_enter Try.func68, Try.ntmps68
  go_wp2_with (first | ((with_reducible refine gate_dst (N := 1) rfl ?_); refine be_ 1 #[.int .i64 a0_0, .int .i64 a0_1] 25 ?_; intro gb101 hg w4 hbox hb; have n0_ := A_ (bs_ HB.1 hb); have n1_ := A_ (hbox); have n2_ := A_ (bS_ HB.out hg); have n3_ := A_ (bS_ HB.out hg); clear HB; have HB := n0_; have BK101 := n1_; have GW101 := n2_; have GE101 := n3_; clear n0_ n1_ n2_ n3_ hb hbox hg; obtain ⟨hcz5_0, hcz5_1⟩ := kk2_ BK101.1; have hfz5_0 := bf_ BK101.out 0; have hfz5_1 := bf_ BK101.out 1) | ((with_reducible refine gate_callee (f := 82) rfl ?_); refine gl_ 4 Try.func82 #[.agg #[.int .i64 a0_0, .int .i64 a0_1]] ?_; (with_reducible refine (impl_GridOk.calls a0_0 a0_1 true _ A2.out).mono ?_); rintro e w6 ⟨rfl, hb⟩; refine ⟨_, rfl, ?_⟩; have n0_ := A_ (blk_below BK101.out hb); have n1_ := A_ (bs_ HB.1 hb); clear BK101 HB; have BK101 := n0_; have HB := n1_; clear n0_ n1_; (try clear hb); (try clear hk); obtain ⟨hcz7_0, hcz7_1⟩ := kk2_ BK101.1; have hfz7_0 := bf_ BK101.out 0; have hfz7_1 := bf_ BK101.out 1))
  go_ret
  exact ⟨by rfl, by repeat ((with_reducible exact HB.out))⟩
 ·replace c3 := Bool.eq_false_iff.mpr c3
  subst c3
  have H1 : (some 0) = some r := by rw [if_neg (show ¬ (false = true) by decide)] at H; exact H
  clear H
  have H := H1
  clear H1
  obtain rfl := Option.some.inj H
  go_enter Try.func68, Try.ntmps68
  go_wp2_with (first | ((with_reducible refine gate_dst (N := 1) rfl ?_); refine be_ 1 #[.int .i64 a0_0, .int .i64 a0_1] 25 ?_; intro gb101 hg w8 hbox hb; have n0_ := A_ (bs_ HB.1 hb); have n1_ := A_ (hbox); have n2_ := A_ (bS_ HB.out hg); have n3_ := A_ (bS_ HB.out hg); clear HB; have HB := n0_; have BK101 := n1_; have GW101 := n2_; have GE101 := n3_; clear n0_ n1_ n2_ n3_ hb hbox hg; obtain ⟨hcz9_0, hcz9_1⟩ := kk2_ BK101.1; have hfz9_0 := bf_ BK101.out 0; have hfz9_1 := bf_ BK101.out 1) | ((with_reducible refine gate_callee (f := 82) rfl ?_); refine gl_ 4 Try.func82 #[.agg #[.int .i64 a0_0, .int .i64 a0_1]] ?_; (with_reducible refine (impl_GridOk.calls a0_0 a0_1 false _ A2.out).mono ?_); rintro e w10 ⟨rfl, hb⟩; refine ⟨_, rfl, ?_⟩; have n0_ := A_ (blk_below BK101.out hb); have n1_ := A_ (bs_ HB.1 hb); clear BK101 HB; have BK101 := n0_; have HB := n1_; clear n0_ n1_; (try clear hb); (try clear hk)))
  go_ret
  exact ⟨by rfl, by repeat ((with_reducible exact HB.out))⟩

end Go.Proofs.Ytbeajmcjfhbcjaa.P
namespace Go.Proofs.Ytbeajmcjfhbcjaa.P
open Go.RowKit Go.Proofs.YtbeajmcjfhbcjaaW.PrintWords Go.Proofs.YtbeajmcjfhbcjaaW.PrintLast Go.Proofs.YtbeajmcjfhbcjaaW.PrintMore
attribute [local go_sem] max2_int min2_int max_two min_two max_three min_three max_four min_four   -- for this text's walks alone
set_option linter.unusedVariables false
set_option linter.unusedSimpArgs false

section
variable {P : Program} {ops : Array Oper} {Q : Exit → Act → World → Prop}
theorem goesC_ {rest : List Oper} {oi : Oper} {a : Act} {w : World} (N : Option Tmp) (hd : oi.dst = N) (hg : oi.guard = none) {o : Operand} {g : FuncId} {lb : Array Value} {xs : Array Operand} {ts : Array TypeId} (args : Array Value)
  (hop : oi.op = .call { callee := .value o, args := xs, argTypes := ts }) (ho : a.eval o = .func (.func g) #[] lb) (hargs : xs.map a.eval = args) (he : ∀ args w, (callFunc g args).run P w = .ok (.enter g args) w)
  (h : Calls P g (args ++ lb) w fun e w' => ∃ v, e = .returned v ∧ wpList P ops Q rest (a.put N v) w') : wpList P ops Q (oi :: rest) a w := by
 refine wpList_plain hg fun K hK => ?_
 have hrun : (execOp a.eval oi).run P w = .ok (.enter g (args ++ lb)) w := by
  unfold execOp
  simp [hop, resolve, Deferred.ofValue, invoke, ho, hargs, he]
 unfold Oper.wp
 rw [hrun, Oper.upon_enter]
 refine h.mono fun e w'' hh => ?_
 obtain ⟨v, rfl, hk⟩ := hh
 subst hd
 exact hK _ _ hk
end
def PredB (g : Nat) (lb : Array Value) (D : Int → Prop) (p : Int → Bool) (B : Nat) (w0 : World) : Prop :=
 ∀ (W : World) (x : Int), D x → Below B w0 W → B ≤ W.heap.size → Calls Try.prog g (#[.int .i64 x] ++ lb) W fun e w' => e = .returned (.bool (p x)) ∧ Below W.heap.size W w'
theorem alloc_fst (w : World) (o1 o2 : Obj) : ((w.alloc o1).alloc o2).heap[w.heap.size]? = some o1 := by
 have h := ((Below.refl (w.alloc o1).heap.size (w.alloc o1)).alloc (Nat.le_refl _) o2).block w.heap.size (by simp)
 rw [h, heap_alloc_new]
theorem alloc_snd (w : World) (o1 o2 : Obj) : ((w.alloc o1).alloc o2).heap[w.heap.size + 1]? = some o2 := by
 have h := heap_alloc_new (w.alloc o1) o2
 have e : (w.alloc o1).heap.size = w.heap.size + 1 := by simp
 rwa [e] at h
theorem all_some {f : Int → Option Bool} {l : List Int} (h : l.all (fun c => (f c).isSome) = true) : ∀ x ∈ l, ∃ b, f x = some b := fun x hx => Option.isSome_iff_exists.1 (List.all_eq_true.1 h x hx)
theorem C_one {W : World} {b : Nat} {x : Int} (h : W.heap[b]? = some (.cells #[.int .i64 x] 3 (0, 0))) : Kd.C (Kd.int .i64) W (some ⟨b, 0, none⟩) [x].length [x] := by
 refine ⟨rfl, by simp, fun _ => ⟨_, rfl, fun j p hj => ?_⟩⟩
 cases j with
 | succ j => simp at hj
 | zero =>
  injection hj with hj
  subst hj
  refine ⟨[.int .i64 x], rfl, rfl, fun i u hu => ?_⟩
  cases i with
  | succ i => simp at hu
  | zero =>
   injection hu with hu
   subst hu
   rw [add_plain]
   exact (blk_cell h 0).trans rfl
def idxF (p : Int → Bool) : List Int → Int
 | [] => -1
 | x :: xs => if p x then 0 else if idxF p xs = -1 then -1 else idxF p xs + 1
theorem idxF_range (p : Int → Bool) (l : List Int) : idxF p l = -1 ∨ (0 ≤ idxF p l ∧ idxF p l < l.length) := by
 induction l with
 | nil => exact .inl rfl
 | cons x xs ih =>
  simp only [idxF, List.length_cons]
  split
  ·exact .inr ⟨by omega, by omega⟩
  ·split
   ·exact .inl rfl
   ·exact .inr (by omega)
theorem idxF_hit (p : Int → Bool) : ∀ (l : List Int) (k : Nat), k < l.length → p (rd l k) = true → (∀ j, j < k → p (rd l j) = false) → idxF p l = k
 | [], k, h, _, _ => by simp at h
 | x :: xs, 0, _, h, _ => by simp [rd] at h; simp [idxF, h]
 | x :: xs, k + 1, hk, h, hb => by
  have h0 : p x = false := by have := hb 0 (by omega); simpa [rd] using this
  have ih := idxF_hit p xs k (by simpa using hk) (by simpa [rd] using h) (fun j hj => by have := hb (j + 1) (by omega); simpa [rd] using this)
  simp [idxF, h0, ih]
theorem idxF_miss (p : Int → Bool) : ∀ (l : List Int), (∀ j, j < l.length → p (rd l j) = false) → idxF p l = -1
 | [], _ => rfl
 | x :: xs, hb => by
  have h0 : p x = false := by have := hb 0 (by simp); simpa [rd] using this
  have ih := idxF_miss p xs (fun j hj => by have := hb (j + 1) (by simpa using hj); simpa [rd] using this)
  simp [idxF, h0, ih]
theorem idxF_any (p : Int → Bool) : ∀ l : List Int, l.any p = decide (0 ≤ idxF p l)
 | [] => rfl
 | x :: xs => by
  cases h : p x with
  | true => simp [idxF, h]
  | false =>
   have := idxF_range p xs
   simp only [List.any_cons, idxF, h, idxF_any p xs, Bool.false_or, Bool.false_eq_true, if_false]
   by_cases h2 : idxF p xs = -1
   ·simp [h2]
   ·rw [if_neg h2]
    by_cases h3 : 0 ≤ idxF p xs <;> simp [h3] <;> omega
theorem rd_mem {l : List Int} {k : Nat} (h : k < l.length) : rd l (k : Int) ∈ l := by
 simp [rd, List.getD_eq_getElem?_getD, List.getElem?_eq_getElem h]
set_option maxHeartbeats 2000000 in
set_option maxRecDepth 100000 in
theorem slices_IndexFunc_int_int.calls (g : Nat) (lb : Array Value) (eg : ∀ args w, (callFunc g args).run Try.prog w = .ok (.enter g args) w) (D : Int → Prop) (p : Int → Bool) (B : Nat) (w0 : World) (hp : PredB g lb D p B w0)
  (A0 : Option Addr) (c0 : Nat) (l0 : List Int) (w : World) (hB : Below B w0 w) (hb : B ≤ w.heap.size) (hr0 : Kd.C (Kd.int .i64) w A0 l0.length l0) (hD : ∀ x ∈ l0, D x) :
  Calls Try.prog 132 #[.slice A0 l0.length c0, .func (.func g) #[] lb] w fun e w' => e = .returned (.int .i64 (idxF p l0)) ∧ Below w.heap.size w w' := by
 have HR0 := A_ hr0
 have HP := A_ hp
 have HD := A_ hD
 have HB0 := A_ hB
 have Hb := A_ hb
 have hmax := hr0.2.1
 have HE := A_ eg
 clear hr0 hp hD hB hb eg
 go_enter Try.func132, Try.ntmps132
 go_wp2
 go_loopg [5, 8] l0.length (fun gg _ s8 wr => ∃ kk : Nat, kk ≤ l0.length ∧ l0.length - kk ≤ gg ∧ s8 = .int .i64 kk ∧ Aside0 (Below w.heap.size w wr) ∧ Aside0 (∀ j, j < kk → p (rd l0 j) = false))
 case atStart => exact ⟨0, Nat.zero_le _, by omega, rfl, ⟨Below.refl _ w⟩, ⟨fun j hj => absurd hj (Nat.not_lt_zero _)⟩⟩
 case round =>
  obtain ⟨kk, hkk, hg, rfl, BW, A⟩ := hrel
  by_cases hlt : kk < l0.length
  ·have hltz : (kk : Int) < (l0.length : Int) := by omega
   obtain ⟨ad, e, hx⟩ := Kd.at_int HR0.out kk (by omega) hltz
   cases e
   replace hx := (BW.out.cell (World.block_lt_of_cell? w _ hx)).trans hx
   simp only [Int.toNat_natCast] at hx
   have hcall := HP.out wr (rd l0 kk) (HD.out _ (rd_mem hlt)) (HB0.out.trans (BW.out.mono Hb.out)) (Nat.le_trans Hb.out BW.out.size)
   obtain ⟨y, hy⟩ : ∃ y, rd l0 kk = y := ⟨_, rfl⟩
   rw [hy] at hx hcall
   have HY := A_ hy
   clear hy
   cases hq : p y with
   | true =>
    rw [hq] at hcall
    go_wp2_with ((with_reducible refine gate_dst (N := 16) rfl ?_); refine goesC_ (some 16) rfl rfl (g := g) (lb := lb) #[.int .i64 y] rfl rfl (by (try simp only [M3_]); rfl) HE.out ?_; refine hcall.mono ?_; rintro e w' ⟨rfl, hb'⟩; refine ⟨_, rfl, ?_⟩)
    go_ret
    refine ⟨?_, BW.out.trans (hb'.mono BW.out.size)⟩
    rw [idxF_hit p l0 kk hlt (by rw [HY.out]; exact hq) A.out]
    rfl
   | false =>
    rw [hq] at hcall
    go_wp2_with ((with_reducible refine gate_dst (N := 16) rfl ?_); refine goesC_ (some 16) rfl rfl (g := g) (lb := lb) #[.int .i64 y] rfl rfl (by (try simp only [M3_]); rfl) HE.out ?_; refine hcall.mono ?_; rintro e w' ⟨rfl, hb'⟩; refine ⟨_, rfl, ?_⟩)
    go_roundg (l0.length - (kk + 1))
    case measure => omega
    case rel =>
     refine ⟨kk + 1, by omega, by omega, by go_num, ⟨BW.out.trans (hb'.mono BW.out.size)⟩, ⟨fun j hj => ?_⟩⟩
     by_cases e : j = kk
     ·subst e
      rw [HY.out]; exact hq
     ·exact A.out j (by omega)
  ·have hltz : ¬ (kk : Int) < (l0.length : Int) := by omega
   have : kk = l0.length := by omega
   subst this
   go_wp2
   go_ret
   refine ⟨?_, BW.out⟩
   rw [idxF_miss p l0 A.out]
   rfl

end Go.Proofs.Ytbeajmcjfhbcjaa.P
namespace Go.Proofs.Ytbeajmcjfhbcjaa.P
open Go.RowKit Go.Proofs.YtbeajmcjfhbcjaaW.PrintWords Go.Proofs.YtbeajmcjfhbcjaaW.PrintLast Go.Proofs.YtbeajmcjfhbcjaaW.PrintMore
attribute [local go_sem] max2_int min2_int max_two min_two max_three min_three max_four min_four   -- for this text's walks alone
set_option linter.unusedVariables false
set_option linter.unusedSimpArgs false

set_option maxHeartbeats 1000000 in
theorem slices_ContainsFunc_int_int.calls (g : Nat) (lb : Array Value) (eg : ∀ args w, (callFunc g args).run Try.prog w = .ok (.enter g args) w) (D : Int → Prop) (p : Int → Bool) (B : Nat) (w0 : World) (hp : PredB g lb D p B w0)
  (A0 : Option Addr) (c0 : Nat) (l0 : List Int) (w : World) (hB : Below B w0 w) (hb : B ≤ w.heap.size) (hr0 : Kd.C (Kd.int .i64) w A0 l0.length l0) (hD : ∀ x ∈ l0, D x) :
  Calls Try.prog 83 #[.slice A0 l0.length c0, .func (.func g) #[] lb] w fun e w' => e = .returned (.bool (l0.any p)) ∧ Below w.heap.size w w' := by
 have hany := idxF_any p l0
 rw [hany]
 have hI := slices_IndexFunc_int_int.calls g lb eg D p B w0 hp A0 c0 l0 w hB hb hr0 hD
 clear hany hr0 hD hp hB hb eg
 go_enter Try.func83, Try.ntmps83
 go_wp2_with ((with_reducible refine gate_callee (f := 132) rfl ?_); refine gl_ 7 Try.func132 #[.slice A0 l0.length c0, .func (.func g) #[] lb] ?_; refine hI.mono ?_; rintro e w' ⟨rfl, hb'⟩; refine ⟨_, rfl, ?_⟩)
 go_ret
 exact ⟨rfl, hb'⟩

def impl_isCell.f (a0_0 : Int) (a0_1 : Int) (a1 : Int) : Option (Bool) := if a1 ≥ 0 then ((impl_CountCells.f a0_0 a0_1).bind fun t102 => (some (decide (a1 < t102)))) else (some false)
set_option maxHeartbeats 8000000 in
set_option maxRecDepth 100000 in
theorem impl_isCell.calls (a0_0 : Int) (a0_1 : Int) (a1 : Int) (r : Bool) (w : World) (h : impl_isCell.f a0_0 a0_1 a1 = some r) :
  Calls Try.prog 128 #[.agg #[.int .i64 a0_0, .int .i64 a0_1], .int .i64 a1] w fun e w' => e = .returned (.bool r) ∧ Below w.heap.size w w' := by
 have hu25 := Try.underlying25
 have HB := A_ (Below.refl w.heap.size w)
 have H : (if a1 ≥ 0 then ((impl_CountCells.f a0_0 a0_1).bind fun t102 => (some (decide (a1 < t102)))) else (some false)) = some r := h
 clear h
 by_cases c3 : a1 ≥ 0
 ·rw [if_pos c3] at H
  have c3b0 : decide (0 ≤ a1) = true := decide_eq_true c3
  clear c3
  obtain ⟨t102, A40, H⟩ := oB_ H
  (try dsimp only at H); have A4 := A_ A40; clear A40
  obtain rfl := Option.some.inj H
  go_enter Try.func128, Try.ntmps128
  go_wp2_with (first | ((with_reducible refine gate_dst (N := 2) rfl ?_); refine be_ 2 #[.int .i64 a0_0, .int .i64 a0_1] 25 ?_; intro gb101 hg w5 hbox hb; have n0_ := A_ (bs_ HB.1 hb); have n1_ := A_ (hbox); have n2_ := A_ (bS_ HB.out hg); have n3_ := A_ (bS_ HB.out hg); clear HB; have HB := n0_; have BK101 := n1_; have GW101 := n2_; have GE101 := n3_; clear n0_ n1_ n2_ n3_ hb hbox hg; obtain ⟨hcz6_0, hcz6_1⟩ := kk2_ BK101.1; have hfz6_0 := bf_ BK101.out 0; have hfz6_1 := bf_ BK101.out 1) | (go_at_call 68; (with_reducible refine (impl_CountCells.calls a0_0 a0_1 t102 _ A4.out).mono ?_); rintro e w7 ⟨rfl, hb⟩; have n0_ := A_ (blk_below BK101.out hb); have n1_ := A_ (bs_ HB.1 hb); clear BK101 HB; have BK101 := n0_; have HB := n1_; clear n0_ n1_; (try clear hb); (try clear hk)))
  go_ret
  exact ⟨by rfl, by repeat ((with_reducible exact HB.out))⟩
 ·rw [if_neg c3] at H
  have c3b0 : decide (0 ≤ a1) = false := decide_eq_false c3
  clear c3
  obtain rfl := Option.some.inj H
  go_enter Try.func128, Try.ntmps128
  go_wp2_with (((with_reducible refine gate_dst (N := 2) rfl ?_); refine be_ 2 #[.int .i64 a0_0, .int .i64 a0_1] 25 ?_; intro gb101 hg w8 hbox hb; have n0_ := A_ (bs_ HB.1 hb); have n1_ := A_ (hbox); have n2_ := A_ (bS_ HB.out hg); have n3_ := A_ (bS_ HB.out hg); clear HB; have HB := n0_; have BK101 := n1_; have GW101 := n2_; have GE101 := n3_; clear n0_ n1_ n2_ n3_ hb hbox hg))
  go_ret
  exact ⟨by rfl, by repeat ((with_reducible exact HB.out))⟩

def impl_isIn.f (a0_0 : Int) (a0_1 : Int) (a0_2 : Int) (l1 : List Int) : Option (Bool) := (impl_MazeOk.f a0_0 a0_1 a0_2).bind fun t => (if t = true then (if l1.all (fun c => (impl_isCell.f a0_0 a0_1 c).isSome) = true then some (!(l1.any fun c => !((impl_isCell.f a0_0 a0_1 c).getD false))) else none) else some false)
theorem impl_isIn_1.calls (gb : Nat) (a0_0 a0_1 a0_2 c : Int) (b : Bool) (W : World) (hblk : W.heap[gb]? = some (.cells #[.int .i64 a0_0, .int .i64 a0_1, .int .i64 a0_2] 27 (0, 0))) (h : impl_isCell.f a0_0 a0_1 c = some b) :
  Calls Try.prog 127 #[.int .i64 c, .pointer (some ⟨gb, 0, none⟩)] W fun e w' => e = .returned (.bool (!b)) ∧ Below W.heap.size W w' := by
 have hu42 := Try.underlying27
 have hc0 : W.cell? ⟨gb, 0, none⟩ = some (.int .i64 a0_0) := (blk_cell hblk 0).trans rfl
 have hc1 : W.cell? ⟨gb, 1, none⟩ = some (.int .i64 a0_1) := (blk_cell hblk 1).trans rfl
 have H := A_ h
 clear h hblk
 go_enter Try.func127, Try.ntmps127
 go_wp2_with ((with_reducible refine gate_callee (f := 128) rfl ?_); refine gl_ 7 Try.func128 #[.agg #[.int .i64 a0_0, .int .i64 a0_1], .int .i64 c] ?_; refine (impl_isCell.calls a0_0 a0_1 c b _ H.out).mono ?_; rintro e w' ⟨rfl, hb⟩; refine ⟨_, rfl, ?_⟩)
 go_ret
 exact ⟨rfl, hb⟩
set_option maxHeartbeats 2000000 in
set_option maxRecDepth 100000 in
theorem impl_isIn.calls (a0_0 : Int) (a0_1 : Int) (a0_2 : Int) (A1 : Option Addr) (c1 : Nat) (l1 : List Int) (r : Bool) (w : World) (hr1 : Kd.C (Kd.int .i64) w A1 l1.length l1) (hc1 : l1.length ≤ c1) (h : impl_isIn.f a0_0 a0_1 a0_2 l1 = some r) :
  Calls Try.prog 77 #[.agg #[.int .i64 a0_0, .int .i64 a0_1, .int .i64 a0_2], .slice A1 l1.length c1] w fun e w' => e = .returned (.bool r) ∧ Below w.heap.size w w' := by
 have hu42 := Try.underlying27
 obtain ⟨t, ht, H⟩ := Option.bind_eq_some_iff.1 h
 have HM := A_ ht
 have HR := A_ hr1
 clear h ht hr1
 cases t with
 | false =>
  obtain rfl := Option.some.inj H
  clear H
  go_enter Try.func77, Try.ntmps77
  go_wp2_with ((with_reducible refine gate_callee (f := 69) rfl ?_); refine gl_ 6 Try.func69 #[.agg #[.int .i64 a0_0, .int .i64 a0_1, .int .i64 a0_2]] ?_; refine (impl_MazeOk.calls a0_0 a0_1 a0_2 false _ HM.out).mono ?_; rintro e w1 ⟨rfl, hb⟩; refine ⟨_, rfl, ?_⟩)
  go_ret
  exact ⟨rfl, (below_alloc (Below.refl _ _) _).trans (hb.mono (by simp))⟩
 | true =>
  rw [if_pos rfl] at H
  by_cases hall : l1.all (fun c => (impl_isCell.f a0_0 a0_1 c).isSome) = true
  ·rw [if_pos hall] at H
   obtain rfl := Option.some.inj H
   have HA := A_ (all_some hall)
   have hP : ∀ W : World, W.heap[w.heap.size]? = some (.cells #[.int .i64 a0_0, .int .i64 a0_1, .int .i64 a0_2] 27 (0, 0)) → PredB 127 #[.pointer (some ⟨w.heap.size, 0, none⟩)] (fun c => ∃ b, impl_isCell.f a0_0 a0_1 c = some b) (fun c => !((impl_isCell.f a0_0 a0_1 c).getD false)) (w.heap.size + 1) W := by
    rintro W hblk W1 x ⟨b, hb⟩ hB _
    have := impl_isIn_1.calls w.heap.size a0_0 a0_1 a0_2 x b W1 ((hB.block _ (by omega)).trans hblk) hb
    show Calls Try.prog 127 _ W1 fun e w' => e = .returned (.bool (!((impl_isCell.f a0_0 a0_1 x).getD false))) ∧ _
    rw [hb]
    exact this
   have HPR := A_ hP
   clear hall H hP
   go_enter Try.func77, Try.ntmps77
   go_wp2_with (first | ((with_reducible refine gate_callee (f := 69) rfl ?_); refine gl_ 6 Try.func69 #[.agg #[.int .i64 a0_0, .int .i64 a0_1, .int .i64 a0_2]] ?_; refine (impl_MazeOk.calls a0_0 a0_1 a0_2 true _ HM.out).mono ?_; rintro e w1 ⟨rfl, hb⟩; refine ⟨_, rfl, ?_⟩) | (go_at_call 83; have hblk : w1.heap[w.heap.size]? = some (.cells #[.int .i64 a0_0, .int .i64 a0_1, .int .i64 a0_2] 27 (0, 0)) := (hb.block _ (by simp)).trans (heap_alloc_new w _); have hB2 : Below w.heap.size w w1 := (below_alloc (Below.refl _ _) _).trans (hb.mono (by simp)); refine (slices_ContainsFunc_int_int.calls 127 #[.pointer (some ⟨w.heap.size, 0, none⟩)] (enters_ Try.func127 (by kernel_rfl) rfl) _ _ (w.heap.size + 1) w1 (HPR.out w1 hblk) A1 c1 l1 w1 (Below.refl _ _) (by have := hb.size; simpa using this) (Kd.C_below HR.out hB2) HA.out).mono ?_; rintro e w2 ⟨rfl, hb2⟩; have HB := A_ (hB2.trans (hb2.mono hB2.size)); clear hb hb2 hB2 hblk))
   go_ret
   exact ⟨rfl, HB.out⟩
  ·rw [if_neg hall] at H
   exact absurd H (by simp)

def impl_upTo.l0 : Nat → Int → List Int → Int → Option (List Int)
 | 0, _, _, _ => none
 | k + 1, x0, x3, x4 => if x4 < x0 then (if x3.length < 17592186044416 then (impl_upTo.l0 k x0 (x3 ++ [x4]) (wrap64 (x4 + 1))) else (none)) else (some x3)
def impl_upTo.f (k : Nat) (a0 : Int) : Option (List Int) := impl_upTo.l0 k a0 ([] : List Int) 0
set_option maxHeartbeats 8000000 in
set_option maxRecDepth 100000 in
theorem impl_upTo.calls (k : Nat) (a0 : Int) (r : List Int) (w : World) (h : impl_upTo.f k a0 = some r) :
  Calls Try.prog 70 #[.int .i64 a0] w fun e w' => ∃ v0_ : Value, e = .returned (v0_) ∧ Kd.R (Kd.int .i64) 3 w' w.heap.size (fun _ => True) v0_ r ∧ Below w.heap.size w w' := by
 have HB := A_ (Below.refl w.heap.size w)
 have H : (impl_upTo.l0 k a0 ([] : List Int) 0) = some r := h
 clear h
 have H' := A_ H
 clear H
 go_enter Try.func70, Try.ntmps70
 go_wp2
 go_loopg [3, 4] k (fun kq v3 v4 w' => ∃ (x3_1 : List Int) (x4_1 : Int), v4 = .int .i64 x4_1 ∧ Aside0 (impl_upTo.l0 kq a0 x3_1 x4_1 = some r) ∧ Aside0 (kq ≤ k) ∧ Aside0 (Kd.R (Kd.int .i64) 3 w' w.heap.size (fun _ => True) v3 x3_1) ∧ Aside0 (Below w.heap.size w w'))
 case atStart => exact ⟨(([] : List Int)), (0), (by rfl), H', ⟨Nat.le_refl _⟩, ⟨by exact Kd.R_nil _ _ _ _ _⟩, ⟨by repeat ((with_reducible exact HB.out))⟩⟩
 case round =>
  clear H'
  obtain ⟨x3_1, x4_1, rfl, HA, HK1, HO_3, HB⟩ := hrel
  cases gk with
  | zero => exact absurd HA.out (by simp [impl_upTo.l0])
  | succ k1 =>
   have H := HA.out
   clear HA
   simp only [impl_upTo.l0] at H
   by_cases c2 : x4_1 < a0
   ·rw [if_pos c2] at H
    have c2b0 : decide (x4_1 < a0) = true := decide_eq_true c2
    clear c2
    replace H := iN_ H; obtain ⟨c3, H⟩ := H
    have LMc3 := A_ c3
    clear c3
    obtain ⟨y101, hy101⟩ : ∃ y_ : List Int, y_ = (x3_1 ++ [x4_1]) := ⟨_, rfl⟩
    replace H : (impl_upTo.l0 k1 a0 y101 (wrap64 (x4_1 + 1))) = some r := by (rw [hy101]; with_reducible exact H)
    have Ny101 := A_ hy101
    clear hy101
    have H' := A_ H
    clear H
    go_wp2_with (((with_reducible refine gate_builtin (b := .append) (xs := #[.tmp 10, .tmp 12]) rfl ?_); at_builtin; refine Kd.R_append (Kd.int .i64) (w0 := w) w.heap.size rfl (.tmp 10) (.tmp 12) 39 3 (.int .i64 0) 8 rfl Try.underlying39 info3 rfl (by decide) (by omega) u3 x3_1 x4_1 [.int .i64 x4_1] (fun _ => True) (fun _ => False) rfl rfl ?aP (fun _ hk => hk.elim) ?aF ?aO ?aB ?aS ?aL ?_; (case aP => exact rfl); (case aB => exact HB.out); (case aF => exact (fun _ _ => trivial)); (case aO => exact HO_3.out); (case aS => exact (below_size HB.out)); (case aL => have := LMc3.out; omega); intro v102 w4 ho hb hg hat; rw [← Ny101.out] at ho; have n0_ := A_ (hb); have n1_ := A_ (ho); clear HB HO_3; have HB := n0_; have HO103 := n1_; clear n0_ n1_ ho hb hg hat))
    go_roundg k1
    case measure => have := HK1.out; omega
    case rel => exact ⟨(y101), (wrap64 (x4_1 + 1)), (by rfl), H', ⟨by have := HK1.out; omega⟩, ⟨by exact HO103.out⟩, ⟨by repeat ((with_reducible exact HB.out))⟩⟩
   ·rw [if_neg c2] at H
    have c2b0 : decide (x4_1 < a0) = false := decide_eq_false c2
    clear c2
    obtain rfl := Option.some.inj H
    go_wp2
    go_ret
    exact ⟨_, by rfl, by exact HO_3.out, by repeat ((with_reducible exact HB.out))⟩

theorem clear_row {enc : Int → Value} {h1 : ∀ x, (enc x).oneCell' = true} {e base n cap g : Nat} {ok : Nat → Prop} : ∀ (m o : Nat) (W : World) (xs : List Int), (Kd.scalar enc h1).R e W base ok (.slice (some ⟨g, 0, none⟩) n cap) xs →
  ∃ ys, ys.length = xs.length ∧ ys.take o = xs.take o ∧ (Kd.scalar enc h1).R e (W.setCells g o (List.replicate m (enc 0))) base ok (.slice (some ⟨g, 0, none⟩) n cap) ys
 | 0, o, W, xs, h => ⟨xs, rfl, rfl, h⟩
 | m + 1, o, W, xs, h => by
  have h2 := Kd.R_putn h (o : Int) 0
  simp only [Int.toNat_natCast] at h2
  obtain ⟨ys, hl, ht, hr⟩ := clear_row m (o + 1) _ _ h2
  refine ⟨ys, by rw [hl, List.length_set], ?_, hr⟩
  have := congrArg (List.take o) ht
  rw [List.take_take, List.take_take, Nat.min_eq_left (by omega)] at this
  rw [this]
  simp [List.take_set_of_le]
theorem setCells_below {B g : Nat} {w0 : World} (hg : B ≤ g) : ∀ (vs : List Value) (o : Nat) (W : World), Below B w0 W → Below B w0 (W.setCells g o vs)
 | [], _, _, h => h
 | v :: r, o, W, h => setCells_below hg r (o + 1) _ (h.setCell hg _)
theorem setCells_size {g : Nat} : ∀ (vs : List Value) (o : Nat) (W : World), (W.setCells g o vs).heap.size = W.heap.size
 | [], _, _ => rfl
 | v :: r, o, W => by rw [World.setCells, setCells_size r]; simp
theorem filter_take_succ (p : Int → Bool) (l : List Int) (j : Nat) (h : j < l.length) : (l.take (j + 1)).filter p = (l.take j).filter p ++ (if p (rd l j) then [rd l j] else []) := by
 rw [List.take_succ_eq_append_getElem h, List.filter_append]
 congr 1
 have : rd l (j : Int) = l[j] := by simp [rd, List.getD_eq_getElem?_getD, List.getElem?_eq_getElem h]
 rw [this]
 cases hq : p l[j] <;> simp [hq]
theorem rd_set_ne {l : List Int} {i j : Nat} {x : Int} (h : i ≠ j) : rd (l.set i x) (j : Int) = rd l (j : Int) := by
 simp [rd, List.getD_eq_getElem?_getD, List.getElem?_set, h]
theorem idxF_spec (p : Int → Bool) (l : List Int) : (idxF p l = -1 ∧ ∀ j, j < l.length → p (rd l j) = false) ∨ ∃ k : Nat, k < l.length ∧ idxF p l = k ∧ p (rd l k) = true ∧ ∀ j, j < k → p (rd l j) = false := by
 induction l with
 | nil => exact .inl ⟨rfl, fun j h => by simp at h⟩
 | cons x xs ih =>
  cases h : p x with
  | true => exact .inr ⟨0, by simp, by simp [idxF, h], by simpa [rd] using h, fun j hj => by omega⟩
  | false =>
   rcases ih with ⟨e, ha⟩ | ⟨k, hk, e, ht, ha⟩
   ·refine .inl ⟨by simp [idxF, h, e], fun j hj => ?_⟩
    cases j with
    | zero => simpa [rd] using h
    | succ j => have := ha j (by simpa using hj); simpa [rd] using this
   ·refine .inr ⟨k + 1, by simpa using hk, by simp [idxF, h, e] <;> omega, by simpa [rd] using ht, fun j hj => ?_⟩
    cases j with
    | zero => simpa [rd] using h
    | succ j => have := ha j (by omega); simpa [rd] using this
theorem filter_none (p : Int → Bool) (l : List Int) (h : ∀ j, j < l.length → p (rd l (j : Int)) = false) : l.filter (fun x => !p x) = l := by
 rw [List.filter_eq_self]
 intro a ha
 obtain ⟨j, hj, rfl⟩ := List.getElem_of_mem ha
 have := h j hj
 have e : rd l (j : Int) = l[j] := by simp [rd, List.getD_eq_getElem?_getD, List.getElem?_eq_getElem hj]
 rw [e] at this
 simp [this]
structure DelInv (p : Int → Bool) (l zs : List Int) (i j : Nat) : Prop where
 len : zs.length = l.length
 lt : i < j
 le : j ≤ l.length
 pre : zs.take i = (l.take j).filter (fun x => !p x)
 same : ∀ t, j ≤ t → rd zs (t : Int) = rd l (t : Int)
theorem DelInv.start {p : Int → Bool} {l : List Int} {k : Nat} (hk : k < l.length) (hp : p (rd l (k : Int)) = true) (hb : ∀ j : Nat, j < k → p (rd l (j : Int)) = false) : DelInv p l l k (k + 1) := by
 refine ⟨rfl, by omega, by omega, ?_, fun _ _ => rfl⟩
 rw [filter_take_succ _ _ _ hk]
 simp only [hp, Bool.not_true, Bool.false_eq_true, if_false, List.append_nil]
 rw [filter_none]
 intro j hj
 rw [List.length_take] at hj
 have e : rd (l.take k) (j : Int) = rd l (j : Int) := by simp [rd, List.getD_eq_getElem?_getD, List.getElem?_take, show j < k by omega]
 rw [e]
 exact hb j (by omega)
theorem DelInv.skip {p : Int → Bool} {l zs : List Int} {i j : Nat} (h : DelInv p l zs i j) (hj : j < l.length) (hp : p (rd l (j : Int)) = true) : DelInv p l zs i (j + 1) := by
 refine ⟨h.len, by have := h.lt; omega, by omega, ?_, fun t ht => h.same t (by omega)⟩
 rw [filter_take_succ _ _ _ hj, h.pre]
 simp [hp]
theorem DelInv.keep {p : Int → Bool} {l zs : List Int} {i j : Nat} (h : DelInv p l zs i j) (hj : j < l.length) (hp : p (rd l (j : Int)) = false) : DelInv p l (zs.set i (rd l (j : Int))) (i + 1) (j + 1) := by
 have hlt := h.lt; have hlen := h.len
 refine ⟨by rw [List.length_set, h.len], by omega, by omega, ?_, fun t ht => ?_⟩
 ·rw [filter_take_succ _ _ _ hj, ← h.pre]
  simp only [hp, Bool.not_false, if_true]
  rw [List.take_succ_eq_append_getElem (by rw [List.length_set]; omega), List.take_set_of_le (Nat.le_refl _)]
  simp
 ·rw [rd_set_ne (by omega)]
  exact h.same t (by omega)
theorem DelInv.done {p : Int → Bool} {l zs : List Int} {i : Nat} (h : DelInv p l zs i l.length) : zs.take i = l.filter (fun x => !p x) := by
 have := h.pre
 rwa [List.take_length] at this
set_option maxHeartbeats 4000000 in
set_option maxRecDepth 100000 in
theorem slices_DeleteFunc_int_int.calls (g : Nat) (lb : Array Value) (eg : ∀ args w, (callFunc g args).run Try.prog w = .ok (.enter g args) w) (D : Int → Prop) (p : Int → Bool) (B : Nat) (w0 : World) (hp : PredB g lb D p B w0)
  (base : Nat) (v : Value) (l0 : List Int) (w : World) (hB : Below B w0 w) (hbb : B ≤ base) (hb : base ≤ w.heap.size) (hr0 : Kd.R (Kd.int .i64) 3 w base (fun _ => True) v l0) (hD : ∀ x ∈ l0, D x) :
  Calls Try.prog 111 #[v, .func (.func g) #[] lb] w fun e w' => ∃ v0_ : Value, e = .returned v0_ ∧ Kd.R (Kd.int .i64) 3 w' base (fun _ => True) v0_ (l0.filter fun x => !p x) ∧ Below B w0 w' ∧ w.heap.size ≤ w'.heap.size := by
 obtain ⟨A0, c0, rfl, hc0, hrd⟩ := Kd.R_reads hr0
 have hI := slices_IndexFunc_int_int.calls g lb eg D p B w0 hp A0 c0 l0 w hB (by omega) hrd hD
 have hmax := hrd.2.1
 have HE := A_ eg
 have HP := A_ hp
 have HD := A_ hD
 have HB0 := A_ hB
 have HO := A_ hr0
 rcases idxF_spec p l0 with ⟨e1, hall⟩ | ⟨k0, hk0, e1, ht, hall⟩
 ·rw [e1] at hI
  have HF := A_ (filter_none p l0 hall)
  clear e1 hall hr0 hrd hp hD hB eg
  go_enter Try.func111, Try.ntmps111
  go_wp2_with ((with_reducible refine gate_callee (f := 132) rfl ?_); refine gl_ 10 Try.func132 #[.slice A0 l0.length c0, .func (.func g) #[] lb] ?_; refine hI.mono ?_; rintro e w' ⟨rfl, hb'⟩; refine ⟨_, rfl, ?_⟩)
  go_ret
  refine ⟨_, rfl, ?_, HB0.out.trans (hb'.mono (by omega)), hb'.size⟩
  rw [HF.out]
  exact Kd.R_below HO.out hb'
 ·obtain ⟨gg, cap, he, hgb, hgl, _⟩ := Kd.R_form hr0 (by omega)
  injection he with he1 he2 he3
  subst he1 he3
  rw [e1] at hI
  have hne1 : ((k0 : Int) == -1) = false := beq_eq_false_iff_ne.2 (by omega)
  have HS := A_ (DelInv.start hk0 ht hall)
  clear e1 hall ht hr0 hrd hp hD hB eg he2
  go_enter Try.func111, Try.ntmps111
  go_wp2_with ((with_reducible refine gate_callee (f := 132) rfl ?_); refine gl_ 10 Try.func132 #[.slice (some ⟨gg, 0, none⟩) l0.length c0, .func (.func g) #[] lb] ?_; refine hI.mono ?_; rintro e w1 ⟨rfl, hb'⟩; refine ⟨_, rfl, ?_⟩; have hO1 := A_ (Kd.R_below HO.out hb'); have hB1 := A_ (HB0.out.trans (hb'.mono (by omega))); have hS1 := A_ hb'.size; clear HO HB0 hb')
  go_loopg [5, 6, 7] l0.length (fun kq s5 s6 _ wr => ∃ (i j : Nat) (zs : List Int), s5 = .int .i64 i ∧ s6 = .int .i64 j ∧ l0.length - j ≤ kq ∧ Aside0 (DelInv p l0 zs i j) ∧ Aside0 (Kd.R (Kd.int .i64) 3 wr base (fun _ => True) (.slice (some ⟨gg, 0, none⟩) l0.length c0) zs) ∧ Aside0 (Below B w0 wr) ∧ Aside0 (w.heap.size ≤ wr.heap.size))
  case atStart => exact ⟨k0, k0 + 1, l0, rfl, by go_num, by omega, HS, hO1, hB1, hS1⟩
  case round =>
   obtain ⟨i, j, zs, rfl, rfl, hkq, HI, HZ, HB, HW⟩ := hrel
   have hij := HI.out.lt
   have hjl := HI.out.le
   have hzl := HI.out.len
   clear hO1 hB1 hS1 HS
   by_cases hlt : j < l0.length
   ·have hltz : (j : Int) < (l0.length : Int) := by omega
    obtain ⟨hxj, _⟩ := Kd.R_celln 0 HZ.out (j : Int) (by omega) hltz
    obtain ⟨hxi, hfi⟩ := Kd.R_celln 0 HZ.out (i : Int) (by omega) (by omega)
    have hs := HI.out.same j (Nat.le_refl _)
    have hcall := HP.out wr (rd l0 j) (HD.out _ (rd_mem hlt)) HB.out (by have := HW.out; omega)
    have e0 : rdOf 0 zs (j : Int) = rd zs j := rfl
    rw [e0, hs] at hxj
    simp only [Int.toNat_natCast] at hxj hxi hfi
    clear e0 hs
    obtain ⟨y, hy⟩ : ∃ y, rd l0 j = y := ⟨_, rfl⟩
    rw [hy] at hxj hcall
    have HY := A_ hy
    have HZL := A_ hzl
    clear hy hzl
    obtain ⟨yi, hyi⟩ : ∃ y, rdOf 0 zs (i : Int) = y := ⟨_, rfl⟩
    rw [hyi] at hxi
    clear hyi
    cases hq : p y with
    | true =>
     rw [hq] at hcall
     have HQ := A_ hq
     clear hq
     go_wp2_with ((with_reducible refine gate_dst (N := 28) rfl ?_); refine goesC_ (some 28) rfl rfl (g := g) (lb := lb) #[.int .i64 y] rfl rfl (by (try simp only [M3_]); rfl) HE.out ?_; refine hcall.mono ?_; rintro e w' ⟨rfl, hb'⟩; refine ⟨_, rfl, ?_⟩; have n0_ := A_ (Kd.R_below HZ.out hb'); have n1_ := A_ (HB.out.trans (hb'.mono (by have := HW.out; omega))); have n2_ := A_ (Nat.le_trans HW.out hb'.size); clear HZ HB HW hb')
     go_roundg (l0.length - (j + 1))
     case measure => omega
     case rel => exact ⟨i, j + 1, zs, rfl, by go_num, by omega, ⟨HI.out.skip hlt (by rw [HY.out]; exact HQ.out)⟩, n0_, n1_, n2_⟩
    | false =>
     rw [hq] at hcall
     have HQ := A_ hq
     clear hq
     go_wp2_with (((with_reducible refine gate_dst (N := 28) rfl ?_); refine goesC_ (some 28) rfl rfl (g := g) (lb := lb) #[.int .i64 y] rfl rfl (by (try simp only [M3_]); rfl) HE.out ?_; refine hcall.mono ?_; rintro e w' ⟨rfl, hb'⟩; refine ⟨_, rfl, ?_⟩; replace hxi := (hb'.cell (World.block_lt_of_cell? wr _ hxi)).trans hxi; have HZ2 := A_ (Kd.R_below HZ.out hb'); replace hfi := (Kd.R_celln 0 HZ2.out (i : Int) (by omega) (by omega)).2; simp only [Int.toNat_natCast] at hfi; have n1_ := A_ (HB.out.trans (hb'.mono (by have := HW.out; omega))); have n2_ := A_ (Nat.le_trans HW.out hb'.size); clear HZ HB HW hb'))
     go_roundg (l0.length - (j + 1))
     case measure => omega
     case rel => exact ⟨i + 1, j + 1, zs.set i y, by go_num, by go_num, by omega, ⟨by have := HI.out.keep hlt (by rw [HY.out]; exact HQ.out); rwa [HY.out] at this⟩, ⟨by have h_ := (Kd.R_putg HZ2.out (i : Int) y).1; simp only [Int.toNat_natCast] at h_; exact h_⟩, ⟨n1_.out.setCell (Nat.le_trans hbb hgb) _⟩, ⟨by simpa using n2_.out⟩⟩
   ·obtain rfl : j = l0.length := by omega
    have hltz : ¬ (l0.length : Int) < (l0.length : Int) := by omega
    have hcl : ∀ ty, (Builtin.clear_ #[39] ty #[.slice (some ⟨gg, 0 + i, none⟩) (l0.length - i) (c0 - i)]).run Try.prog wr = .ok (.tuple #[]) (wr.setCells gg (0 + i) (List.replicate (l0.length - i) (.int .i64 0))) :=
     fun ty => Lib.run_clear_slice wr _ _ ty _ Try.underlying39 (fun w => by kernel_rfl) rfl rfl gg (0 + i) _ _ (by omega) (fun t ht => by have h_ := (Kd.R_celln 0 HZ.out ((0 + i + t : Nat) : Int) (by omega) (by omega)).1; simp only [Int.toNat_natCast] at h_; rw [h_]; rfl) (fun t ht => by have h_ := (Kd.R_celln 0 HZ.out ((0 + i + t : Nat) : Int) (by omega) (by omega)).2; simpa only [Int.toNat_natCast] using h_)
    have HCL := clear_row (l0.length - i) (0 + i) wr zs HZ.out
    simp only [Nat.zero_add] at hcl HCL
    obtain ⟨ys, hyl, hyt, hyr⟩ := HCL
    have HY := A_ hyt
    have HR := A_ hyr
    have HYL := A_ hyl
    clear hyl hyt hyr
    go_wp2
    go_ret
    refine ⟨_, rfl, ?_, setCells_below (by omega) _ _ _ HB.out, ?_⟩
    ·have := Kd.R_take (m := i) HR.out (by rw [HYL.out]; omega)
     rw [HY.out, HI.out.done] at this
     have hlen : (List.filter (fun x => !p x) l0).length = i := by rw [← HI.out.done, List.length_take]; omega
     exact this
    ·rw [setCells_size]
     exact HW.out

def impl_isOpen.f (a0_0 : Int) (a0_1 : Int) (a0_2 : Int) (a1 : Int) : Option (Bool) := if a1 ≥ 0 then (if 0 ≤ a1 then (some ((Go.bits .and .i64 (shr .i64 a0_2 a1) 1) == 1)) else (none)) else (some false)
set_option maxHeartbeats 8000000 in
set_option maxRecDepth 100000 in
theorem impl_isOpen.calls (a0_0 : Int) (a0_1 : Int) (a0_2 : Int) (a1 : Int) (r : Bool) (w : World) (h : impl_isOpen.f a0_0 a0_1 a0_2 a1 = some r) :
  Calls Try.prog 75 #[.agg #[.int .i64 a0_0, .int .i64 a0_1, .int .i64 a0_2], .int .i64 a1] w fun e w' => e = .returned (.bool r) ∧ Below w.heap.size w w' := by
 have hu27 := Try.underlying27
 have HB := A_ (Below.refl w.heap.size w)
 have H : (if a1 ≥ 0 then (if 0 ≤ a1 then (some ((Go.bits .and .i64 (shr .i64 a0_2 a1) 1) == 1)) else (none)) else (some false)) = some r := h
 clear h
 by_cases c3 : a1 ≥ 0
 ·rw [if_pos c3] at H
  have c3b0 : decide (0 ≤ a1) = true := decide_eq_true c3
  clear c3
  replace H := iN_ H; obtain ⟨c4, H⟩ := H
  have c4b0 := eq_true c4
  have c4b1 : decide (0 ≤ a1) = true := decide_eq_true c4
  clear c4
  obtain ⟨ji5, hji5⟩ : ∃ j_ : Int, (shr .i64 a0_2 a1) = j_ := ⟨_, rfl⟩
  replace H : (some ((Go.bits .and .i64 (ji5) 1) == 1)) = some r := by (rw [hji5] at H; exact H)
  have hji5_ : (a0_2 / 2 ^ min a1.toNat 64) = ji5 := hji5
  have hji5z : a1 ≤ 64 → (a0_2 / 2 ^ a1.toNat) = ji5 := shr_small hji5
  obtain rfl := Option.some.inj H
  go_enter Try.func75, Try.ntmps75
  go_wp2_with (((with_reducible refine gate_dst (N := 2) rfl ?_); refine be_ 2 #[.int .i64 a0_0, .int .i64 a0_1, .int .i64 a0_2] 27 ?_; intro gb101 hg w6 hbox hb; have n0_ := A_ (bs_ HB.1 hb); have n1_ := A_ (hbox); have n2_ := A_ (bS_ HB.out hg); have n3_ := A_ (bS_ HB.out hg); clear HB; have HB := n0_; have BK101 := n1_; have GW101 := n2_; have GE101 := n3_; clear n0_ n1_ n2_ n3_ hb hbox hg; obtain ⟨hcz7_0, hcz7_1, hcz7_2⟩ := kk3_ BK101.1; have hfz7_0 := bf_ BK101.out 0; have hfz7_1 := bf_ BK101.out 1; have hfz7_2 := bf_ BK101.out 2))
  go_ret
  exact ⟨by rfl, by repeat ((with_reducible exact HB.out))⟩
 ·rw [if_neg c3] at H
  have c3b0 : decide (0 ≤ a1) = false := decide_eq_false c3
  clear c3
  obtain rfl := Option.some.inj H
  go_enter Try.func75, Try.ntmps75
  go_wp2_with (((with_reducible refine gate_dst (N := 2) rfl ?_); refine be_ 2 #[.int .i64 a0_0, .int .i64 a0_1, .int .i64 a0_2] 27 ?_; intro gb101 hg w8 hbox hb; have n0_ := A_ (bs_ HB.1 hb); have n1_ := A_ (hbox); have n2_ := A_ (bS_ HB.out hg); have n3_ := A_ (bS_ HB.out hg); clear HB; have HB := n0_; have BK101 := n1_; have GW101 := n2_; have GE101 := n3_; clear n0_ n1_ n2_ n3_ hb hbox hg))
  go_ret
  exact ⟨by rfl, by repeat ((with_reducible exact HB.out))⟩

end Go.Proofs.Ytbeajmcjfhbcjaa.P
namespace Go.Proofs.Ytbeajmcjfhbcjaa.P
open Go.RowKit Go.Proofs.YtbeajmcjfhbcjaaW.PrintWords Go.Proofs.YtbeajmcjfhbcjaaW.PrintLast Go.Proofs.YtbeajmcjfhbcjaaW.PrintMore
attribute [local go_sem] max2_int min2_int max_two min_two max_three min_three max_four min_four   -- for this text's walks alone
set_option linter.unusedVariables false
set_option linter.unusedSimpArgs false

mutual
def impl_Neighbor.j0 : Nat → Int → Int → Int → Int → Bool → Int → Int → Option (Int)
 | 0, _, _, _, _, _, _, _ => none
 | k + 1, x1, x2, x7, x8, x21, x102000, x102001 => if x21 = true then (some (wrap64 (x1 - x102000))) else (if x2 = 1 then (impl_Neighbor.j1 k x1 x2 x7 x8 (decide (x7 < (wrap64 (x102000 - 1)))) x102000 x102001) else (impl_Neighbor.j1 k x1 x2 x7 x8 false x102000 x102001))
def impl_Neighbor.j1 : Nat → Int → Int → Int → Int → Bool → Int → Int → Option (Int)
 | 0, _, _, _, _, _, _, _ => none
 | k + 1, x1, x2, x7, x8, x32, x102000, x102001 => if x32 = true then (some (wrap64 (x1 + 1))) else (if x2 = 2 then (impl_Neighbor.j2 k x1 x2 x7 (decide (x8 < (wrap64 (x102001 - 1)))) x102000 x102001) else (impl_Neighbor.j2 k x1 x2 x7 false x102000 x102001))
def impl_Neighbor.j2 : Nat → Int → Int → Int → Bool → Int → Int → Option (Int)
 | 0, _, _, _, _, _, _ => none
 | k + 1, x1, x2, x7, x44, x102000, x102001 => if x44 = true then (some (wrap64 (x1 + x102000))) else (if x2 = 3 then (if x7 > 0 then (some (wrap64 (x1 - 1))) else (some (-1))) else (some (-1)))
end
def impl_Neighbor.f (k : Nat) (a0_0 : Int) (a0_1 : Int) (a1 : Int) (a2 : Int) : Option (Int) := (impl_isCell.f a0_0 a0_1 a1).bind fun t102 => (if t102 = true then (if a0_0 = 0 then (none) else (if a2 = 0 then (impl_Neighbor.j0 k a1 a2 (Int.tmod a1 a0_0) (wrap64 (Int.tdiv a1 a0_0)) (decide ((wrap64 (Int.tdiv a1 a0_0)) > 0)) a0_0 a0_1) else (impl_Neighbor.j0 k a1 a2 (Int.tmod a1 a0_0) (wrap64 (Int.tdiv a1 a0_0)) false a0_0 a0_1))) else (some (-1)))
set_option maxHeartbeats 8000000 in
set_option maxRecDepth 100000 in
theorem impl_Neighbor.calls (k : Nat) (a0_0 : Int) (a0_1 : Int) (a1 : Int) (a2 : Int) (r : Int) (w : World) (h : impl_Neighbor.f k a0_0 a0_1 a1 a2 = some r) :
  Calls Try.prog 85 #[.agg #[.int .i64 a0_0, .int .i64 a0_1], .int .i64 a1, .int .i64 a2] w fun e w' => e = .returned (.int .i64 r) ∧ Below w.heap.size w w' := by
 have hu25 := Try.underlying25
 have HB := A_ (Below.refl w.heap.size w)
 have H : ((impl_isCell.f a0_0 a0_1 a1).bind fun t102 => (if t102 = true then (if a0_0 = 0 then (none) else (if a2 = 0 then (impl_Neighbor.j0 k a1 a2 (Int.tmod a1 a0_0) (wrap64 (Int.tdiv a1 a0_0)) (decide ((wrap64 (Int.tdiv a1 a0_0)) > 0)) a0_0 a0_1) else (impl_Neighbor.j0 k a1 a2 (Int.tmod a1 a0_0) (wrap64 (Int.tdiv a1 a0_0)) false a0_0 a0_1))) else (some (-1)))) = some r := h
 clear h
 obtain ⟨t102, A40, H⟩ := oB_ H
 (try dsimp only at H); have A4 := A_ A40; clear A40
 by_cases c5 : t102 = true
 ·subst c5
  rw [if_pos rfl] at H
  by_cases c6 : a0_0 = 0
  ·rw [if_pos c6] at H
   exact absurd H (by simp)
  ·rw [if_neg c6] at H
   have c6b0 : (a0_0 == 0) = false := beq_eq_false_iff_ne.mpr c6
   have c6b1 : (a0_0 != 0) = true := bne_iff_ne.mpr c6
   have HC7 := A_ H
   clear H
   go_enter Try.func85, Try.ntmps85
   go_upto_region 4 with (first | ((with_reducible refine gate_dst (N := 3) rfl ?_); refine be_ 3 #[.int .i64 a0_0, .int .i64 a0_1] 25 ?_; intro gb101 hg w8 hbox hb; have n0_ := A_ (bs_ HB.1 hb); have n1_ := A_ (hbox); have n2_ := A_ (bS_ HB.out hg); have n3_ := A_ (bS_ HB.out hg); clear HB; have HB := n0_; have BK101 := n1_; have GW101 := n2_; have GE101 := n3_; clear n0_ n1_ n2_ n3_ hb hbox hg; obtain ⟨hcz9_0, hcz9_1⟩ := kk2_ BK101.1; have hfz9_0 := bf_ BK101.out 0; have hfz9_1 := bf_ BK101.out 1) | (go_at_call 128; (with_reducible refine (impl_isCell.calls a0_0 a0_1 a1 true _ A4.out).mono ?_); rintro e w10 ⟨rfl, hb⟩; have n0_ := A_ (blk_below BK101.out hb); have n1_ := A_ (bs_ HB.1 hb); clear BK101 HB; have BK101 := n0_; have HB := n1_; clear n0_ n1_; (try clear hb); (try clear hk); obtain ⟨hcz11_0, hcz11_1⟩ := kk2_ BK101.1; have hfz11_0 := bf_ BK101.out 0; have hfz11_1 := bf_ BK101.out 1))
   repeat (go_quiet (fail); go_upto_region 4 with (fail))
   (try simp only [Act.put, List.setIfInBounds_toArray, List.set_cons_zero, List.set_cons_succ])
   go_cut [21] (fun v21 wc => ∃ (kq : Nat) (x21_6 : Bool), v21 = .bool x21_6 ∧ Aside0 (impl_Neighbor.j0 kq a1 a2 (Int.tmod a1 a0_0) (wrap64 (Int.tdiv a1 a0_0)) x21_6 a0_0 a0_1 = some r) ∧ Aside0 (kq ≤ k) ∧ Aside0 (wc.heap[gb101]? = some (.cells #[.int .i64 a0_0, .int .i64 a0_1] 25 (0, 0))) ∧ Aside0 (Below w.heap.size w wc))
   case first =>
    have H := HC7.out
    clear HC7
    by_cases c12 : a2 = 0
    ·rw [if_pos c12] at H
     have c12b0 : (a2 == 0) = true := beq_iff_eq.mpr c12
     have c12b1 : (a2 != 0) = false := bne_eq_false_iff_eq.mpr c12
     clear c12
     (skip)
     have H' := A_ H
     clear H
     go_wp2
     repeat (go_quiet (fail); try go_wp2)
     go_meet
     case rel => exact ⟨_, (decide ((wrap64 (Int.tdiv a1 a0_0)) > 0)), (by rfl), H', ⟨by omega⟩, ⟨by (with_reducible repeat (refine blk_drewN ?_ _)); exact BK101.out⟩, ⟨by repeat ((with_reducible first | exact HB.out | apply pw_below_drewN))⟩⟩
    ·rw [if_neg c12] at H
     have c12b0 : (a2 == 0) = false := beq_eq_false_iff_ne.mpr c12
     have c12b1 : (a2 != 0) = true := bne_iff_ne.mpr c12
     (skip)
     have H' := A_ H
     clear H
     go_wp2
     repeat (go_quiet (fail); try go_wp2)
     go_meet
     case rel => exact ⟨_, (false), (by rfl), H', ⟨by omega⟩, ⟨by (with_reducible repeat (refine blk_drewN ?_ _)); exact BK101.out⟩, ⟨by repeat ((with_reducible first | exact HB.out | apply pw_below_drewN))⟩⟩
   case rest =>
    clear HC7; try clear c1; try clear p2; try clear c5; try clear c6; try clear c6b0; try clear c6b1; try clear p6; try clear c8; try clear c12; try clear c12b0; try clear c12b1; try clear hcz11_0; try clear hcz11_1; try clear hcz9_0; try clear hcz9_1; try clear hfz11_0; try clear hfz11_1; try clear hfz9_0; try clear hfz9_1
    obtain ⟨kq, x21_6, rfl, HA, HJ6, BK101, HB⟩ := hcut
    cases kq with
    | zero => exact absurd HA.out (by simp [impl_Neighbor.j0])
    | succ kj6 =>
     have H := HA.out
     clear HA
     simp only [impl_Neighbor.j0] at H
     by_cases c13 : x21_6 = true
     ·subst c13
      rw [if_pos rfl] at H
      obtain rfl := Option.some.inj H
      obtain ⟨hcz14_0, hcz14_1⟩ := kk2_ BK101.1
      have hfz14_0 := bf_ BK101.out 0
      have hfz14_1 := bf_ BK101.out 1
      go_wp2
      repeat (go_quiet (fail); try go_wp2)
      go_ret
      exact ⟨by rfl, by repeat ((with_reducible exact HB.out))⟩
     ·replace c13 := Bool.eq_false_iff.mpr c13
      subst c13
      have H1 : (if a2 = 1 then (impl_Neighbor.j1 kj6 a1 a2 (Int.tmod a1 a0_0) (wrap64 (Int.tdiv a1 a0_0)) (decide ((Int.tmod a1 a0_0) < (wrap64 (a0_0 - 1)))) a0_0 a0_1) else (impl_Neighbor.j1 kj6 a1 a2 (Int.tmod a1 a0_0) (wrap64 (Int.tdiv a1 a0_0)) false a0_0 a0_1)) = some r := by rw [if_neg (show ¬ (false = true) by decide)] at H; exact H
      clear H
      have H := H1
      clear H1
      have HC15 := A_ H
      clear H
      go_upto_region 6 with (fail)
      repeat (go_quiet (fail); go_upto_region 6 with (fail))
      go_cut [32] (fun v32 wc => ∃ (kq : Nat) (x32_14 : Bool), v32 = .bool x32_14 ∧ Aside0 (impl_Neighbor.j1 kq a1 a2 (Int.tmod a1 a0_0) (wrap64 (Int.tdiv a1 a0_0)) x32_14 a0_0 a0_1 = some r) ∧ Aside0 (kq ≤ kj6) ∧ Aside0 (wc.heap[gb101]? = some (.cells #[.int .i64 a0_0, .int .i64 a0_1] 25 (0, 0))) ∧ Aside0 (Below w.heap.size w wc))
      case first =>
       have H := HC15.out
       clear HC15
       by_cases c16 : a2 = 1
       ·rw [if_pos c16] at H
        have c16b0 : (a2 == 1) = true := beq_iff_eq.mpr c16
        have c16b1 : (a2 != 1) = false := bne_eq_false_iff_eq.mpr c16
        clear c16
        (skip)
        have H' := A_ H
        clear H
        obtain ⟨hcz17_0, hcz17_1⟩ := kk2_ BK101.1
        have hfz17_0 := bf_ BK101.out 0
        have hfz17_1 := bf_ BK101.out 1
        go_wp2
        repeat (go_quiet (fail); try go_wp2)
        go_meet
        case rel => exact ⟨_, (decide ((Int.tmod a1 a0_0) < (wrap64 (a0_0 - 1)))), (by rfl), H', ⟨by have := HJ6.out; omega⟩, ⟨by exact BK101.out⟩, ⟨by repeat ((with_reducible exact HB.out))⟩⟩
       ·rw [if_neg c16] at H
        have c16b0 : (a2 == 1) = false := beq_eq_false_iff_ne.mpr c16
        have c16b1 : (a2 != 1) = true := bne_iff_ne.mpr c16
        (skip)
        have H' := A_ H
        clear H
        go_wp2
        repeat (go_quiet (fail); try go_wp2)
        go_meet
        case rel => exact ⟨_, (false), (by rfl), H', ⟨by have := HJ6.out; omega⟩, ⟨by exact BK101.out⟩, ⟨by repeat ((with_reducible exact HB.out))⟩⟩
      case rest =>
       clear HC15; try clear c1; try clear p2; try clear c5; try clear c6; try clear c6b0; try clear c6b1; try clear p6; try clear c8; try clear c12; try clear c12b0; try clear c12b1; try clear c13; try clear c16; try clear c16b0; try clear c16b1; try clear hcz11_0; try clear hcz11_1; try clear hcz14_0; try clear hcz14_1; try clear hcz17_0; try clear hcz17_1; try clear hcz9_0; try clear hcz9_1; try clear hfz11_0; try clear hfz11_1; try clear hfz14_0; try clear hfz14_1; try clear hfz17_0; try clear hfz17_1; try clear hfz9_0; try clear hfz9_1; try clear p2; try clear p6
       obtain ⟨kq, x32_14, rfl, HA, HJ14, BK101, HB⟩ := hcut
       cases kq with
       | zero => exact absurd HA.out (by simp [impl_Neighbor.j1])
       | succ kj14 =>
        have H := HA.out
        clear HA
        simp only [impl_Neighbor.j1] at H
        by_cases c18 : x32_14 = true
        ·subst c18
         rw [if_pos rfl] at H
         obtain rfl := Option.some.inj H
         go_wp2
         repeat (go_quiet (fail); try go_wp2)
         go_ret
         exact ⟨by rfl, by repeat ((with_reducible exact HB.out))⟩
        ·replace c18 := Bool.eq_false_iff.mpr c18
         subst c18
         have H1 : (if a2 = 2 then (impl_Neighbor.j2 kj14 a1 a2 (Int.tmod a1 a0_0) (decide ((wrap64 (Int.tdiv a1 a0_0)) < (wrap64 (a0_1 - 1)))) a0_0 a0_1) else (impl_Neighbor.j2 kj14 a1 a2 (Int.tmod a1 a0_0) false a0_0 a0_1)) = some r := by rw [if_neg (show ¬ (false = true) by decide)] at H; exact H
         clear H
         have H := H1
         clear H1
         have HC19 := A_ H
         clear H
         go_upto_region 8 with (fail)
         repeat (go_quiet (fail); go_upto_region 8 with (fail))
         go_cut [44] (fun v44 wc => ∃ (kq : Nat) (x44_18 : Bool), v44 = .bool x44_18 ∧ Aside0 (impl_Neighbor.j2 kq a1 a2 (Int.tmod a1 a0_0) x44_18 a0_0 a0_1 = some r) ∧ Aside0 (kq ≤ kj14) ∧ Aside0 (wc.heap[gb101]? = some (.cells #[.int .i64 a0_0, .int .i64 a0_1] 25 (0, 0))) ∧ Aside0 (Below w.heap.size w wc))
         case first =>
          have H := HC19.out
          clear HC19
          by_cases c20 : a2 = 2
          ·rw [if_pos c20] at H
           have c20b0 : (a2 == 2) = true := beq_iff_eq.mpr c20
           have c20b1 : (a2 != 2) = false := bne_eq_false_iff_eq.mpr c20
           clear c20
           (skip)
           have H' := A_ H
           clear H
           obtain ⟨hcz21_0, hcz21_1⟩ := kk2_ BK101.1
           have hfz21_0 := bf_ BK101.out 0
           have hfz21_1 := bf_ BK101.out 1
           go_wp2
           repeat (go_quiet (fail); try go_wp2)
           go_meet
           case rel => exact ⟨_, (decide ((wrap64 (Int.tdiv a1 a0_0)) < (wrap64 (a0_1 - 1)))), (by rfl), H', ⟨by have := HJ6.out; have := HJ14.out; omega⟩, ⟨by exact BK101.out⟩, ⟨by repeat ((with_reducible exact HB.out))⟩⟩
          ·rw [if_neg c20] at H
           have c20b0 : (a2 == 2) = false := beq_eq_false_iff_ne.mpr c20
           have c20b1 : (a2 != 2) = true := bne_iff_ne.mpr c20
           (skip)
           have H' := A_ H
           clear H
           go_wp2
           repeat (go_quiet (fail); try go_wp2)
           go_meet
           case rel => exact ⟨_, (false), (by rfl), H', ⟨by have := HJ6.out; have := HJ14.out; omega⟩, ⟨by exact BK101.out⟩, ⟨by repeat ((with_reducible exact HB.out))⟩⟩
         case rest =>
          clear HC19; try clear c1; try clear c2; try clear p2; try clear c5; try clear c6; try clear c6b0; try clear c6b1; try clear p6; try clear c8; try clear c12; try clear c12b0; try clear c12b1; try clear c13; try clear c16; try clear c16b0; try clear c16b1; try clear c18; try clear c20; try clear c20b0; try clear c20b1; try clear hcz11_0; try clear hcz11_1; try clear hcz14_0; try clear hcz14_1; try clear hcz17_0; try clear hcz17_1; try clear hcz21_0; try clear hcz21_1; try clear hcz9_0; try clear hcz9_1; try clear hfz11_0; try clear hfz11_1; try clear hfz14_0; try clear hfz14_1; try clear hfz17_0; try clear hfz17_1; try clear hfz21_0; try clear hfz21_1; try clear hfz9_0; try clear hfz9_1; try clear p2; try clear p6
          obtain ⟨kq, x44_18, rfl, HA, HJ18, BK101, HB⟩ := hcut
          cases kq with
          | zero => exact absurd HA.out (by simp [impl_Neighbor.j2])
          | succ kj18 =>
           have H := HA.out
           clear HA
           simp only [impl_Neighbor.j2] at H
           by_cases c22 : x44_18 = true
           ·subst c22
            rw [if_pos rfl] at H
            obtain rfl := Option.some.inj H
            obtain ⟨hcz23_0, hcz23_1⟩ := kk2_ BK101.1
            have hfz23_0 := bf_ BK101.out 0
            have hfz23_1 := bf_ BK101.out 1
            go_wp2
            repeat (go_quiet (fail); try go_wp2)
            go_ret
            exact ⟨by rfl, by repeat ((with_reducible exact HB.out))⟩
           ·replace c22 := Bool.eq_false_iff.mpr c22
            subst c22
            have H1 : (if a2 = 3 then (if (Int.tmod a1 a0_0) > 0 then (some (wrap64 (a1 - 1))) else (some (-1))) else (some (-1))) = some r := by rw [if_neg (show ¬ (false = true) by decide)] at H; exact H
            clear H
            have H := H1
            clear H1
            by_cases c24 : a2 = 3
            ·rw [if_pos c24] at H
             have c24b0 : (a2 == 3) = true := beq_iff_eq.mpr c24
             have c24b1 : (a2 != 3) = false := bne_eq_false_iff_eq.mpr c24
             clear c24
             by_cases c25 : (Int.tmod a1 a0_0) > 0
             ·rw [if_pos c25] at H
              have c25b0 : decide (0 < (Int.tmod a1 a0_0)) = true := decide_eq_true c25
              clear c25
              obtain rfl := Option.some.inj H
              go_wp2
              repeat (go_quiet (fail); try go_wp2)
              go_ret
              exact ⟨by rfl, by repeat ((with_reducible exact HB.out))⟩
             ·rw [if_neg c25] at H
              have c25b0 : decide (0 < (Int.tmod a1 a0_0)) = false := decide_eq_false c25
              clear c25
              obtain rfl := Option.some.inj H
              go_wp2
              repeat (go_quiet (fail); try go_wp2)
              go_ret
              exact ⟨by rfl, by repeat ((with_reducible exact HB.out))⟩
            ·rw [if_neg c24] at H
             have c24b0 : (a2 == 3) = false := beq_eq_false_iff_ne.mpr c24
             have c24b1 : (a2 != 3) = true := bne_iff_ne.mpr c24
             obtain rfl := Option.some.inj H
             go_wp2
             repeat (go_quiet (fail); try go_wp2)
             go_ret
             exact ⟨by rfl, by repeat ((with_reducible exact HB.out))⟩
 ·replace c5 := Bool.eq_false_iff.mpr c5
  subst c5
  have H1 : (some (-1)) = some r := by rw [if_neg (show ¬ (false = true) by decide)] at H; exact H
  clear H
  have H := H1
  clear H1
  obtain rfl := Option.some.inj H
  go_enter Try.func85, Try.ntmps85
  go_wp2_with (first | ((with_reducible refine gate_dst (N := 3) rfl ?_); refine be_ 3 #[.int .i64 a0_0, .int .i64 a0_1] 25 ?_; intro gb101 hg w26 hbox hb; have n0_ := A_ (bs_ HB.1 hb); have n1_ := A_ (hbox); have n2_ := A_ (bS_ HB.out hg); have n3_ := A_ (bS_ HB.out hg); clear HB; have HB := n0_; have BK101 := n1_; have GW101 := n2_; have GE101 := n3_; clear n0_ n1_ n2_ n3_ hb hbox hg; obtain ⟨hcz27_0, hcz27_1⟩ := kk2_ BK101.1; have hfz27_0 := bf_ BK101.out 0; have hfz27_1 := bf_ BK101.out 1) | (go_at_call 128; (with_reducible refine (impl_isCell.calls a0_0 a0_1 a1 false _ A4.out).mono ?_); rintro e w28 ⟨rfl, hb⟩; have n0_ := A_ (blk_below BK101.out hb); have n1_ := A_ (bs_ HB.1 hb); clear BK101 HB; have BK101 := n0_; have HB := n1_; clear n0_ n1_; (try clear hb); (try clear hk)))
  repeat (go_quiet (fail); try go_wp2_with (fail))
  go_ret
  exact ⟨by rfl, by repeat ((with_reducible exact HB.out))⟩

end Go.Proofs.Ytbeajmcjfhbcjaa.P
namespace Go.Proofs.Ytbeajmcjfhbcjaa.P
open Go.RowKit Go.Proofs.YtbeajmcjfhbcjaaW.PrintWords Go.Proofs.YtbeajmcjfhbcjaaW.PrintLast Go.Proofs.YtbeajmcjfhbcjaaW.PrintMore
attribute [local go_sem] max2_int min2_int max_two min_two max_three min_three max_four min_four   -- for this text's walks alone
set_option linter.unusedVariables false
set_option linter.unusedSimpArgs false

def impl_GapAt.f (k : Nat) (a0_0 : Int) (a0_1 : Int) (a1 : Int) (a2 : Int) : Option (Int) := (impl_Neighbor.f k a0_0 a0_1 a1 a2).bind fun t102 => (if t102 < 0 then (some (-1)) else (if a2 = 1 then (if a0_0 = 0 then (none) else (some (wrap64 ((wrap64 ((wrap64 (Int.tdiv (mn a1 t102) a0_0)) * (wrap64 (a0_0 - 1)))) + (Int.tmod (mn a1 t102) a0_0))))) else (if a2 = 3 then (if a0_0 = 0 then (none) else (some (wrap64 ((wrap64 ((wrap64 (Int.tdiv (mn a1 t102) a0_0)) * (wrap64 (a0_0 - 1)))) + (Int.tmod (mn a1 t102) a0_0))))) else (some (wrap64 ((wrap64 ((wrap64 (a0_0 - 1)) * a0_1)) + (mn a1 t102)))))))
set_option maxHeartbeats 8000000 in
set_option maxRecDepth 100000 in
theorem impl_GapAt.calls (k : Nat) (a0_0 : Int) (a0_1 : Int) (a1 : Int) (a2 : Int) (r : Int) (w : World) (h : impl_GapAt.f k a0_0 a0_1 a1 a2 = some r) :
  Calls Try.prog 123 #[.agg #[.int .i64 a0_0, .int .i64 a0_1], .int .i64 a1, .int .i64 a2] w fun e w' => e = .returned (.int .i64 r) ∧ Below w.heap.size w w' := by
 have hu25 := Try.underlying25
 have HB := A_ (Below.refl w.heap.size w)
 have H : ((impl_Neighbor.f k a0_0 a0_1 a1 a2).bind fun t102 => (if t102 < 0 then (some (-1)) else (if a2 = 1 then (if a0_0 = 0 then (none) else (some (wrap64 ((wrap64 ((wrap64 (Int.tdiv (mn a1 t102) a0_0)) * (wrap64 (a0_0 - 1)))) + (Int.tmod (mn a1 t102) a0_0))))) else (if a2 = 3 then (if a0_0 = 0 then (none) else (some (wrap64 ((wrap64 ((wrap64 (Int.tdiv (mn a1 t102) a0_0)) * (wrap64 (a0_0 - 1)))) + (Int.tmod (mn a1 t102) a0_0))))) else (some (wrap64 ((wrap64 ((wrap64 (a0_0 - 1)) * a0_1)) + (mn a1 t102)))))))) = some r := h
 clear h
 obtain ⟨t102, A40, H⟩ := oB_ H
 (try dsimp only at H); have A4 := A_ A40; clear A40
 by_cases c5 : t102 < 0
 ·rw [if_pos c5] at H
  have c5b0 : decide (t102 < 0) = true := decide_eq_true c5
  clear c5
  obtain rfl := Option.some.inj H
  go_enter Try.func123, Try.ntmps123
  go_wp2_with (first | ((with_reducible refine gate_dst (N := 3) rfl ?_); refine be_ 3 #[.int .i64 a0_0, .int .i64 a0_1] 25 ?_; intro gb101 hg w6 hbox hb; have n0_ := A_ (bs_ HB.1 hb); have n1_ := A_ (hbox); have n2_ := A_ (bS_ HB.out hg); have n3_ := A_ (bS_ HB.out hg); clear HB; have HB := n0_; have BK101 := n1_; have GW101 := n2_; have GE101 := n3_; clear n0_ n1_ n2_ n3_ hb hbox hg; obtain ⟨hcz7_0, hcz7_1⟩ := kk2_ BK101.1; have hfz7_0 := bf_ BK101.out 0; have hfz7_1 := bf_ BK101.out 1) | (go_at_call 85; (with_reducible refine (impl_Neighbor.calls k a0_0 a0_1 a1 a2 t102 _ A4.out).mono ?_); rintro e w8 ⟨rfl, hb⟩; have n0_ := A_ (blk_below BK101.out hb); have n1_ := A_ (bs_ HB.1 hb); clear BK101 HB; have BK101 := n0_; have HB := n1_; clear n0_ n1_; (try clear hb); (try clear hk)))
  repeat (go_quiet (fail); try go_wp2_with (fail))
  go_ret
  exact ⟨by rfl, by repeat ((with_reducible exact HB.out))⟩
 ·rw [if_neg c5] at H
  have c5b0 : decide (t102 < 0) = false := decide_eq_false c5
  clear c5
  obtain ⟨ji9, hji9⟩ : ∃ j_ : Int, (mn a1 t102) = j_ := ⟨_, rfl⟩
  replace H : (if a2 = 1 then (if a0_0 = 0 then (none) else (some (wrap64 ((wrap64 ((wrap64 (Int.tdiv (ji9) a0_0)) * (wrap64 (a0_0 - 1)))) + (Int.tmod (ji9) a0_0))))) else (if a2 = 3 then (if a0_0 = 0 then (none) else (some (wrap64 ((wrap64 ((wrap64 (Int.tdiv (ji9) a0_0)) * (wrap64 (a0_0 - 1)))) + (Int.tmod (ji9) a0_0))))) else (some (wrap64 ((wrap64 ((wrap64 (a0_0 - 1)) * a0_1)) + (ji9)))))) = some r := by (rw [hji9] at H; exact H)
  (try rw [hji9] at A4)
  have hji9_ : (if t102 < a1 then t102 else a1) = ji9 := hji9
  by_cases c10 : a2 = 1
  ·rw [if_pos c10] at H
   have c10b0 : (a2 == 1) = true := beq_iff_eq.mpr c10
   have c10b1 : (a2 != 1) = false := bne_eq_false_iff_eq.mpr c10
   clear c10
   by_cases c11 : a0_0 = 0
   ·rw [if_pos c11] at H
    exact absurd H (by simp)
   ·rw [if_neg c11] at H
    have c11b0 : (a0_0 == 0) = false := beq_eq_false_iff_ne.mpr c11
    have c11b1 : (a0_0 != 0) = true := bne_iff_ne.mpr c11
    obtain rfl := Option.some.inj H
    go_enter Try.func123, Try.ntmps123
    go_wp2_with (first | ((with_reducible refine gate_dst (N := 3) rfl ?_); refine be_ 3 #[.int .i64 a0_0, .int .i64 a0_1] 25 ?_; intro gb101 hg w12 hbox hb; have n0_ := A_ (bs_ HB.1 hb); have n1_ := A_ (hbox); have n2_ := A_ (bS_ HB.out hg); have n3_ := A_ (bS_ HB.out hg); clear HB; have HB := n0_; have BK101 := n1_; have GW101 := n2_; have GE101 := n3_; clear n0_ n1_ n2_ n3_ hb hbox hg; obtain ⟨hcz13_0, hcz13_1⟩ := kk2_ BK101.1; have hfz13_0 := bf_ BK101.out 0; have hfz13_1 := bf_ BK101.out 1) | (go_at_call 85; (with_reducible refine (impl_Neighbor.calls k a0_0 a0_1 a1 a2 t102 _ A4.out).mono ?_); rintro e w14 ⟨rfl, hb⟩; have n0_ := A_ (blk_below BK101.out hb); have n1_ := A_ (bs_ HB.1 hb); clear BK101 HB; have BK101 := n0_; have HB := n1_; clear n0_ n1_; (try clear hb); (try clear hk); obtain ⟨hcz15_0, hcz15_1⟩ := kk2_ BK101.1; have hfz15_0 := bf_ BK101.out 0; have hfz15_1 := bf_ BK101.out 1))
    repeat (go_quiet (fail); try go_wp2_with (fail))
    go_ret
    exact ⟨by rfl, by repeat ((with_reducible first | exact HB.out | apply pw_below_drewN))⟩
  ·rw [if_neg c10] at H
   have c10b0 : (a2 == 1) = false := beq_eq_false_iff_ne.mpr c10
   have c10b1 : (a2 != 1) = true := bne_iff_ne.mpr c10
   by_cases c16 : a2 = 3
   ·rw [if_pos c16] at H
    have c16b0 : (a2 == 3) = true := beq_iff_eq.mpr c16
    have c16b1 : (a2 != 3) = false := bne_eq_false_iff_eq.mpr c16
    clear c16
    by_cases c17 : a0_0 = 0
    ·rw [if_pos c17] at H
     exact absurd H (by simp)
    ·rw [if_neg c17] at H
     have c17b0 : (a0_0 == 0) = false := beq_eq_false_iff_ne.mpr c17
     have c17b1 : (a0_0 != 0) = true := bne_iff_ne.mpr c17
     obtain rfl := Option.some.inj H
     go_enter Try.func123, Try.ntmps123
     go_wp2_with (first | ((with_reducible refine gate_dst (N := 3) rfl ?_); refine be_ 3 #[.int .i64 a0_0, .int .i64 a0_1] 25 ?_; intro gb101 hg w18 hbox hb; have n0_ := A_ (bs_ HB.1 hb); have n1_ := A_ (hbox); have n2_ := A_ (bS_ HB.out hg); have n3_ := A_ (bS_ HB.out hg); clear HB; have HB := n0_; have BK101 := n1_; have GW101 := n2_; have GE101 := n3_; clear n0_ n1_ n2_ n3_ hb hbox hg; obtain ⟨hcz19_0, hcz19_1⟩ := kk2_ BK101.1; have hfz19_0 := bf_ BK101.out 0; have hfz19_1 := bf_ BK101.out 1) | (go_at_call 85; (with_reducible refine (impl_Neighbor.calls k a0_0 a0_1 a1 a2 t102 _ A4.out).mono ?_); rintro e w20 ⟨rfl, hb⟩; have n0_ := A_ (blk_below BK101.out hb); have n1_ := A_ (bs_ HB.1 hb); clear BK101 HB; have BK101 := n0_; have HB := n1_; clear n0_ n1_; (try clear hb); (try clear hk); obtain ⟨hcz21_0, hcz21_1⟩ := kk2_ BK101.1; have hfz21_0 := bf_ BK101.out 0; have hfz21_1 := bf_ BK101.out 1))
     repeat (go_quiet (fail); try go_wp2_with (fail))
     go_ret
     exact ⟨by rfl, by repeat ((with_reducible first | exact HB.out | apply pw_below_drewN))⟩
   ·rw [if_neg c16] at H
    have c16b0 : (a2 == 3) = false := beq_eq_false_iff_ne.mpr c16
    have c16b1 : (a2 != 3) = true := bne_iff_ne.mpr c16
    obtain rfl := Option.some.inj H
    go_enter Try.func123, Try.ntmps123
    go_wp2_with (first | ((with_reducible refine gate_dst (N := 3) rfl ?_); refine be_ 3 #[.int .i64 a0_0, .int .i64 a0_1] 25 ?_; intro gb101 hg w22 hbox hb; have n0_ := A_ (bs_ HB.1 hb); have n1_ := A_ (hbox); have n2_ := A_ (bS_ HB.out hg); have n3_ := A_ (bS_ HB.out hg); clear HB; have HB := n0_; have BK101 := n1_; have GW101 := n2_; have GE101 := n3_; clear n0_ n1_ n2_ n3_ hb hbox hg; obtain ⟨hcz23_0, hcz23_1⟩ := kk2_ BK101.1; have hfz23_0 := bf_ BK101.out 0; have hfz23_1 := bf_ BK101.out 1) | (go_at_call 85; (with_reducible refine (impl_Neighbor.calls k a0_0 a0_1 a1 a2 t102 _ A4.out).mono ?_); rintro e w24 ⟨rfl, hb⟩; have n0_ := A_ (blk_below BK101.out hb); have n1_ := A_ (bs_ HB.1 hb); clear BK101 HB; have BK101 := n0_; have HB := n1_; clear n0_ n1_; (try clear hb); (try clear hk); obtain ⟨hcz25_0, hcz25_1⟩ := kk2_ BK101.1; have hfz25_0 := bf_ BK101.out 0; have hfz25_1 := bf_ BK101.out 1))
    repeat (go_quiet (fail); try go_wp2_with (fail))
    go_ret
    exact ⟨by rfl, by repeat ((with_reducible exact HB.out))⟩

def impl_Step.f (k : Nat) (a0_0 : Int) (a0_1 : Int) (a0_2 : Int) (a1 : Int) (a2 : Int) : Option (Int) := (impl_MazeOk.f a0_0 a0_1 a0_2).bind fun t102 => (if t102 = true then ((impl_GapAt.f k a0_0 a0_1 a1 a2).bind fun t103 => ((impl_isOpen.f a0_0 a0_1 a0_2 t103).bind fun t104 => (if t104 = true then ((impl_Neighbor.f k a0_0 a0_1 a1 a2).bind fun t105 => (some t105)) else (some (-1))))) else (some (-1)))
def impl_Step.T1 : Bool × List (List Nat × List Nat) := (true, [([], []), ([0], [0]), ([1], [1]), ([2, 1], [2]), ([3], [3]), ([3], [3]), ([5, 3], [3, 5]), ([3], [3]), ([3], [3]), ([6, 7, 8, 3, 3], [3, 6, 7, 8]), ([4, 9, 9, 3], [3, 4, 9]), ([10, 3], [3, 10]), ([3, 11], [3, 11])])
def impl_Step.B1 : List Nat := [0, 1, 3, 7, 15, 15, 47, 15, 15, 495, 1023, 2047, 4095]
theorem impl_Step.tab1 : rtab .any (opsOf Try.f113 1) = impl_Step.T1 := by kernel_rfl
theorem impl_Step.bits1 : waitsOk impl_Step.T1.2 impl_Step.B1 = true := by kernel_rfl
set_option maxHeartbeats 8000000 in
set_option maxRecDepth 100000 in
theorem impl_Step.calls (k : Nat) (a0_0 : Int) (a0_1 : Int) (a0_2 : Int) (a1 : Int) (a2 : Int) (r : Int) (w : World) (h : impl_Step.f k a0_0 a0_1 a0_2 a1 a2 = some r) :
  Calls Try.prog 113 #[.agg #[.int .i64 a0_0, .int .i64 a0_1, .int .i64 a0_2], .int .i64 a1, .int .i64 a2] w fun e w' => e = .returned (.int .i64 r) ∧ Below w.heap.size w w' := by
 have hu27 := Try.underlying27
 have hu25 := Try.underlying25
 have HB := A_ (Below.refl w.heap.size w)
 have H : ((impl_MazeOk.f a0_0 a0_1 a0_2).bind fun t102 => (if t102 = true then ((impl_GapAt.f k a0_0 a0_1 a1 a2).bind fun t103 => ((impl_isOpen.f a0_0 a0_1 a0_2 t103).bind fun t104 => (if t104 = true then ((impl_Neighbor.f k a0_0 a0_1 a1 a2).bind fun t105 => (some t105)) else (some (-1))))) else (some (-1)))) = some r := h
 clear h
 obtain ⟨t102, A40, H⟩ := oB_ H
 (try dsimp only at H); have A4 := A_ A40; clear A40
 by_cases c5 : t102 = true
 ·subst c5
  rw [if_pos rfl] at H
  obtain ⟨t103, A60, H⟩ := oB_ H
  (try dsimp only at H); have A6 := A_ A60; clear A60
  obtain ⟨t104, A70, H⟩ := oB_ H
  (try dsimp only at H); have A7 := A_ A70; clear A70
  by_cases c8 : t104 = true
  ·subst c8
   rw [if_pos rfl] at H
   obtain ⟨t105, A90, H⟩ := oB_ H
   (try dsimp only at H); have A9 := A_ A90; clear A90
   obtain rfl := Option.some.inj H
   go_enter Try.func113, Try.ntmps113
   try go_wp2_with (((with_reducible refine gate_dst (N := 3) rfl ?_); refine be_ 3 #[.int .i64 a0_0, .int .i64 a0_1, .int .i64 a0_2] 27 ?_; intro gb101 hg w10 hbox hb; have n0_ := A_ (bs_ HB.1 hb); have n1_ := A_ (hbox); have n2_ := A_ (bS_ HB.out hg); have n3_ := A_ (bS_ HB.out hg); clear HB; have HB := n0_; have BK101 := n1_; have GW101 := n2_; have GE101 := n3_; clear n0_ n1_ n2_ n3_ hb hbox hg)); have n0_ := A_ (blk_drew BK101.out); have n1_ := A_ (below_drew1 HB.out); clear BK101 HB; have BK101 := n0_; have HB := n1_; clear n0_ n1_
   refine start_ (n := 13) (S := fun w' => w'.cell? ⟨gb101, 0, none⟩ = some (.int .i64 a0_0) ∧ w'.cell? ⟨gb101, 1, none⟩ = some (.int .i64 a0_1) ∧ w'.cell? ⟨gb101, 2, none⟩ = some (.int .i64 a0_2)) (ds := []) #[false, false, false, false, false, false, false, false, false, false, false, false, false] (by kernel_rfl) rfl rfl ⟨(blk_cell BK101.out 0).trans rfl, (blk_cell BK101.out 1).trans rfl, (blk_cell BK101.out 2).trans rfl⟩ (fun hHeld => ?_); refine with_tabW impl_Step.tab1 impl_Step.bits1 (fun HT_ HW_ => ?_)
   generalize w10.drew = w11 at BK101 HB hHeld ⊢; refine tv_ 0 7 rfl HT_ HW_ hHeld (by rintro w' ⟨s0, s1, s2⟩; go_simp; with_reducible rfl) ?_
   refine on_ 1 (some 8) rfl rfl HT_ (by kernel_rfl) (by decide) (fun K hK => ?_)
   refine gs_ Try.func69 #[.agg #[.int .i64 a0_0, .int .i64 a0_1, .int .i64 a0_2]] ?_
   with_reducible refine (impl_MazeOk.calls a0_0 a0_1 a0_2 true _ A4.out).mono ?_
   rintro e w12 ⟨rfl, hb⟩
   refine ⟨_, rfl, ?_⟩
   have n0_ := A_ (blk_below BK101.out hb)
   have n1_ := A_ (bs_ HB.1 hb)
   clear BK101 HB; have BK101 := n0_; have HB := n1_; clear n0_ n1_; (try clear hb); (try clear hk)
   refine hK.out _ _ ⟨(blk_cell BK101.out 0).trans rfl, (blk_cell BK101.out 1).trans rfl, (blk_cell BK101.out 2).trans rfl⟩ (fun hHeld => ?_)
   clear hK K
   refine norm_ (a' := ?_) ?_ ?_; rotate_left; (show Act.put _ (some 8) _ = _; simp only [P6_]; rfl)
   refine pv_ 2 9 HT_ ?_; refine pv_ 3 10 HT_ ?_; refine pv_ 5 12 HT_ ?_; refine pv_ 7 14 HT_ ?_; refine pv_ 8 15 HT_ ?_; refine tv_ 4 11 rfl HT_ HW_ hHeld (by rintro w' ⟨s0, s1, s2⟩; go_simp; with_reducible rfl) ?_
   refine tv_ 6 13 rfl HT_ HW_ hHeld (by rintro w' ⟨s0, s1, s2⟩; go_simp; with_reducible rfl) ?_
   refine on_ 9 (some 16) rfl rfl HT_ (by kernel_rfl) (by decide) (fun K hK => ?_)
   refine gs_ Try.func123 #[.agg #[.int .i64 a0_0, .int .i64 a0_1], .int .i64 a1, .int .i64 a2] ?_
   with_reducible refine (impl_GapAt.calls k a0_0 a0_1 a1 a2 t103 _ A6.out).mono ?_
   rintro e w13 ⟨rfl, hb⟩
   refine ⟨_, rfl, ?_⟩
   have n0_ := A_ (blk_below BK101.out hb)
   have n1_ := A_ (bs_ HB.1 hb)
   clear BK101 HB; have BK101 := n0_; have HB := n1_; clear n0_ n1_; (try clear hb); (try clear hk)
   refine hK.out _ _ ⟨(blk_cell BK101.out 0).trans rfl, (blk_cell BK101.out 1).trans rfl, (blk_cell BK101.out 2).trans rfl⟩ (fun hHeld => ?_)
   clear hK K
   refine norm_ (a' := ?_) ?_ ?_; rotate_left; (show Act.put _ (some 16) _ = _; simp only [P6_]; rfl)
   refine on_ 10 (some 17) rfl rfl HT_ (by kernel_rfl) (by decide) (fun K hK => ?_)
   refine gs_ Try.func75 #[.agg #[.int .i64 a0_0, .int .i64 a0_1, .int .i64 a0_2], .int .i64 t103] ?_
   with_reducible refine (impl_isOpen.calls a0_0 a0_1 a0_2 t103 true _ A7.out).mono ?_
   rintro e w14 ⟨rfl, hb⟩
   refine ⟨_, rfl, ?_⟩
   have n0_ := A_ (blk_below BK101.out hb)
   have n1_ := A_ (bs_ HB.1 hb)
   clear BK101 HB; have BK101 := n0_; have HB := n1_; clear n0_ n1_; (try clear hb); (try clear hk)
   refine hK.out _ _ ⟨(blk_cell BK101.out 0).trans rfl, (blk_cell BK101.out 1).trans rfl, (blk_cell BK101.out 2).trans rfl⟩ (fun hHeld => ?_)
   clear hK K
   refine norm_ (a' := ?_) ?_ ?_; rotate_left; (show Act.put _ (some 17) _ = _; simp only [P6_]; rfl)
   refine pv_ 11 18 HT_ ?_; refine pv_ 12 19 HT_ ?_
   refine done_ (done_of HT_.out (by kernel_rfl)) ?_
   obtain ⟨hcz15_0, hcz15_1, hcz15_2⟩ := kk3_ BK101.1
   have hfz15_0 := bf_ BK101.out 0
   have hfz15_1 := bf_ BK101.out 1
   have hfz15_2 := bf_ BK101.out 2
   try go_wp2_with (((with_reducible refine gate_callee (f := 85) rfl ?_); refine gl_ 24 Try.func85 #[.agg #[.int .i64 a0_0, .int .i64 a0_1], .int .i64 a1, .int .i64 a2] ?_; (with_reducible refine (impl_Neighbor.calls k a0_0 a0_1 a1 a2 t105 _ A9.out).mono ?_); rintro e w16 ⟨rfl, hb⟩; refine ⟨_, rfl, ?_⟩; have n0_ := A_ (blk_below BK101.out hb); have n1_ := A_ (bs_ HB.1 hb); clear BK101 HB; have BK101 := n0_; have HB := n1_; clear n0_ n1_; (try clear hb); (try clear hk)))
   go_ret
   exact ⟨by rfl, by repeat ((with_reducible exact HB.out))⟩
  ·replace c8 := Bool.eq_false_iff.mpr c8
   subst c8
   have H1 : (some (-1)) = some r := by rw [if_neg (show ¬ (false = true) by decide)] at H; exact H
   clear H
   have H := H1
   clear H1
   obtain rfl := Option.some.inj H
   go_enter Try.func113, Try.ntmps113
   try go_wp2_with (((with_reducible refine gate_dst (N := 3) rfl ?_); refine be_ 3 #[.int .i64 a0_0, .int .i64 a0_1, .int .i64 a0_2] 27 ?_; intro gb101 hg w17 hbox hb; have n0_ := A_ (bs_ HB.1 hb); have n1_ := A_ (hbox); have n2_ := A_ (bS_ HB.out hg); have n3_ := A_ (bS_ HB.out hg); clear HB; have HB := n0_; have BK101 := n1_; have GW101 := n2_; have GE101 := n3_; clear n0_ n1_ n2_ n3_ hb hbox hg)); have n0_ := A_ (blk_drew BK101.out); have n1_ := A_ (below_drew1 HB.out); clear BK101 HB; have BK101 := n0_; have HB := n1_; clear n0_ n1_
   refine start_ (n := 13) (S := fun w' => w'.cell? ⟨gb101, 0, none⟩ = some (.int .i64 a0_0) ∧ w'.cell? ⟨gb101, 1, none⟩ = some (.int .i64 a0_1) ∧ w'.cell? ⟨gb101, 2, none⟩ = some (.int .i64 a0_2)) (ds := []) #[false, false, false, false, false, false, false, false, false, false, false, false, false] (by kernel_rfl) rfl rfl ⟨(blk_cell BK101.out 0).trans rfl, (blk_cell BK101.out 1).trans rfl, (blk_cell BK101.out 2).trans rfl⟩ (fun hHeld => ?_); refine with_tabW impl_Step.tab1 impl_Step.bits1 (fun HT_ HW_ => ?_)
   generalize w17.drew = w18 at BK101 HB hHeld ⊢; refine tv_ 0 7 rfl HT_ HW_ hHeld (by rintro w' ⟨s0, s1, s2⟩; go_simp; with_reducible rfl) ?_
   refine on_ 1 (some 8) rfl rfl HT_ (by kernel_rfl) (by decide) (fun K hK => ?_)
   refine gs_ Try.func69 #[.agg #[.int .i64 a0_0, .int .i64 a0_1, .int .i64 a0_2]] ?_
   with_reducible refine (impl_MazeOk.calls a0_0 a0_1 a0_2 true _ A4.out).mono ?_
   rintro e w19 ⟨rfl, hb⟩
   refine ⟨_, rfl, ?_⟩
   have n0_ := A_ (blk_below BK101.out hb)
   have n1_ := A_ (bs_ HB.1 hb)
   clear BK101 HB; have BK101 := n0_; have HB := n1_; clear n0_ n1_; (try clear hb); (try clear hk)
   refine hK.out _ _ ⟨(blk_cell BK101.out 0).trans rfl, (blk_cell BK101.out 1).trans rfl, (blk_cell BK101.out 2).trans rfl⟩ (fun hHeld => ?_)
   clear hK K
   refine norm_ (a' := ?_) ?_ ?_; rotate_left; (show Act.put _ (some 8) _ = _; simp only [P6_]; rfl)
   refine pv_ 2 9 HT_ ?_; refine pv_ 3 10 HT_ ?_; refine pv_ 5 12 HT_ ?_; refine pv_ 7 14 HT_ ?_; refine pv_ 8 15 HT_ ?_; refine tv_ 4 11 rfl HT_ HW_ hHeld (by rintro w' ⟨s0, s1, s2⟩; go_simp; with_reducible rfl) ?_
   refine tv_ 6 13 rfl HT_ HW_ hHeld (by rintro w' ⟨s0, s1, s2⟩; go_simp; with_reducible rfl) ?_
   refine on_ 9 (some 16) rfl rfl HT_ (by kernel_rfl) (by decide) (fun K hK => ?_)
   refine gs_ Try.func123 #[.agg #[.int .i64 a0_0, .int .i64 a0_1], .int .i64 a1, .int .i64 a2] ?_
   with_reducible refine (impl_GapAt.calls k a0_0 a0_1 a1 a2 t103 _ A6.out).mono ?_
   rintro e w20 ⟨rfl, hb⟩
   refine ⟨_, rfl, ?_⟩
   have n0_ := A_ (blk_below BK101.out hb)
   have n1_ := A_ (bs_ HB.1 hb)
   clear BK101 HB; have BK101 := n0_; have HB := n1_; clear n0_ n1_; (try clear hb); (try clear hk)
   refine hK.out _ _ ⟨(blk_cell BK101.out 0).trans rfl, (blk_cell BK101.out 1).trans rfl, (blk_cell BK101.out 2).trans rfl⟩ (fun hHeld => ?_)
   clear hK K
   refine norm_ (a' := ?_) ?_ ?_; rotate_left; (show Act.put _ (some 16) _ = _; simp only [P6_]; rfl)
   refine on_ 10 (some 17) rfl rfl HT_ (by kernel_rfl) (by decide) (fun K hK => ?_)
   refine gs_ Try.func75 #[.agg #[.int .i64 a0_0, .int .i64 a0_1, .int .i64 a0_2], .int .i64 t103] ?_
   with_reducible refine (impl_isOpen.calls a0_0 a0_1 a0_2 t103 false _ A7.out).mono ?_
   rintro e w21 ⟨rfl, hb⟩
   refine ⟨_, rfl, ?_⟩
   have n0_ := A_ (blk_below BK101.out hb)
   have n1_ := A_ (bs_ HB.1 hb)
   clear BK101 HB; have BK101 := n0_; have HB := n1_; clear n0_ n1_; (try clear hb); (try clear hk)
   refine hK.out _ _ ⟨(blk_cell BK101.out 0).trans rfl, (blk_cell BK101.out 1).trans rfl, (blk_cell BK101.out 2).trans rfl⟩ (fun hHeld => ?_)
   clear hK K
   refine norm_ (a' := ?_) ?_ ?_; rotate_left; (show Act.put _ (some 17) _ = _; simp only [P6_]; rfl)
   refine pv_ 11 18 HT_ ?_; refine pv_ 12 19 HT_ ?_
   refine done_ (done_of HT_.out (by kernel_rfl)) ?_
   try go_wp2
   go_ret
   exact ⟨by rfl, by repeat ((with_reducible exact HB.out))⟩
 ·replace c5 := Bool.eq_false_iff.mpr c5
  subst c5
  have H1 : (some (-1)) = some r := by rw [if_neg (show ¬ (false = true) by decide)] at H; exact H
  clear H
  have H := H1
  clear H1
  obtain rfl := Option.some.inj H
  go_enter Try.func113, Try.ntmps113
  try go_wp2_with (((with_reducible refine gate_dst (N := 3) rfl ?_); refine be_ 3 #[.int .i64 a0_0, .int .i64 a0_1, .int .i64 a0_2] 27 ?_; intro gb101 hg w22 hbox hb; have n0_ := A_ (bs_ HB.1 hb); have n1_ := A_ (hbox); have n2_ := A_ (bS_ HB.out hg); have n3_ := A_ (bS_ HB.out hg); clear HB; have HB := n0_; have BK101 := n1_; have GW101 := n2_; have GE101 := n3_; clear n0_ n1_ n2_ n3_ hb hbox hg)); have n0_ := A_ (blk_drew BK101.out); have n1_ := A_ (below_drew1 HB.out); clear BK101 HB; have BK101 := n0_; have HB := n1_; clear n0_ n1_
  refine start_ (n := 13) (S := fun w' => w'.cell? ⟨gb101, 0, none⟩ = some (.int .i64 a0_0) ∧ w'.cell? ⟨gb101, 1, none⟩ = some (.int .i64 a0_1) ∧ w'.cell? ⟨gb101, 2, none⟩ = some (.int .i64 a0_2)) (ds := []) #[false, false, false, false, false, false, false, false, false, false, false, false, false] (by kernel_rfl) rfl rfl ⟨(blk_cell BK101.out 0).trans rfl, (blk_cell BK101.out 1).trans rfl, (blk_cell BK101.out 2).trans rfl⟩ (fun hHeld => ?_); refine with_tabW impl_Step.tab1 impl_Step.bits1 (fun HT_ HW_ => ?_)
  generalize w22.drew = w23 at BK101 HB hHeld ⊢; refine tv_ 0 7 rfl HT_ HW_ hHeld (by rintro w' ⟨s0, s1, s2⟩; go_simp; with_reducible rfl) ?_
  refine on_ 1 (some 8) rfl rfl HT_ (by kernel_rfl) (by decide) (fun K hK => ?_)
  refine gs_ Try.func69 #[.agg #[.int .i64 a0_0, .int .i64 a0_1, .int .i64 a0_2]] ?_
  with_reducible refine (impl_MazeOk.calls a0_0 a0_1 a0_2 false _ A4.out).mono ?_
  rintro e w24 ⟨rfl, hb⟩
  refine ⟨_, rfl, ?_⟩
  have n0_ := A_ (blk_below BK101.out hb)
  have n1_ := A_ (bs_ HB.1 hb)
  clear BK101 HB; have BK101 := n0_; have HB := n1_; clear n0_ n1_; (try clear hb); (try clear hk)
  refine hK.out _ _ ⟨(blk_cell BK101.out 0).trans rfl, (blk_cell BK101.out 1).trans rfl, (blk_cell BK101.out 2).trans rfl⟩ (fun hHeld => ?_)
  clear hK K
  refine norm_ (a' := ?_) ?_ ?_; rotate_left; (show Act.put _ (some 8) _ = _; simp only [P6_]; rfl)
  refine pv_ 2 9 HT_ ?_; refine pv_ 3 10 HT_ ?_; refine pw_ 4 11 HT_ ?_; refine pw_ 5 12 HT_ ?_; refine pw_ 6 13 HT_ ?_; refine pw_ 7 14 HT_ ?_; refine pw_ 8 15 HT_ ?_; refine pw_ 9 16 HT_ ?_; refine pw_ 10 17 HT_ ?_; refine pw_ 11 18 HT_ ?_; refine pv_ 12 19 HT_ ?_
  refine done_ (done_of HT_.out (by kernel_rfl)) ?_
  try go_wp2
  go_ret
  exact ⟨by rfl, by repeat ((with_reducible exact HB.out))⟩

def impl_WaysFrom.l0 : Nat → Int → List Int → Int → Int → Int → Int → Option (List Int)
 | 0, _, _, _, _, _, _ => none
 | k + 1, x1, x5, x6, x102000, x102001, x102002 => if x6 ≤ 3 then ((impl_Step.f k x102000 x102001 x102002 x1 x6).bind fun t102 => (if t102 ≥ 0 then (if x5.length < 17592186044416 then (impl_WaysFrom.l0 k x1 (x5 ++ [x6]) (wrap64 (x6 + 1)) x102000 x102001 x102002) else (none)) else (impl_WaysFrom.l0 k x1 x5 (wrap64 (x6 + 1)) x102000 x102001 x102002))) else (some x5)
def impl_WaysFrom.f (k : Nat) (a0_0 : Int) (a0_1 : Int) (a0_2 : Int) (a1 : Int) : Option (List Int) := impl_WaysFrom.l0 k a1 ([] : List Int) 0 a0_0 a0_1 a0_2
set_option maxHeartbeats 8000000 in
set_option maxRecDepth 100000 in
theorem impl_WaysFrom.calls (k : Nat) (a0_0 : Int) (a0_1 : Int) (a0_2 : Int) (a1 : Int) (r : List Int) (w : World) (h : impl_WaysFrom.f k a0_0 a0_1 a0_2 a1 = some r) :
  Calls Try.prog 52 #[.agg #[.int .i64 a0_0, .int .i64 a0_1, .int .i64 a0_2], .int .i64 a1] w fun e w' => ∃ v0_ : Value, e = .returned (v0_) ∧ Kd.R (Kd.int .i64) 3 w' w.heap.size (fun _ => True) v0_ r ∧ Below w.heap.size w w' := by
 have hu27 := Try.underlying27
 have HB := A_ (Below.refl w.heap.size w)
 have H : (impl_WaysFrom.l0 k a1 ([] : List Int) 0 a0_0 a0_1 a0_2) = some r := h
 clear h
 have H' := A_ H
 clear H
 go_enter Try.func52, Try.ntmps52
 go_wp2_with (((with_reducible refine gate_dst (N := 2) rfl ?_); refine be_ 2 #[.int .i64 a0_0, .int .i64 a0_1, .int .i64 a0_2] 27 ?_; intro gb101 hg w3 hbox hb; have n0_ := A_ (bs_ HB.1 hb); have n1_ := A_ (hbox); have n2_ := A_ (bS_ HB.out hg); have n3_ := A_ (bS_ HB.out hg); clear HB; have HB := n0_; have BK101 := n1_; have GW101 := n2_; have GE101 := n3_; clear n0_ n1_ n2_ n3_ hb hbox hg))
 go_loopg [5, 6] k (fun kq v5 v6 w' => ∃ (x5_1 : List Int) (x6_1 : Int), v6 = .int .i64 x6_1 ∧ Aside0 (impl_WaysFrom.l0 kq a1 x5_1 x6_1 a0_0 a0_1 a0_2 = some r) ∧ Aside0 (kq ≤ k) ∧ Aside0 (Kd.R (Kd.int .i64) 3 w' w.heap.size (fun _ => True) v5 x5_1) ∧ Aside0 (w'.heap[gb101]? = some (.cells #[.int .i64 a0_0, .int .i64 a0_1, .int .i64 a0_2] 27 (0, 0))) ∧ Aside0 (Below w.heap.size w w'))
 case atStart => exact ⟨(([] : List Int)), (0), (by rfl), H', ⟨Nat.le_refl _⟩, ⟨by exact Kd.R_nil _ _ _ _ _⟩, ⟨by exact BK101.out⟩, ⟨by repeat ((with_reducible exact HB.out))⟩⟩
 case round =>
  clear H'; try clear p2
  obtain ⟨x5_1, x6_1, rfl, HA, HK1, HO_5, BK101, HB⟩ := hrel
  cases gk with
  | zero => exact absurd HA.out (by simp [impl_WaysFrom.l0])
  | succ k1 =>
   have H := HA.out
   clear HA
   simp only [impl_WaysFrom.l0] at H
   by_cases c4 : x6_1 ≤ 3
   ·rw [if_pos c4] at H
    have c4b0 : decide (x6_1 ≤ 3) = true := decide_eq_true c4
    clear c4
    obtain ⟨t102, A50, H⟩ := oB_ H
    (try dsimp only at H); have A5 := A_ A50; clear A50
    by_cases c6 : t102 ≥ 0
    ·rw [if_pos c6] at H
     have c6b0 : decide (0 ≤ t102) = true := decide_eq_true c6
     clear c6
     replace H := iN_ H; obtain ⟨c7, H⟩ := H
     have LMc7 := A_ c7
     clear c7
     obtain ⟨y103, hy103⟩ : ∃ y_ : List Int, y_ = (x5_1 ++ [x6_1]) := ⟨_, rfl⟩
     replace H : (impl_WaysFrom.l0 k1 a1 y103 (wrap64 (x6_1 + 1)) a0_0 a0_1 a0_2) = some r := by (rw [hy103]; with_reducible exact H)
     have Ny103 := A_ hy103
     clear hy103
     have H' := A_ H
     clear H
     obtain ⟨hcz8_0, hcz8_1, hcz8_2⟩ := kk3_ BK101.1
     have hfz8_0 := bf_ BK101.out 0
     have hfz8_1 := bf_ BK101.out 1
     have hfz8_2 := bf_ BK101.out 2
     go_wp2_with (first | ((with_reducible refine gate_callee (f := 113) rfl ?_); refine gl_ 14 Try.func113 #[.agg #[.int .i64 a0_0, .int .i64 a0_1, .int .i64 a0_2], .int .i64 a1, .int .i64 x6_1] ?_; (with_reducible refine (impl_Step.calls k1 a0_0 a0_1 a0_2 a1 x6_1 t102 _ A5.out).mono ?_); rintro e w9 ⟨rfl, hb⟩; refine ⟨_, rfl, ?_⟩; have n0_ := A_ (Kd.R_below HO_5.out hb); have n1_ := A_ (blk_below BK101.out hb); have n2_ := A_ (bs_ HB.1 hb); clear HO_5 BK101 HB; have HO_5 := n0_; have BK101 := n1_; have HB := n2_; clear n0_ n1_ n2_; (try clear hb); (try clear hk)) | ((with_reducible refine gate_builtin (b := .append) (xs := #[.tmp 16, .tmp 18]) rfl ?_); at_builtin; refine Kd.R_append (Kd.int .i64) (w0 := w) w.heap.size rfl (.tmp 16) (.tmp 18) 39 3 (.int .i64 0) 8 rfl Try.underlying39 info3 rfl (by decide) (by omega) u5 x5_1 x6_1 [.int .i64 x6_1] (fun _ => True) (fun _ => False) rfl rfl ?aP (fun _ hk => hk.elim) ?aF ?aO ?aB ?aS ?aL ?_; (case aP => exact rfl); (case aB => exact HB.out); (case aF => exact (fun _ _ => trivial)); (case aO => exact HO_5.out); (case aS => exact (below_size HB.out)); (case aL => have := LMc7.out; omega); intro v104 w10 ho hb hg hat; rw [← Ny103.out] at ho; have n0_ := A_ (blk_grown (g := gb101) (o := .cells #[.int .i64 a0_0, .int .i64 a0_1, .int .i64 a0_2] 27 (0, 0)) BK101.out hg (Kd.R_ne HO_5.out BK101.out (by decide))); have n1_ := A_ (hb); have n2_ := A_ (ho); clear BK101 HB HO_5; have BK101 := n0_; have HB := n1_; have HO105 := n2_; clear n0_ n1_ n2_ ho hb hg hat))
     go_roundg k1
     case measure => have := HK1.out; omega
     case rel => exact ⟨(y103), (wrap64 (x6_1 + 1)), (by rfl), H', ⟨by have := HK1.out; omega⟩, ⟨by exact HO105.out⟩, ⟨by exact BK101.out⟩, ⟨by repeat ((with_reducible exact HB.out))⟩⟩
    ·rw [if_neg c6] at H
     have c6b0 : decide (0 ≤ t102) = false := decide_eq_false c6
     clear c6
     have H' := A_ H
     clear H
     obtain ⟨hcz11_0, hcz11_1, hcz11_2⟩ := kk3_ BK101.1
     have hfz11_0 := bf_ BK101.out 0
     have hfz11_1 := bf_ BK101.out 1
     have hfz11_2 := bf_ BK101.out 2
     go_wp2_with (((with_reducible refine gate_callee (f := 113) rfl ?_); refine gl_ 14 Try.func113 #[.agg #[.int .i64 a0_0, .int .i64 a0_1, .int .i64 a0_2], .int .i64 a1, .int .i64 x6_1] ?_; (with_reducible refine (impl_Step.calls k1 a0_0 a0_1 a0_2 a1 x6_1 t102 _ A5.out).mono ?_); rintro e w12 ⟨rfl, hb⟩; refine ⟨_, rfl, ?_⟩; have n0_ := A_ (Kd.R_below HO_5.out hb); have n1_ := A_ (blk_below BK101.out hb); have n2_ := A_ (bs_ HB.1 hb); clear HO_5 BK101 HB; have HO_5 := n0_; have BK101 := n1_; have HB := n2_; clear n0_ n1_ n2_; (try clear hb); (try clear hk)))
     go_roundg k1
     case measure => have := HK1.out; omega
     case rel => exact ⟨(x5_1), (wrap64 (x6_1 + 1)), (by rfl), H', ⟨by have := HK1.out; omega⟩, ⟨by exact HO_5.out⟩, ⟨by exact BK101.out⟩, ⟨by repeat ((with_reducible exact HB.out))⟩⟩
   ·rw [if_neg c4] at H
    have c4b0 : decide (x6_1 ≤ 3) = false := decide_eq_false c4
    clear c4
    obtain rfl := Option.some.inj H
    go_wp2
    go_ret
    exact ⟨_, by rfl, by exact HO_5.out, by repeat ((with_reducible exact HB.out))⟩

def bits_Mul64.f (a0 : Int) (a1 : Int) : Option (Int × Int) := some (IntKind.u64.wrap ((IntKind.u64.wrap ((IntKind.u64.wrap ((a0 / 4294967296) * (a1 / 4294967296))) + ((IntKind.u64.wrap ((IntKind.u64.wrap ((a0 / 4294967296) * (Go.bits .and .u64 a1 4294967295))) + ((IntKind.u64.wrap ((Go.bits .and .u64 a0 4294967295) * (Go.bits .and .u64 a1 4294967295))) / 4294967296))) / 4294967296))) + ((IntKind.u64.wrap ((Go.bits .and .u64 (IntKind.u64.wrap ((IntKind.u64.wrap ((a0 / 4294967296) * (Go.bits .and .u64 a1 4294967295))) + ((IntKind.u64.wrap ((Go.bits .and .u64 a0 4294967295) * (Go.bits .and .u64 a1 4294967295))) / 4294967296))) 4294967295) + (IntKind.u64.wrap ((Go.bits .and .u64 a0 4294967295) * (a1 / 4294967296))))) / 4294967296)), IntKind.u64.wrap (a0 * a1))
set_option maxHeartbeats 8000000 in
set_option maxRecDepth 100000 in
theorem bits_Mul64.calls (a0 : Int) (a1 : Int) (r1 : Int) (r2 : Int) (w : World) (h : bits_Mul64.f a0 a1 = some (r1, r2)) :
  Calls Try.prog 166 #[.int .u64 a0, .int .u64 a1] w fun e w' => e = .returned (.tuple #[.int .u64 r1, .int .u64 r2]) ∧ Drawn0 w w' := by
 have H : (some (IntKind.u64.wrap ((IntKind.u64.wrap ((IntKind.u64.wrap ((a0 / 4294967296) * (a1 / 4294967296))) + ((IntKind.u64.wrap ((IntKind.u64.wrap ((a0 / 4294967296) * (Go.bits .and .u64 a1 4294967295))) + ((IntKind.u64.wrap ((Go.bits .and .u64 a0 4294967295) * (Go.bits .and .u64 a1 4294967295))) / 4294967296))) / 4294967296))) + ((IntKind.u64.wrap ((Go.bits .and .u64 (IntKind.u64.wrap ((IntKind.u64.wrap ((a0 / 4294967296) * (Go.bits .and .u64 a1 4294967295))) + ((IntKind.u64.wrap ((Go.bits .and .u64 a0 4294967295) * (Go.bits .and .u64 a1 4294967295))) / 4294967296))) 4294967295) + (IntKind.u64.wrap ((Go.bits .and .u64 a0 4294967295) * (a1 / 4294967296))))) / 4294967296)), IntKind.u64.wrap (a0 * a1))) = some (r1, r2) := h
 clear h
 simp only [Option.some.injEq, Prod.mk.injEq] at H
 obtain ⟨rfl, rfl⟩ := H
 go_enter Try.func166, Try.ntmps166
 go_wp2
 go_ret2
 exact ⟨by rfl, by repeat (exact Drawn0.refl _)⟩

def bits_Mul.f (a0 : Int) (a1 : Int) : Option (Int × Int) := (bits_Mul64.f a0 a1).bind fun bt101 => (some (bt101.1, bt101.2))
set_option maxHeartbeats 8000000 in
set_option maxRecDepth 100000 in
theorem bits_Mul.calls (a0 : Int) (a1 : Int) (r1 : Int) (r2 : Int) (w : World) (h : bits_Mul.f a0 a1 = some (r1, r2)) :
  Calls Try.prog 163 #[.int .u64 a0, .int .u64 a1] w fun e w' => e = .returned (.tuple #[.int .u64 r1, .int .u64 r2]) ∧ Drawn0 w w' := by
 have H : ((bits_Mul64.f a0 a1).bind fun bt101 => (some (bt101.1, bt101.2))) = some (r1, r2) := h
 clear h
 obtain ⟨⟨t101, t102⟩, A30, H⟩ := oB_ H
 (try dsimp only at H); have A3 := A_ A30; clear A30
 simp only [Option.some.injEq, Prod.mk.injEq] at H
 obtain ⟨rfl, rfl⟩ := H
 go_enter Try.func163, Try.ntmps163
 go_wp2_with (first | ((with_reducible refine gate_callee (f := 166) rfl ?_); refine gl_ 25 Try.func166 #[.int .u64 a0, .int .u64 a1] ?_; (with_reducible refine (bits_Mul64.calls a0 a1 t101 t102 _ A3.out).mono ?_); rintro e w' ⟨rfl, ⟨nd, rfl⟩⟩; refine ⟨_, rfl, ?_⟩))
 go_ret2
 exact ⟨by first | rfl | (simp; done) | (simp [*]; done), by repeat (first | exact Drawn0.refl _ | apply Drawn0.step)⟩

def slices_Repeat_int_int.f (l0 : List Int) (a1 : Int) : Option (List Int) := if l0.length = 1 ∧ 1 ≤ a1 ∧ a1 ≤ 16 then some (List.replicate a1.toNat (rd l0 0)) else none
theorem mul_one16 : ∀ n : Nat, n < 17 → bits_Mul.f 1 (n : Int) = some (0, (n : Int)) := by decide +kernel
theorem mul_small {a : Int} (h0 : 1 ≤ a) (h1 : a ≤ 16) : bits_Mul.f 1 a = some (0, a) := by
 have := mul_one16 a.toNat (by omega)
 rwa [show ((a.toNat : Nat) : Int) = a by omega] at this
theorem copy_row {g n cap base : Nat} {ok : Nat → Prop} {W w' : World} {zs cs : List Int} {cur : List Value} {off : Nat} (HO : Kd.R (Kd.int .i64) 3 W base ok (.slice (some ⟨g, 0, none⟩) n cap) zs)
  (hcur : W.heap[g]? = some (.cells cur.toArray 3 (0, 0))) (hw : w'.heap[g]? = some (.cells (splice cur off (cs.map (Value.int .i64))).toArray 3 (0, 0))) (hfit : off + cs.length ≤ n) :
  Kd.R (Kd.int .i64) 3 w' base ok (.slice (some ⟨g, 0, none⟩) n cap) (zs.take off ++ cs ++ zs.drop (off + cs.length)) := by
 have hown := Kd.own_of_R HO
 have hn := (Kd.R_reads' HO).1
 obtain ⟨hl, h | ⟨g', cap', cur', he, hb, hh, hc1, hc2, hc3, hc4⟩⟩ := hown
 ·cases h.1
 ·injection he with e1 e2 e3
  injection e1 with e1
  injection e1 with e1
  subst e1 e3
  rw [hcur] at hh
  injection hh with hh
  injection hh with hh _ _
  subst hh
  simp only [Nat.mul_one] at hc3 hc4
  simp only [List.size_toArray] at hc3
  have hzl : (zs.take off ++ cs ++ zs.drop (off + cs.length)).length = zs.length := by simp; omega
  refine Kd.R_of_own ?_ HO.1
  refine ⟨by simp [encs], .inr ⟨g, cap, _, by rw [hzl, hn], hb, hw, by omega, hc2, ?_, ?_⟩⟩
  ·simp [splice]; omega
  ·rw [hzl, Nat.mul_one]
   have hcz : cur.take zs.length = zs.map (Value.int .i64) := hc4
   apply List.ext_getElem?
   intro i
   simp only [splice, encs, List.map_append, List.map_take, List.map_drop, ← hcz, List.getElem?_take, List.getElem?_append, List.length_take, List.length_map, List.length_drop, List.getElem?_drop, List.length_append]
   repeat' split
   all_goals first | rfl | omega | (congr 1; omega)
theorem wrap_sum {a b : Nat} (h : a + b < 100) : IntKind.i64.wrap ((a : Int) + (b : Int)) = ((a + b : Nat) : Int) := by rw [IntKind.wrap_i64]; omega
theorem row_block {g n cap base : Nat} {ok : Nat → Prop} {W : World} {zs : List Int} (HO : Kd.R (Kd.int .i64) 3 W base ok (.slice (some ⟨g, 0, none⟩) n cap) zs) :
  ∃ cur : List Value, W.heap[g]? = some (.cells cur.toArray 3 (0, 0)) ∧ n ≤ cur.length ∧ base ≤ g ∧ zs.length = n := by
 have hn := (Kd.R_reads' HO).1
 obtain ⟨hl, h | ⟨g', cap', cur', he, hb, hh, hc1, hc2, hc3, hc4⟩⟩ := Kd.own_of_R HO
 ·cases h.1
 ·injection he with e1 e2 e3
  injection e1 with e1
  injection e1 with e1
  subst e1 e3
  refine ⟨cur'.toList, by rw [Array.toArray_toList]; exact hh, ?_, hb, hn.symm⟩
  have : cur'.size = cap := by omega
  rw [Array.length_toList]
  omega
set_option maxHeartbeats 4000000 in
set_option maxRecDepth 100000 in
theorem slices_Repeat_int_int.calls (A0 : Option Addr) (c0 : Nat) (l0 : List Int) (a1 : Int) (r : List Int) (w : World) (hr0 : Kd.C (Kd.int .i64) w A0 l0.length l0) (hc0 : l0.length ≤ c0) (h : slices_Repeat_int_int.f l0 a1 = some r) :
  Calls Try.prog 157 #[.slice A0 l0.length c0, .int .i64 a1] w fun e w' => ∃ v0_ : Value, e = .returned (v0_) ∧ Kd.R (Kd.int .i64) 3 w' w.heap.size (fun _ => True) v0_ r ∧ Below w.heap.size w w' := by
 unfold slices_Repeat_int_int.f at h
 by_cases hc : l0.length = 1 ∧ 1 ≤ a1 ∧ a1 ≤ 16
 ·rw [if_pos hc] at h
  obtain rfl := Option.some.inj h
  obtain ⟨hl, h1, h16⟩ := hc
  obtain ⟨ad, e0, hx⟩ := Kd.at_int hr0 0 (by omega) (by omega)
  subst e0
  simp only [Int.toNat_zero] at hx
  obtain ⟨y, hy⟩ : ∃ y, rd l0 0 = y := ⟨_, rfl⟩
  rw [hy] at hx
  have HY := A_ hy
  have HX := A_ hx
  have HMUL := A_ (mul_small h1 h16)
  rw [hl]
  obtain ⟨n, rfl⟩ := Int.eq_ofNat_of_zero_le (show 0 ≤ a1 by omega)
  have hn1 : 1 ≤ n := by omega
  have hn16 : n ≤ 16 := by omega
  clear h hy hr0 hx hl hc0
  simp only [Int.toNat_natCast]
  go_enter Try.func157, Try.ntmps157
  go_wp2_with (first | ((with_reducible refine gate_callee (f := 163) rfl ?_); refine gl_ 18 Try.func163 #[.int .u64 1, .int .u64 n] ?_; refine (bits_Mul.calls 1 n 0 n _ HMUL.out).mono ?_; rintro e w1 ⟨rfl, hb⟩; refine ⟨_, rfl, ?_⟩; have HB := A_ hb.below; clear hb) | ((with_reducible refine gate_dst (N := 30) rfl ?_); refine Kd.R_make (w0 := w) (Kd.int .i64) w.heap.size 3 rfl (N := 30) rfl 39 _ _ rfl (n : Int) rfl rfl Try.underlying39 (.int .i64 0) 8 info3 rfl (by decide) (by omega) 0 (ok := fun _ => True) (okp := fun _ => True) rfl (fun _ hk => hk) trivial (by omega) (by omega) HB.out HB.out.size ?_; intro v2 w2 ho2 hb2 _ _; simp only [Int.toNat_natCast] at ho2; obtain ⟨g, cap, hv2, _, _, _⟩ := Kd.R_form ho2 (by simp; omega); rw [List.length_replicate] at hv2; subst hv2; have HO2 := A_ ho2; have HB2 := A_ hb2; obtain ⟨cur, hcur, hcl, hgb, hzl⟩ := row_block ho2; have HC := A_ hcur; clear ho2 hb2 hcur HB) | ((with_reducible refine gate_dst (N := 33) rfl ?_); refine wpList_copy_splice rfl (.tmp 31) (.tmp 32) 39 39 rfl 3 Try.underlying39 (by kernel_rfl) (some ⟨g, 0, none⟩) (some ad) n cap 1 c0 rfl rfl g 0 cur 3 HC.out [.int .i64 y] ((Nat.min_eq_left hn1).symm) (fun _ => ⟨rfl, ad, rfl, fun j v hj => by cases j with | zero => (injection hj with hj; rw [← hj]; exact (HB2.out.cell (World.block_lt_of_cell? w _ HX.out)).trans HX.out) | succ j => simp at hj⟩) (by simp; omega) (by simp [Value.oneCell']) w.heap.size w HB2.out hgb ?_; intro w3 HG3 hB3; have HR3 := A_ (copy_row (cs := [y]) HO2.out HC.out HG3.out (by simp; omega)); have HB3 := A_ hB3; clear hB3 HG3 HO2 HB2 HC))
  have hz : (List.replicate n (0 : Int)).take 0 ++ [y] ++ (List.replicate n (0 : Int)).drop (0 + [y].length) = y :: List.replicate (n - 1) 0 := by simp
  rw [hz] at HR3
  clear hz
  go_loopg [8] n (fun kq s8 wr => ∃ (j : Nat) (zs : List Int), s8 = .int .i64 j ∧ 1 ≤ j ∧ j ≤ n ∧ n - j ≤ kq ∧ Aside0 (Kd.R (Kd.int .i64) 3 wr w.heap.size (fun _ => True) (.slice (some ⟨g, 0, none⟩) n cap) zs) ∧ Aside0 (zs.take j = List.replicate j y) ∧ Aside0 (Below w.heap.size w wr))
  case atStart => exact ⟨1, _, rfl, by omega, by omega, by omega, HR3, ⟨by simp⟩, HB3⟩
  case round =>
   obtain ⟨j, zs, rfl, hj1, hjn, hkq, HZ, HT, HB⟩ := hrel
   clear HR3 HB3
   obtain ⟨cur', hcur', hcl', hgb', hzl'⟩ := row_block HZ.out
   by_cases hlt : j < n
   ·have hltz : (j : Int) < (n : Int) := by omega
    have HC' := A_ hcur'
    clear hcur'
    obtain ⟨m, hm⟩ : ∃ m, m = min j (n - j) := ⟨_, rfl⟩
    have hm1 : 1 ≤ m := by omega
    have hm2 : j + m ≤ n := by omega
    have hm3 : m ≤ j := by omega
    have HM := A_ hm
    clear hm
    obtain ⟨ix, hix, _, _, _⟩ := info_parts info3
    have hcap := (Kd.R_reads' HZ.out).2.1
    have hcut := cut_to (P := Try.prog) 39 3 .i64 Try.underlying39 hix (some ⟨g, 0, none⟩) n cap (j : Int) (by omega) (by omega) hcap
    simp only [Int.toNat_natCast] at hcut
    have hcell : Aside0 (∀ t v, ((zs.take (m)).map (Value.int .i64))[t]? = some v → wr.cell? ((⟨g, 0, none⟩ : Addr).add t) = some v) := ⟨fun t v hv => by
     rw [List.getElem?_map, Option.map_eq_some_iff] at hv
     obtain ⟨u, hu, rfl⟩ := hv
     rw [List.getElem?_take] at hu
     split at hu
     ·have htl : t < zs.length := by
       rcases Nat.lt_or_ge t zs.length with h' | h'
       ·exact h'
       ·rw [List.getElem?_eq_none h'] at hu; cases hu
      have h_ := (Kd.R_celln 0 HZ.out (t : Int) (by omega) (by omega)).1
      simp only [Int.toNat_natCast] at h_
      rw [add_plain, h_]
      have : rdOf 0 zs (t : Int) = u := by simp [rdOf, List.getD_eq_getElem?_getD, hu]
      rw [this]
     ·cases hu⟩
    have HL := A_ hzl'
    have HCL := A_ hcl'
    clear hix hzl' hcl'
    have hlen : Aside0 (((zs.take m).map (Value.int .i64)).length = m) := ⟨by rw [List.length_map, List.length_take, HL.out]; omega⟩
    go_wp2_with (fail)
    go_region_law (refine step_copy_splice rfl (.tmp 41) (.tmp 44) 39 39 rfl 3 Try.underlying39 (by kernel_rfl) (some ⟨g, j, none⟩) (some ⟨g, 0, none⟩) (n - j) (cap - j) j cap (by simp [Act.eval, Act.put] <;> omega) (by simp [Act.eval, Act.put] <;> omega) g j cur' 3 HC'.out ((zs.take (m)).map (Value.int .i64)) (by rw [List.length_map, List.length_take, HL.out]; show _ = min j (n - j); have := HM.out; omega) (fun _ => ⟨rfl, ⟨g, 0, none⟩, rfl, hcell.out⟩) (by rw [List.length_map, List.length_take, HL.out]; have := HCL.out; omega) (fun v hv => by obtain ⟨u, _, rfl⟩ := List.mem_map.1 hv; rfl) w.heap.size w HB.out.drew hgb' ?_; intro w5 HG5 hB5; have HR5 := A_ (copy_row (cs := zs.take (m)) HZ.out HC'.out HG5.out (by rw [List.length_take, HL.out]; omega)); have HB5 := A_ hB5; rw [hlen.out]; clear hB5 HG5)
    go_wp2
    go_roundg (n - (j + m))
    case measure => omega
    case rel => exact ⟨j + m, _, by rw [wrap_sum (by omega)], by omega, by omega, by omega, HR5, ⟨by
     have h_ := HT.out
     have e1 : zs.take m = List.replicate m y := by
      have := congrArg (List.take m) h_
      rw [List.take_take, Nat.min_eq_left hm3, List.take_replicate, Nat.min_eq_left hm3] at this
      exact this
     rw [e1, h_, List.replicate_append_replicate, List.take_append_of_le_length (by simp), List.take_of_length_le (by simp)]⟩, HB5⟩
   ·obtain rfl : j = n := by omega
    have hltz : ¬ (j : Int) < (j : Int) := by omega
    clear hcur'
    go_wp2
    go_ret
    refine ⟨_, rfl, ?_, HB.out⟩
    have h_ := HT.out
    rw [List.take_of_length_le (by omega)] at h_
    rw [HY.out, ← h_]
    exact HZ.out
 ·rw [if_neg hc] at h
  exact absurd h (by simp)

end Go.Proofs.Ytbeajmcjfhbcjaa.P
namespace Go.Proofs.Ytbeajmcjfhbcjaa.P
open Go.RowKit Go.Proofs.YtbeajmcjfhbcjaaW.PrintWords Go.Proofs.YtbeajmcjfhbcjaaW.PrintLast Go.Proofs.YtbeajmcjfhbcjaaW.PrintMore
attribute [local go_sem] max2_int min2_int max_two min_two max_three min_three max_four min_four   -- for this text's walks alone
set_option linter.unusedVariables false
set_option linter.unusedSimpArgs false

mutual
def impl_distances.l0 : Nat → List Int → List Int → Int → Int → Int → Int → Option (List Int)
 | 0, _, _, _, _, _, _ => none
 | k + 1, x5, x6, x7, x102000, x102001, x102002 => if x7 < (x6.length : Int) then (if 0 ≤ x7 then ((impl_WaysFrom.f k x102000 x102001 x102002 (rd x6 x7)).bind fun t114 => (impl_distances.l1 k x5 x6 x7 t114 (t114.length : Int) 0 x102000 x102001 x102002)) else (none)) else (some x5)
def impl_distances.l1 : Nat → List Int → List Int → Int → List Int → Int → Int → Int → Int → Int → Option (List Int)
 | 0, _, _, _, _, _, _, _, _, _ => none
 | k + 1, x5, x6, x7, x32, x33, x34, x102000, x102001, x102002 => if x34 < x33 then (if 0 ≤ x34 then (if x34 < (x32.length : Int) then (if 0 ≤ x7 then (if x7 < (x6.length : Int) then ((impl_Step.f k x102000 x102001 x102002 (rd x6 x7) (rd x32 x34)).bind fun t119 => (if 0 ≤ t119 then (if t119 < (x5.length : Int) then (if (rd x5 t119) < 0 then (if 0 ≤ (rd x6 x7) then (if (rd x6 x7) < (x5.length : Int) then (if x6.length < 17592186044416 then (impl_distances.l1 k (x5.set (t119 : Int).toNat (wrap64 ((rd x5 (rd x6 x7)) + 1))) (x6 ++ [t119]) x7 x32 x33 (wrap64 (x34 + 1)) x102000 x102001 x102002) else (none)) else (none)) else (none)) else (impl_distances.l1 k x5 x6 x7 x32 x33 (wrap64 (x34 + 1)) x102000 x102001 x102002)) else (none)) else (none))) else (none)) else (none)) else (none)) else (none)) else (impl_distances.l0 k x5 x6 (wrap64 (x7 + 1)) x102000 x102001 x102002)
end
def impl_distances.f (k : Nat) (a0_0 : Int) (a0_1 : Int) (a0_2 : Int) (a1 : Int) : Option (List Int) := (impl_CountCells.f a0_0 a0_1).bind fun t105 => ((slices_Repeat_int_int.f (([(-1)] : List Int)) t105).bind fun t106 => (if 0 ≤ a1 then (if a1 < (t106.length : Int) then (impl_distances.l0 k (t106.set (a1 : Int).toNat 0) (([a1] : List Int)) 0 a0_0 a0_1 a0_2) else (none)) else (none)))
def impl_distances.T7 : Bool × List (List Nat × List Nat) := (true, [([], []), ([], []), ([], []), ([1, 2], [1, 2]), ([3], [3]), ([0, 4], [0, 4]), ([5], [5]), ([], [])])
def impl_distances.B7 : List Nat := [0, 0, 0, 6, 14, 31, 63, 0]
theorem impl_distances.tab7 : rtab .any (opsOf Try.f129 7) = impl_distances.T7 := by kernel_rfl
theorem impl_distances.bits7 : waitsOk impl_distances.T7.2 impl_distances.B7 = true := by kernel_rfl
def impl_distances.T10 : Bool × List (List Nat × List Nat) := (true, [([], []), ([], []), ([], []), ([1, 2], [1, 2]), ([3], [3]), ([], []), ([0, 4, 5], [0, 4, 5]), ([6, 6, 0, 1, 2, 3, 4, 5, 6], [6])])
def impl_distances.B10 : List Nat := [0, 0, 0, 6, 14, 0, 63, 127]
theorem impl_distances.tab10 : rtab .any (opsOf Try.f129 10) = impl_distances.T10 := by kernel_rfl
theorem impl_distances.bits10 : waitsOk impl_distances.T10.2 impl_distances.B10 = true := by kernel_rfl
set_option maxHeartbeats 8000000 in
set_option maxRecDepth 100000 in
theorem impl_distances.calls (k : Nat) (a0_0 : Int) (a0_1 : Int) (a0_2 : Int) (a1 : Int) (r : List Int) (w : World) (h : impl_distances.f k a0_0 a0_1 a0_2 a1 = some r) :
  Calls Try.prog 129 #[.agg #[.int .i64 a0_0, .int .i64 a0_1, .int .i64 a0_2], .int .i64 a1] w fun e w' => ∃ v0_ : Value, e = .returned (v0_) ∧ Kd.R (Kd.int .i64) 3 w' w.heap.size (fun _ => True) v0_ r ∧ Below w.heap.size w w' := by
 have hu27 := Try.underlying27
 have hu25 := Try.underlying25
 have HB := A_ (Below.refl w.heap.size w)
 have H : ((impl_CountCells.f a0_0 a0_1).bind fun t105 => ((slices_Repeat_int_int.f (([(-1)] : List Int)) t105).bind fun t106 => (if 0 ≤ a1 then (if a1 < (t106.length : Int) then (impl_distances.l0 k (t106.set (a1 : Int).toNat 0) (([a1] : List Int)) 0 a0_0 a0_1 a0_2) else (none)) else (none)))) = some r := h
 clear h
 obtain ⟨y102, hy102⟩ : ∃ y_ : List Int, y_ = (([(-1)] : List Int)) := ⟨_, rfl⟩
 replace H : ((impl_CountCells.f a0_0 a0_1).bind fun t105 => ((slices_Repeat_int_int.f y102 t105).bind fun t106 => (if 0 ≤ a1 then (if a1 < (t106.length : Int) then (impl_distances.l0 k (t106.set (a1 : Int).toNat 0) (([a1] : List Int)) 0 a0_0 a0_1 a0_2) else (none)) else (none)))) = some r := by (rw [hy102]; with_reducible exact H)
 have Ny102 := A_ hy102
 clear hy102
 obtain ⟨t105, A30, H⟩ := oB_ H
 (try dsimp only at H); have A3 := A_ A30; clear A30
 obtain ⟨t106, A40, H⟩ := oB_ H
 (try dsimp only at H); have A4 := A_ A40; clear A40
 replace H := iN_ H; obtain ⟨c5, H⟩ := H
 have c5b0 : decide (0 ≤ a1) = true := decide_eq_true c5
 clear c5
 replace H := iN_ H; obtain ⟨c6, H⟩ := H
 have c6b0 : decide (a1 < (t106.length : Int)) = true := decide_eq_true c6
 clear c6
 obtain ⟨y109, hy109⟩ : ∃ y_ : List Int, y_ = (t106.set (a1 : Int).toNat 0) := ⟨_, rfl⟩
 replace H : (impl_distances.l0 k y109 (([a1] : List Int)) 0 a0_0 a0_1 a0_2) = some r := by (rw [hy109]; with_reducible exact H)
 have Ny109 := A_ hy109
 clear hy109
 obtain ⟨y110, hy110⟩ : ∃ y_ : List Int, y_ = (([a1] : List Int)) := ⟨_, rfl⟩
 replace H : (impl_distances.l0 k y109 y110 0 a0_0 a0_1 a0_2) = some r := by (rw [hy110]; with_reducible exact H)
 have Ny110 := A_ hy110
 clear hy110
 have H' := A_ H
 clear H
 go_enter Try.func129, Try.ntmps129
 go_wp2_with (first | ((with_reducible refine gate_dst (N := 2) rfl ?_); refine be_ 2 #[.int .i64 a0_0, .int .i64 a0_1, .int .i64 a0_2] 27 ?_; intro gb101 hg w8 hbox hb; have n0_ := A_ (bs_ HB.1 hb); have n1_ := A_ (hbox); have n2_ := A_ (bS_ HB.out hg); have n3_ := A_ (bS_ HB.out hg); clear HB; have HB := n0_; have BK101 := n1_; have GW101 := n2_; have GE101 := n3_; clear n0_ n1_ n2_ n3_ hb hbox hg) | ((with_reducible refine gate_dst (N := 11) rfl ?_); refine Kd.R_lit (Kd.int .i64) _ 3 ?hg (N := 11) ?hd (xs := ([(-1)] : List Int)) (inner := [.int .i64 (-1)]) (ok := fun _ => True) (okp := fun _ => True) ?hr ?hp (fun _ hk => hk) trivial (Below.refl _ _) (Nat.le_refl _) (by simp) ?_; (case hd => rfl); (case hg => rfl); (case hr => (go_simp; done)); (case hp => exact (Reps.one (show Kd.M (Kd.int .i64) _ _ _ (-1) [.int .i64 (-1)] from rfl) (Reps.none _ _))); intro v103 w9 ho10 hb hg_ hnew_; clear hg_ hnew_; (rw [← Ny102.out] at ho10); have n0_ := A_ (Kd.R_lower ho10 (below_size HB.out)); have n1_ := A_ (blk_below BK101.out hb); have n2_ := A_ (bs_ HB.1 hb); clear BK101 HB; have HO104 := n0_; have BK101 := n1_; have HB := n2_; clear n0_ n1_ n2_ hb ho10; obtain ⟨hcz11_0, hcz11_1, hcz11_2⟩ := kk3_ BK101.1; have hfz11_0 := bf_ BK101.out 0; have hfz11_1 := bf_ BK101.out 1; have hfz11_2 := bf_ BK101.out 2) | ((with_reducible refine gate_callee (f := 68) rfl ?_); refine gl_ 14 Try.func68 #[.agg #[.int .i64 a0_0, .int .i64 a0_1]] ?_; (with_reducible refine (impl_CountCells.calls a0_0 a0_1 t105 _ A3.out).mono ?_); rintro e w12 ⟨rfl, hb⟩; refine ⟨_, rfl, ?_⟩; have n0_ := A_ (Kd.R_below HO104.out hb); have n1_ := A_ (blk_below BK101.out hb); have n2_ := A_ (bs_ HB.1 hb); clear HO104 BK101 HB; have HO104 := n0_; have BK101 := n1_; have HB := n2_; clear n0_ n1_ n2_; (try clear hb); (try clear hk); obtain ⟨Ao13, co13, eo13⟩ := Kd.R_slice HO104.out; subst eo13) | ((with_reducible refine gate_callee (f := 157) rfl ?_); refine gl_ 15 Try.func157 #[.slice Ao13 y102.length co13, .int .i64 t105] ?_; (with_reducible refine (slices_Repeat_int_int.calls _ _ y102 t105 t106 _ ?side1 ?side2 A4.out).mono ?_); (case side1 => repeat (exact (Kd.R_reads' HO104.out).2.2)); (case side2 => exact (Kd.R_reads' HO104.out).2.1); rintro e w14 ⟨v107, rfl, ho0, hb⟩; refine ⟨_, rfl, ?_⟩; have n0_ := A_ (Kd.R_elder' HO104.out (Kd.R_base ho0) hb); have n1_ := A_ (Kd.R_lower (Kd.R_new' ho0 (Kd.R_lt HO104.out)) (below_size HB.out)); have n2_ := A_ (blk_below BK101.out hb); have n3_ := A_ (bs_ HB.1 hb); clear HO104 BK101 HB; have HO104 := n0_; have HO108 := n1_; have BK101 := n2_; have HB := n3_; clear n0_ n1_ n2_ n3_; (try clear hb); (try clear hk); (try clear ho0); have p7 : 0 ≤ (a1 : Int) := oD_; have q7 : (a1 : Int) < ((t106.length : Int) : Int) := oD_; obtain ⟨go7, co7, eo7, gb7, gl7, cl7, HG7⟩ := Kd.R_form HO108.out (by omega); (cases eo7); have GB7 := A_ gb7; have GG7 := A_ HG7; clear gb7 gl7 HG7; obtain ⟨hx7_0, hf7_0⟩ := Kd.R_celln 0 HO108.out (a1 : Int) p7 q7; replace p7 := eq_true p7; replace q7 := eq_true q7; have n_ := A_ (Kd.R_mono (ok' := (fun k_ => some k_ ≠ (.slice Ao13 y102.length co13 : Value).ownBlock)) HO108.out (fun k_ hk => hk.2)); clear HO108; have HO108 := n_; clear n_; obtain ⟨hy15_, hz15_⟩ := Kd.R_celln 0 HO108.out (a1 : Int) (oD_) (oD_); have HP15 := Kd.R_putg HO108.out (a1 : Int) 0) | ((with_reducible refine gate_store (t := 3) (p := 18) rfl ?_); refine store_event (t := 3) (p := 18) (v := ?vo_w16) (w1 := (w14.setCell ⟨go7, (a1 : Int).toNat, none⟩ (.int .i64 0))) ?hg ?ho ?hn ?hr ?_; (case ho => rfl); (case hg => rfl); (case hn => rfl); (case hr => (go_simp; done)); intro w16 hw; have hg : w14.grownBy w16 (some go7) := (by rw [hw]; exact HP15.2); have hp_ : Kd.R (Kd.int .i64) 3 w16 w.heap.size (fun k_ => some k_ ≠ (.slice Ao13 y102.length co13 : Value).ownBlock) (.slice (some ⟨go7, 0, none⟩) t106.length co7) y109 := (by rw [hw, Ny109.out]; exact HP15.1); clear HP15; have n0_ := A_ (blk_grown (g := gb101) (o := .cells #[.int .i64 a0_0, .int .i64 a0_1, .int .i64 a0_2] 27 (0, 0)) BK101.out hg (Kd.R_ne HO108.out BK101.out (by decide))); have n1_ := A_ (Kd.R_after (v := (.slice (some ⟨go7, 0, none⟩) t106.length co7)) (v1 := (.slice (some ⟨go7, 0, none⟩) t106.length co7)) (ok := (fun _ => True)) HO104.out hg (.inl rfl)); have n2_ := A_ (hp_); have n3_ := A_ ((by rw [hw]; exact below_set (HB.out) GB7.out : Below w.heap.size w w16)); clear BK101 HO104 HO108 HB; have BK101 := n0_; have HO104 := n1_; have HO108 := n2_; have HB := n3_; clear n0_ n1_ n2_ n3_ hg hw hp_) | ((with_reducible refine gate_dst (N := 20) rfl ?_); refine Kd.R_lit (Kd.int .i64) _ 3 ?hg (N := 20) ?hd (xs := ([a1] : List Int)) (inner := [.int .i64 a1]) (ok := fun _ => True) (okp := fun _ => True) ?hr ?hp (fun _ hk => hk) trivial (Below.refl _ _) (Nat.le_refl _) (by simp) ?_; (case hd => rfl); (case hg => rfl); (case hr => (go_simp; done)); (case hp => exact (Reps.one (show Kd.M (Kd.int .i64) _ _ _ a1 [.int .i64 a1] from rfl) (Reps.none _ _))); intro v111 w17 ho18 hb hg_ hnew_; clear hg_ hnew_; (rw [← Ny110.out] at ho18); have n0_ := A_ (Kd.R_elder' HO104.out (Kd.R_base ho18) hb); have n1_ := A_ (Kd.R_elder' HO108.out (Kd.R_base ho18) hb); have n2_ := A_ (Kd.R_lower (Kd.R_new' (Kd.R_new' ho18 (Kd.R_lt HO104.out)) (Kd.R_lt HO108.out)) (below_size HB.out)); have n3_ := A_ (blk_below BK101.out hb); have n4_ := A_ (bs_ HB.1 hb); clear HO104 HO108 BK101 HB; have HO104 := n0_; have HO108 := n1_; have HO112 := n2_; have BK101 := n3_; have HB := n4_; clear n0_ n1_ n2_ n3_ n4_ hb ho18))
 go_loopg [6, 7] k (fun kq v6 v7 w' => ∃ (x5_1 : List Int) (x6_1 : List Int) (x7_1 : Int), v7 = .int .i64 x7_1 ∧ Aside0 (impl_distances.l0 kq x5_1 x6_1 x7_1 a0_0 a0_1 a0_2 = some r) ∧ Aside0 (kq ≤ k) ∧ Aside0 (Kd.R (Kd.int .i64) 3 w' w.heap.size (fun k_ => some k_ ≠ (v6 : Value).ownBlock) (.slice (some ⟨go7, 0, none⟩) t106.length co7) x5_1) ∧ Aside0 (Kd.R (Kd.int .i64) 3 w' w.heap.size (fun k_ => some k_ ≠ ((.slice (some ⟨go7, 0, none⟩) t106.length co7) : Value).ownBlock) v6 x6_1) ∧ Aside0 (w'.heap[gb101]? = some (.cells #[.int .i64 a0_0, .int .i64 a0_1, .int .i64 a0_2] 27 (0, 0))) ∧ Aside0 (Below w.heap.size w w'))
 case atStart => exact ⟨(y109), (y110), (0), (by rfl), H', ⟨Nat.le_refl _⟩, ⟨by exact Kd.R_mono HO108.out (fun _ hk => hk.2)⟩, ⟨by exact Kd.R_mono HO112.out (fun _ hk => hk.2)⟩, ⟨by exact BK101.out⟩, ⟨by repeat ((with_reducible exact HB.out))⟩⟩
 case round =>
  clear H'; try clear c1; try clear p2; try clear c5; try clear c5b0; try clear c6; try clear c6b0; try clear p7; try clear q7; try clear hx7; try clear hf7; try clear c12; try clear c15; try clear hcz11_0; try clear hcz11_1; try clear hcz11_2; try clear hfz11_0; try clear hfz11_1; try clear hfz11_2; try clear hx7_0; try clear p7; try clear q7
  obtain ⟨x5_1, x6_1, x7_1, rfl, HA, HK1, HO_5, HO_6, BK101, HB⟩ := hrel
  have hl5_1 := (Kd.R_reads' HO_5.out).1
  rw [hl5_1] at HO_5
  (try simp only [hl5_1])
  (try simp only [hl5_1] at BK101)
  (try simp only [hl5_1] at HO_6)
  cases gk with
  | zero => exact absurd HA.out (by simp [impl_distances.l0])
  | succ k1 =>
   have H := HA.out
   clear HA
   simp only [impl_distances.l0] at H
   by_cases c19 : x7_1 < (x6_1.length : Int)
   ·rw [if_pos c19] at H
    have c19b0 : decide (x7_1 < (x6_1.length : Int)) = true := decide_eq_true c19
    clear c19
    replace H := iN_ H; obtain ⟨c20, H⟩ := H
    have c20b0 : decide (0 ≤ x7_1) = true := decide_eq_true c20
    clear c20
    obtain ⟨t114, A210, H⟩ := oB_ H
    (try dsimp only at H); have A21 := A_ A210; clear A210
    have H' := A_ H
    clear H
    obtain ⟨Ao22, co22, eo22⟩ := Kd.R_slice HO_6.out
    subst eo22
    try go_wp2
    have n0_ := A_ (Kd.R_drew HO_5.out)
    have n1_ := A_ (Kd.R_drew HO_6.out)
    have n2_ := A_ (blk_drew BK101.out); have n3_ := A_ (below_drew1 HB.out); clear HO_5 HO_6 BK101 HB; have HO_5 := n0_; have HO_6 := n1_; have BK101 := n2_; have HB := n3_; clear n0_ n1_ n2_ n3_
    have p113 : 0 ≤ (x7_1 : Int) := oD_
    have q113 : x7_1 < (x6_1.length : Int) := oD_
    obtain ⟨ad113, e113, hx113_0⟩ := Kd.at_int (Kd.R_reads' HO_6.out).2.2 x7_1 p113 q113
    cases e113
    replace p113 := eq_true p113; replace q113 := eq_true q113
    refine start_ (n := 8) (S := fun w' => w'.cell? ⟨gb101, 0, none⟩ = some (.int .i64 a0_0) ∧ w'.cell? ⟨gb101, 1, none⟩ = some (.int .i64 a0_1) ∧ w'.cell? ⟨gb101, 2, none⟩ = some (.int .i64 a0_2) ∧ w'.cell? (ad113.add (x7_1).toNat) = some (.int .i64 (rd x6_1 x7_1))) (ds := []) #[false, false, false, false, false, false, false, false] (by kernel_rfl) rfl rfl ⟨(blk_cell BK101.out 0).trans rfl, (blk_cell BK101.out 1).trans rfl, (blk_cell BK101.out 2).trans rfl, hx113_0⟩ (fun hHeld => ?_); refine with_tabW impl_distances.tab7 impl_distances.bits7 (fun HT_ HW_ => ?_)
    generalize wr.drew = w23 at HO_5 HO_6 BK101 HB hx113_0 hHeld ⊢
    refine pv_ 1 28 HT_ ?_; refine pv_ 2 29 HT_ ?_; refine pv_ 3 30 HT_ ?_; refine pv_ 7 34 HT_ ?_; refine tv_ 0 27 rfl HT_ HW_ hHeld (by rintro w' ⟨s0, s1, s2, s3⟩; go_simp; with_reducible rfl) ?_
    refine tv_ 4 31 rfl HT_ HW_ hHeld (by rintro w' ⟨s0, s1, s2, s3⟩; go_simp; with_reducible rfl) ?_
    refine on_ 5 (some 32) rfl rfl HT_ (by kernel_rfl) (by decide) (fun K hK => ?_)
    refine gs_ Try.func52 #[.agg #[.int .i64 a0_0, .int .i64 a0_1, .int .i64 a0_2], .int .i64 (rd x6_1 x7_1)] ?_
    with_reducible refine (impl_WaysFrom.calls k1 a0_0 a0_1 a0_2 (rd x6_1 x7_1) t114 _ A21.out).mono ?_
    rintro e w24 ⟨v115, rfl, ho0, hb⟩
    have HS3_ := (hb.cell (World.block_lt_of_cell? _ _ (hHeld.2.2.2))).trans (hHeld.2.2.2)
    refine ⟨_, rfl, ?_⟩
    have n0_ := A_ (Kd.R_elder' HO_5.out (Kd.R_base ho0) hb)
    have n1_ := A_ (Kd.R_elder' HO_6.out (Kd.R_base ho0) hb)
    have n2_ := A_ (Kd.R_lower (Kd.R_new' (Kd.R_new' ho0 (Kd.R_lt HO_5.out)) (Kd.R_lt HO_6.out)) (below_size HB.out))
    have n3_ := A_ (blk_below BK101.out hb)
    have n4_ := A_ (bs_ HB.1 hb)
    clear HO_5 HO_6 BK101 HB; have HO_5 := n0_; have HO_6 := n1_; have HO116 := n2_; have BK101 := n3_; have HB := n4_; clear n0_ n1_ n2_ n3_ n4_; (try clear hb); (try clear hk); (try clear ho0)
    obtain ⟨Ao25, co25, eo25⟩ := Kd.R_slice HO116.out
    (subst eo25)
    refine hK.out _ _ ⟨(blk_cell BK101.out 0).trans rfl, (blk_cell BK101.out 1).trans rfl, (blk_cell BK101.out 2).trans rfl, HS3_⟩ (fun hHeld => ?_)
    clear hK K
    refine norm_ (a' := ?_) ?_ ?_; rotate_left; (show Act.put _ (some 32) _ = _; simp only [P6_]; rfl)
    refine pv_ 6 33 HT_ ?_
    refine done_ (done_of HT_.out (by kernel_rfl)) ?_
    try go_wp2
    go_loopg [6, 34] k1 (fun kq v6 v34 w' => ∃ (x5_2 : List Int) (x6_2 : List Int) (x34_2 : Int), v34 = .int .i64 x34_2 ∧ Aside0 (impl_distances.l1 kq x5_2 x6_2 x7_1 t114 (t114.length : Int) x34_2 a0_0 a0_1 a0_2 = some r) ∧ Aside0 (kq ≤ k1) ∧ Aside0 (Kd.R (Kd.int .i64) 3 w' w.heap.size (fun k_ => some k_ ≠ (v6 : Value).ownBlock ∧ some k_ ≠ ((.slice Ao25 t114.length co25) : Value).ownBlock) (.slice (some ⟨go7, 0, none⟩) x5_1.length co7) x5_2) ∧ Aside0 (Kd.R (Kd.int .i64) 3 w' w.heap.size (fun k_ => some k_ ≠ ((.slice (some ⟨go7, 0, none⟩) x5_1.length co7) : Value).ownBlock ∧ some k_ ≠ ((.slice Ao25 t114.length co25) : Value).ownBlock) v6 x6_2) ∧ Aside0 (Kd.R (Kd.int .i64) 3 w' w.heap.size (fun k_ => some k_ ≠ ((.slice (some ⟨go7, 0, none⟩) x5_1.length co7) : Value).ownBlock ∧ some k_ ≠ (v6 : Value).ownBlock) (.slice Ao25 t114.length co25) t114) ∧ Aside0 (w'.heap[gb101]? = some (.cells #[.int .i64 a0_0, .int .i64 a0_1, .int .i64 a0_2] 27 (0, 0))) ∧ Aside0 (Below w.heap.size w w'))
    case atStart => exact ⟨(x5_1), (x6_1), (0), (by rfl), H', ⟨Nat.le_refl _⟩, ⟨by (try simp only [hl5_1]); exact HO_5.out⟩, ⟨by (try simp only [hl5_1]); exact HO_6.out⟩, ⟨by (try simp only [hl5_1]); exact Kd.R_mono HO116.out (fun _ hk => ⟨hk.1.2, hk.2⟩)⟩, ⟨by (try simp only [hl5_1]); exact BK101.out⟩, ⟨by repeat ((with_reducible exact HB.out))⟩⟩
    case round =>
     clear H'; try clear c1; try clear p1; try clear q1; try clear hx1; try clear c2; try clear p2; try clear c5; try clear c5b0; try clear c6; try clear c6b0; try clear p7; try clear q7; try clear hx7; try clear hf7; try clear p11; try clear q11; try clear hx11; try clear c12; try clear c15; try clear c19; try clear c19b0; try clear c20; try clear c20b0; try clear hcz11_0; try clear hcz11_1; try clear hcz11_2; try clear hfz11_0; try clear hfz11_1; try clear hfz11_2; try clear hx113_0; try clear hx7_0; try clear p113; try clear p2; try clear p7; try clear q113; try clear q7
     obtain ⟨x5_2, x6_2, x34_2, rfl, HA, HK2, HO_5, HO_6, HO_32, BK101, HB⟩ := hrel
     have hl5_2 := (Kd.R_reads' HO_5.out).1
     rw [hl5_2] at HO_5
     (try simp only [hl5_2])
     (try simp only [hl5_2] at BK101)
     (try simp only [hl5_2] at HO_6)
     (try simp only [hl5_2] at HO_32)
     cases gk with
     | zero => exact absurd HA.out (by simp [impl_distances.l1])
     | succ k2 =>
      have H := HA.out
      clear HA
      simp only [impl_distances.l1] at H
      by_cases c26 : x34_2 < (t114.length : Int)
      ·rw [if_pos c26] at H
       have c26b0 : decide (x34_2 < (t114.length : Int)) = true := decide_eq_true c26
       clear c26
       replace H := iN_ H; obtain ⟨c27, H⟩ := H
       have c27b0 : decide (0 ≤ x34_2) = true := decide_eq_true c27
       clear c27
       replace H := iN_ H; obtain ⟨c28, H⟩ := H
       have c28b0 : decide (x34_2 < (t114.length : Int)) = true := decide_eq_true c28
       clear c28
       replace H := iN_ H; obtain ⟨c29, H⟩ := H
       have c29b0 : decide (0 ≤ x7_1) = true := decide_eq_true c29
       clear c29
       replace H := iN_ H; obtain ⟨c30, H⟩ := H
       have c30b0 : decide (x7_1 < (x6_2.length : Int)) = true := decide_eq_true c30
       clear c30
       obtain ⟨t119, A310, H⟩ := oB_ H
       (try dsimp only at H); have A31 := A_ A310; clear A310
       replace H := iN_ H; obtain ⟨c32, H⟩ := H
       have c32b0 : decide (0 ≤ t119) = true := decide_eq_true c32
       clear c32
       replace H := iN_ H; obtain ⟨c33, H⟩ := H
       have c33b0 : decide (t119 < (x5_2.length : Int)) = true := decide_eq_true c33
       clear c33
       by_cases c34 : (rd x5_2 t119) < 0
       ·rw [if_pos c34] at H
        have c34b0 : decide ((rd x5_2 t119) < 0) = true := decide_eq_true c34
        clear c34
        replace H := iN_ H; obtain ⟨c35, H⟩ := H
        have c35b0 : decide (0 ≤ (rd x6_2 x7_1)) = true := decide_eq_true c35
        clear c35
        replace H := iN_ H; obtain ⟨c36, H⟩ := H
        have c36b0 : decide ((rd x6_2 x7_1) < (x5_2.length : Int)) = true := decide_eq_true c36
        clear c36
        obtain ⟨y123, hy123⟩ : ∃ y_ : List Int, y_ = (x5_2.set (t119 : Int).toNat (wrap64 ((rd x5_2 (rd x6_2 x7_1)) + 1))) := ⟨_, rfl⟩
        replace H : (if x6_2.length < 17592186044416 then (impl_distances.l1 k2 y123 (x6_2 ++ [t119]) x7_1 t114 (t114.length : Int) (wrap64 (x34_2 + 1)) a0_0 a0_1 a0_2) else (none)) = some r := by (rw [hy123]; with_reducible exact H)
        have Ny123 := A_ hy123
        clear hy123
        replace H := iN_ H; obtain ⟨c38, H⟩ := H
        have LMc38 := A_ c38
        clear c38
        obtain ⟨y124, hy124⟩ : ∃ y_ : List Int, y_ = (x6_2 ++ [t119]) := ⟨_, rfl⟩
        replace H : (impl_distances.l1 k2 y123 y124 x7_1 t114 (t114.length : Int) (wrap64 (x34_2 + 1)) a0_0 a0_1 a0_2) = some r := by (rw [hy124]; with_reducible exact H)
        have Ny124 := A_ hy124
        clear hy124
        have H' := A_ H
        clear H
        have p117 : 0 ≤ (x34_2 : Int) := oD_
        have q117 : x34_2 < (t114.length : Int) := oD_
        obtain ⟨ad117, e117, hx117_0⟩ := Kd.at_int (Kd.R_reads' HO_32.out).2.2 x34_2 p117 q117
        cases e117
        replace p117 := eq_true p117; replace q117 := eq_true q117
        try go_wp2
        have n0_ := A_ (Kd.R_drew HO_5.out)
        have n1_ := A_ (Kd.R_drew HO_6.out)
        have n2_ := A_ (Kd.R_drew HO_32.out)
        have n3_ := A_ (blk_drew BK101.out); have n4_ := A_ (below_drew1 HB.out); clear HO_5 HO_6 HO_32 BK101 HB; have HO_5 := n0_; have HO_6 := n1_; have HO_32 := n2_; have BK101 := n3_; have HB := n4_; clear n0_ n1_ n2_ n3_ n4_
        obtain ⟨Ao40, co40, eo40⟩ := Kd.R_slice HO_6.out
        (subst eo40)
        have p118 : 0 ≤ (x7_1 : Int) := oD_
        have q118 : x7_1 < (x6_2.length : Int) := oD_
        obtain ⟨ad118, e118, hx118_0⟩ := Kd.at_int (Kd.R_reads' HO_6.out).2.2 x7_1 p118 q118
        cases e118
        replace p118 := eq_true p118; replace q118 := eq_true q118
        refine start_ (n := 8) (S := fun w' => w'.cell? ⟨gb101, 0, none⟩ = some (.int .i64 a0_0) ∧ w'.cell? ⟨gb101, 1, none⟩ = some (.int .i64 a0_1) ∧ w'.cell? ⟨gb101, 2, none⟩ = some (.int .i64 a0_2) ∧ w'.cell? (ad118.add (x7_1).toNat) = some (.int .i64 (rd x6_2 x7_1))) (ds := []) #[false, false, false, false, false, false, false, false] (by kernel_rfl) rfl rfl ⟨(blk_cell BK101.out 0).trans rfl, (blk_cell BK101.out 1).trans rfl, (blk_cell BK101.out 2).trans rfl, hx118_0⟩ (fun hHeld => ?_); refine with_tabW impl_distances.tab10 impl_distances.bits10 (fun HT_ HW_ => ?_)
        generalize wr.drew = w39 at HO_5 HO_6 HO_32 BK101 HB hx118_0 hHeld ⊢
        refine pv_ 1 39 HT_ ?_; refine pv_ 2 40 HT_ ?_; refine pv_ 3 41 HT_ ?_; refine pv_ 5 43 HT_ ?_; refine tv_ 0 38 rfl HT_ HW_ hHeld (by rintro w' ⟨s0, s1, s2, s3⟩; go_simp; with_reducible rfl) ?_
        refine tv_ 4 42 rfl HT_ HW_ hHeld (by rintro w' ⟨s0, s1, s2, s3⟩; go_simp; with_reducible rfl) ?_
        refine on_ 6 (some 44) rfl rfl HT_ (by kernel_rfl) (by decide) (fun K hK => ?_)
        refine gs_ Try.func113 #[.agg #[.int .i64 a0_0, .int .i64 a0_1, .int .i64 a0_2], .int .i64 (rd x6_2 x7_1), .int .i64 (rd t114 x34_2)] ?_
        with_reducible refine (impl_Step.calls k2 a0_0 a0_1 a0_2 (rd x6_2 x7_1) (rd t114 x34_2) t119 _ A31.out).mono ?_
        rintro e w41 ⟨rfl, hb⟩
        have HS3_ := (hb.cell (World.block_lt_of_cell? _ _ (hHeld.2.2.2))).trans (hHeld.2.2.2)
        refine ⟨_, rfl, ?_⟩
        have n0_ := A_ (Kd.R_below HO_5.out hb)
        have n1_ := A_ (Kd.R_below HO_6.out hb)
        have n2_ := A_ (Kd.R_below HO_32.out hb)
        have n3_ := A_ (blk_below BK101.out hb)
        have n4_ := A_ (bs_ HB.1 hb)
        clear HO_5 HO_6 HO_32 BK101 HB; have HO_5 := n0_; have HO_6 := n1_; have HO_32 := n2_; have BK101 := n3_; have HB := n4_; clear n0_ n1_ n2_ n3_ n4_; (try clear hb); (try clear hk)
        refine hK.out _ _ ⟨(blk_cell BK101.out 0).trans rfl, (blk_cell BK101.out 1).trans rfl, (blk_cell BK101.out 2).trans rfl, HS3_⟩ (fun hHeld => ?_)
        clear hK K
        refine norm_ (a' := ?_) ?_ ?_; rotate_left; (show Act.put _ (some 44) _ = _; simp only [P6_]; rfl)
        refine pv_ 7 10 HT_ ?_
        refine done_ (done_of HT_.out (by kernel_rfl)) ?_
        have p120 : 0 ≤ (t119 : Int) := oD_
        have q120 : t119 < (x5_2.length : Int) := oD_
        obtain ⟨ad120, e120, hx120_0⟩ := Kd.at_int (Kd.R_reads' HO_5.out).2.2 t119 p120 q120
        obtain rfl : (⟨go7, 0, none⟩ : Addr) = ad120 := (by injection e120)
        (simp only [add_plain] at hx120_0)
        replace p120 := eq_true p120; replace q120 := eq_true q120
        have p121 : 0 ≤ (x7_1 : Int) := oD_
        have q121 : x7_1 < (x6_2.length : Int) := oD_
        obtain ⟨ad121, e121, hx121_0⟩ := Kd.at_int (Kd.R_reads' HO_6.out).2.2 x7_1 p121 q121
        obtain rfl : ad118 = ad121 := (by injection e121)
        replace p121 := eq_true p121; replace q121 := eq_true q121
        have p122 : 0 ≤ ((rd x6_2 x7_1) : Int) := oD_
        have q122 : (rd x6_2 x7_1) < (x5_2.length : Int) := oD_
        obtain ⟨ad122, e122, hx122_0⟩ := Kd.at_int (Kd.R_reads' HO_5.out).2.2 (rd x6_2 x7_1) p122 q122
        obtain rfl : (⟨go7, 0, none⟩ : Addr) = ad122 := (by injection e122)
        (simp only [add_plain] at hx122_0)
        replace p122 := eq_true p122; replace q122 := eq_true q122
        have p37 : 0 ≤ (t119 : Int) := oD_
        have q37 : (t119 : Int) < ((x5_2.length : Int) : Int) := oD_
        obtain ⟨hx37_0, hf37_0⟩ := Kd.R_celln 0 HO_5.out (t119 : Int) p37 q37
        replace p37 := eq_true p37; replace q37 := eq_true q37
        obtain ⟨hy42_, hz42_⟩ := Kd.R_celln 0 HO_5.out (t119 : Int) (oD_) (oD_)
        have HP42 := Kd.R_putg HO_5.out (t119 : Int) (wrap64 ((rd x5_2 (rd x6_2 x7_1)) + 1))
        try go_wp2_with (first | ((with_reducible refine gate_store (t := 3) (p := 60) rfl ?_); refine store_event (t := 3) (p := 60) (v := ?vo_w43) (w1 := (w41.setCell ⟨go7, (t119 : Int).toNat, none⟩ (.int .i64 (wrap64 ((rd x5_2 (rd x6_2 x7_1)) + 1))))) ?hg ?ho ?hn ?hr ?_; (case ho => rfl); (case hg => rfl); (case hn => rfl); (case hr => (go_simp; done)); intro w43 hw; have hg : w41.grownBy w43 (some go7) := (by rw [hw]; exact HP42.2); have hp_ : Kd.R (Kd.int .i64) 3 w43 w.heap.size (fun k_ => some k_ ≠ (.slice (some ad118) x6_2.length co40 : Value).ownBlock ∧ some k_ ≠ (.slice (some ad117) t114.length co25 : Value).ownBlock) (.slice (some ⟨go7, 0, none⟩) x5_2.length co7) y123 := (by rw [hw, Ny123.out]; exact HP42.1); clear HP42; have n0_ := A_ (hp_); have n1_ := A_ (Kd.R_after (v := (.slice (some ⟨go7, 0, none⟩) x5_2.length co7)) (v1 := (.slice (some ⟨go7, 0, none⟩) x5_2.length co7)) (ok := (fun k_ => some k_ ≠ (.slice (some ad117) t114.length co25 : Value).ownBlock)) (by exact Kd.R_mono HO_6.out (fun _ hk => ⟨hk.2, hk.1⟩)) hg (.inl rfl)); have n2_ := A_ (Kd.R_after (v := (.slice (some ⟨go7, 0, none⟩) x5_2.length co7)) (v1 := (.slice (some ⟨go7, 0, none⟩) x5_2.length co7)) (ok := (fun k_ => some k_ ≠ (.slice (some ad118) x6_2.length co40 : Value).ownBlock)) (by exact Kd.R_mono HO_32.out (fun _ hk => ⟨hk.2, hk.1⟩)) hg (.inl rfl)); have n3_ := A_ (blk_grown (g := gb101) (o := .cells #[.int .i64 a0_0, .int .i64 a0_1, .int .i64 a0_2] 27 (0, 0)) BK101.out hg (Kd.R_ne HO_5.out BK101.out (by decide))); have n4_ := A_ ((by rw [hw]; exact below_set (HB.out) GB7.out : Below w.heap.size w w43)); clear HO_5 HO_6 HO_32 BK101 HB; have HO_5 := n0_; have HO_6 := n1_; have HO_32 := n2_; have BK101 := n3_; have HB := n4_; clear n0_ n1_ n2_ n3_ n4_ hg hw hp_) | ((with_reducible refine gate_builtin (b := .append) (xs := #[.tmp 61, .tmp 63]) rfl ?_); at_builtin; refine Kd.R_append (Kd.int .i64) (w0 := w) w.heap.size rfl (.tmp 61) (.tmp 63) 39 3 (.int .i64 0) 8 rfl Try.underlying39 info3 rfl (by decide) (by omega) (.slice (some ad118) x6_2.length co40) x6_2 t119 [.int .i64 t119] (fun k_ => some k_ ≠ (.slice (some ⟨go7, 0, none⟩) x5_2.length co7 : Value).ownBlock ∧ some k_ ≠ (.slice (some ad117) t114.length co25 : Value).ownBlock) (fun _ => False) rfl rfl ?aP (fun _ hk => hk.elim) ?aF ?aO ?aB ?aS ?aL ?_; (case aP => exact rfl); (case aB => exact HB.out); (case aF => exact (fun k_ hk => ⟨Kd.fresh' (Kd.R_lt HO_5.out) k_ hk, Kd.fresh' (Kd.R_lt HO_32.out) k_ hk⟩)); (case aO => exact (by exact Kd.R_mono HO_6.out (fun _ hk => ⟨hk.2, hk.1⟩))); (case aS => exact (below_size HB.out)); (case aL => have := LMc38.out; omega); intro v125 w44 ho hb hg hat; rw [← Ny124.out] at ho; have n0_ := A_ (Kd.R_after (ok := (fun k_ => some k_ ≠ (.slice (some ad117) t114.length co25 : Value).ownBlock)) (by exact Kd.R_mono HO_5.out (fun _ hk => ⟨hk.2, hk.1⟩)) hg hat); have n1_ := A_ (Kd.R_after (ok := (fun k_ => some k_ ≠ (.slice (some ⟨go7, 0, none⟩) x5_2.length co7 : Value).ownBlock)) (by exact Kd.R_mono HO_32.out (fun _ hk => ⟨hk.2, hk.1⟩)) hg hat); have n2_ := A_ (blk_grown (g := gb101) (o := .cells #[.int .i64 a0_0, .int .i64 a0_1, .int .i64 a0_2] 27 (0, 0)) BK101.out hg (Kd.R_ne HO_6.out BK101.out (by decide))); have n3_ := A_ (hb); have n4_ := A_ (ho); clear HO_5 HO_32 BK101 HB HO_6; have HO_5 := n0_; have HO_32 := n1_; have BK101 := n2_; have HB := n3_; have HO126 := n4_; clear n0_ n1_ n2_ n3_ n4_ ho hb hg hat))
        (try simp only [← hl5_2])
        go_roundg k2
        case measure => have := HK1.out; have := HK2.out; omega
        case rel => exact ⟨(y123), (y124), (wrap64 (x34_2 + 1)), (by rfl), H', ⟨by have := HK1.out; have := HK2.out; omega⟩, ⟨by (try simp only [hl5_1]); (try simp only [hl5_2]); exact Kd.R_mono HO_5.out (fun _ hk => ⟨hk.2, hk.1⟩)⟩, ⟨by (try simp only [hl5_1]); (try simp only [hl5_2]); exact HO126.out⟩, ⟨by (try simp only [hl5_1]); (try simp only [hl5_2]); exact HO_32.out⟩, ⟨by (try simp only [hl5_1]); (try simp only [hl5_2]); exact BK101.out⟩, ⟨by repeat ((with_reducible exact HB.out))⟩⟩
       ·rw [if_neg c34] at H
        have c34b0 : decide ((rd x5_2 t119) < 0) = false := decide_eq_false c34
        clear c34
        have H' := A_ H
        clear H
        have p117 : 0 ≤ (x34_2 : Int) := oD_
        have q117 : x34_2 < (t114.length : Int) := oD_
        obtain ⟨ad117, e117, hx117_0⟩ := Kd.at_int (Kd.R_reads' HO_32.out).2.2 x34_2 p117 q117
        cases e117
        replace p117 := eq_true p117; replace q117 := eq_true q117
        try go_wp2
        have n0_ := A_ (Kd.R_drew HO_5.out)
        have n1_ := A_ (Kd.R_drew HO_6.out)
        have n2_ := A_ (Kd.R_drew HO_32.out)
        have n3_ := A_ (blk_drew BK101.out); have n4_ := A_ (below_drew1 HB.out); clear HO_5 HO_6 HO_32 BK101 HB; have HO_5 := n0_; have HO_6 := n1_; have HO_32 := n2_; have BK101 := n3_; have HB := n4_; clear n0_ n1_ n2_ n3_ n4_
        obtain ⟨Ao46, co46, eo46⟩ := Kd.R_slice HO_6.out
        (subst eo46)
        have p118 : 0 ≤ (x7_1 : Int) := oD_
        have q118 : x7_1 < (x6_2.length : Int) := oD_
        obtain ⟨ad118, e118, hx118_0⟩ := Kd.at_int (Kd.R_reads' HO_6.out).2.2 x7_1 p118 q118
        cases e118
        replace p118 := eq_true p118; replace q118 := eq_true q118
        refine start_ (n := 8) (S := fun w' => w'.cell? ⟨gb101, 0, none⟩ = some (.int .i64 a0_0) ∧ w'.cell? ⟨gb101, 1, none⟩ = some (.int .i64 a0_1) ∧ w'.cell? ⟨gb101, 2, none⟩ = some (.int .i64 a0_2) ∧ w'.cell? (ad118.add (x7_1).toNat) = some (.int .i64 (rd x6_2 x7_1))) (ds := []) #[false, false, false, false, false, false, false, false] (by kernel_rfl) rfl rfl ⟨(blk_cell BK101.out 0).trans rfl, (blk_cell BK101.out 1).trans rfl, (blk_cell BK101.out 2).trans rfl, hx118_0⟩ (fun hHeld => ?_); refine with_tabW impl_distances.tab10 impl_distances.bits10 (fun HT_ HW_ => ?_)
        generalize wr.drew = w45 at HO_5 HO_6 HO_32 BK101 HB hx118_0 hHeld ⊢
        refine pv_ 1 39 HT_ ?_; refine pv_ 2 40 HT_ ?_; refine pv_ 3 41 HT_ ?_; refine pv_ 5 43 HT_ ?_; refine tv_ 0 38 rfl HT_ HW_ hHeld (by rintro w' ⟨s0, s1, s2, s3⟩; go_simp; with_reducible rfl) ?_
        refine tv_ 4 42 rfl HT_ HW_ hHeld (by rintro w' ⟨s0, s1, s2, s3⟩; go_simp; with_reducible rfl) ?_
        refine on_ 6 (some 44) rfl rfl HT_ (by kernel_rfl) (by decide) (fun K hK => ?_)
        refine gs_ Try.func113 #[.agg #[.int .i64 a0_0, .int .i64 a0_1, .int .i64 a0_2], .int .i64 (rd x6_2 x7_1), .int .i64 (rd t114 x34_2)] ?_
        with_reducible refine (impl_Step.calls k2 a0_0 a0_1 a0_2 (rd x6_2 x7_1) (rd t114 x34_2) t119 _ A31.out).mono ?_
        rintro e w47 ⟨rfl, hb⟩
        have HS3_ := (hb.cell (World.block_lt_of_cell? _ _ (hHeld.2.2.2))).trans (hHeld.2.2.2)
        refine ⟨_, rfl, ?_⟩
        have n0_ := A_ (Kd.R_below HO_5.out hb)
        have n1_ := A_ (Kd.R_below HO_6.out hb)
        have n2_ := A_ (Kd.R_below HO_32.out hb)
        have n3_ := A_ (blk_below BK101.out hb)
        have n4_ := A_ (bs_ HB.1 hb)
        clear HO_5 HO_6 HO_32 BK101 HB; have HO_5 := n0_; have HO_6 := n1_; have HO_32 := n2_; have BK101 := n3_; have HB := n4_; clear n0_ n1_ n2_ n3_ n4_; (try clear hb); (try clear hk)
        refine hK.out _ _ ⟨(blk_cell BK101.out 0).trans rfl, (blk_cell BK101.out 1).trans rfl, (blk_cell BK101.out 2).trans rfl, HS3_⟩ (fun hHeld => ?_)
        clear hK K
        refine norm_ (a' := ?_) ?_ ?_; rotate_left; (show Act.put _ (some 44) _ = _; simp only [P6_]; rfl)
        refine pv_ 7 10 HT_ ?_
        refine done_ (done_of HT_.out (by kernel_rfl)) ?_
        have p120 : 0 ≤ (t119 : Int) := oD_
        have q120 : t119 < (x5_2.length : Int) := oD_
        obtain ⟨ad120, e120, hx120_0⟩ := Kd.at_int (Kd.R_reads' HO_5.out).2.2 t119 p120 q120
        obtain rfl : (⟨go7, 0, none⟩ : Addr) = ad120 := (by injection e120)
        (simp only [add_plain] at hx120_0)
        replace p120 := eq_true p120; replace q120 := eq_true q120
        try go_wp2
        (try simp only [← hl5_2])
        go_roundg k2
        case measure => have := HK1.out; have := HK2.out; omega
        case rel => exact ⟨(x5_2), (x6_2), (wrap64 (x34_2 + 1)), (by rfl), H', ⟨by have := HK1.out; have := HK2.out; omega⟩, ⟨by (try simp only [hl5_1]); (try simp only [hl5_2]); exact HO_5.out⟩, ⟨by (try simp only [hl5_1]); (try simp only [hl5_2]); exact HO_6.out⟩, ⟨by (try simp only [hl5_1]); (try simp only [hl5_2]); exact HO_32.out⟩, ⟨by (try simp only [hl5_1]); (try simp only [hl5_2]); exact BK101.out⟩, ⟨by repeat ((with_reducible exact HB.out))⟩⟩
      ·rw [if_neg c26] at H
       have c26b0 : decide (x34_2 < (t114.length : Int)) = false := decide_eq_false c26
       clear c26
       have H' := A_ H
       clear H
       go_wp2
       (try simp only [← hl5_1, ← hl5_2])
       go_roundg k2
       case measure => have := HK1.out; have := HK2.out; omega
       case rel => exact ⟨(x5_2), (x6_2), (wrap64 (x7_1 + 1)), (by rfl), H', ⟨by have := HK1.out; have := HK2.out; omega⟩, ⟨by (try simp only [hl5_1]); (try simp only [hl5_2]); exact Kd.R_mono HO_5.out (fun _ hk => hk.1)⟩, ⟨by (try simp only [hl5_1]); (try simp only [hl5_2]); exact Kd.R_mono HO_6.out (fun _ hk => hk.1)⟩, ⟨by (try simp only [hl5_1]); (try simp only [hl5_2]); exact BK101.out⟩, ⟨by repeat ((with_reducible exact HB.out))⟩⟩
   ·rw [if_neg c19] at H
    have c19b0 : decide (x7_1 < (x6_1.length : Int)) = false := decide_eq_false c19
    clear c19
    obtain rfl := Option.some.inj H
    obtain ⟨Ao48, co48, eo48⟩ := Kd.R_slice HO_6.out
    subst eo48
    go_wp2
    go_ret
    exact ⟨_, by rfl, by exact Kd.R_mono HO_5.out (fun _ hk => trivial), by repeat ((with_reducible exact HB.out))⟩

end Go.Proofs.Ytbeajmcjfhbcjaa.P
namespace Go.Proofs.Ytbeajmcjfhbcjaa.P
open Go.RowKit Go.Proofs.YtbeajmcjfhbcjaaW.PrintWords Go.Proofs.YtbeajmcjfhbcjaaW.PrintLast Go.Proofs.YtbeajmcjfhbcjaaW.PrintMore
attribute [local go_sem] max2_int min2_int max_two min_two max_three min_three max_four min_four   -- for this text's walks alone
set_option linter.unusedVariables false
set_option linter.unusedSimpArgs false

def impl_Reached.f (k : Nat) (a0_0 : Int) (a0_1 : Int) (a0_2 : Int) (a1 : Int) : Option (List Int) := (impl_isIn.f a0_0 a0_1 a0_2 [a1]).bind fun t => (if t = true then ((impl_distances.f k a0_0 a0_1 a0_2 a1).bind fun far => ((impl_upTo.f k (far.length : Int)).bind fun l => (if l.all (fun c => decide (0 ≤ c ∧ c < (far.length : Int))) = true then some (l.filter fun x => !(decide (rd far x < 0))) else none))) else some [])
theorem impl_Reached_1.calls (gb : Nat) (A : Option Addr) (cp : Nat) (far : List Int) (c : Int) (W : World) (hblk : W.heap[gb]? = some (.cells #[.slice A far.length cp] 39 (0, 0))) (hr : Kd.C (Kd.int .i64) W A far.length far) (h0 : 0 ≤ c) (h1 : c < (far.length : Int)) :
  Calls Try.prog 130 #[.int .i64 c, .pointer (some ⟨gb, 0, none⟩)] W fun e w' => e = .returned (.bool (decide (rd far c < 0))) ∧ Below W.heap.size W w' := by
 have hc0 : W.cell? ⟨gb, 0, none⟩ = some (.slice A far.length cp) := (blk_cell hblk 0).trans rfl
 obtain ⟨ad, e0, hx⟩ := Kd.at_int hr c h0 h1
 subst e0; clear hblk hr
 go_enter Try.func130, Try.ntmps130
 go_wp2
 repeat (go_quiet (fail); try go_wp2)
 go_ret
 exact ⟨rfl, by repeat (exact Below.refl _ _)⟩
set_option maxHeartbeats 4000000 in
set_option maxRecDepth 100000 in
theorem impl_Reached.calls (k : Nat) (a0_0 : Int) (a0_1 : Int) (a0_2 : Int) (a1 : Int) (r : List Int) (w : World) (h : impl_Reached.f k a0_0 a0_1 a0_2 a1 = some r) :
  Calls Try.prog 78 #[.agg #[.int .i64 a0_0, .int .i64 a0_1, .int .i64 a0_2], .int .i64 a1] w fun e w' => ∃ v0_ : Value, e = .returned (v0_) ∧ Kd.R (Kd.int .i64) 3 w' w.heap.size (fun _ => True) v0_ r ∧ Below w.heap.size w w' := by
 have huM := Try.underlying27
 obtain ⟨t, ht, H⟩ := Option.bind_eq_some_iff.1 h
 have HM := A_ ht
 clear h ht
 cases t with
 | false =>
  obtain rfl := Option.some.inj H
  clear H
  go_enter Try.func78, Try.ntmps78
  go_wp2_with (go_at_call 77; refine (impl_isIn.calls a0_0 a0_1 a0_2 _ _ [a1] false _ (C_one (alloc_snd _ _ _)) (by simp) HM.out).mono ?_; rintro e w1 ⟨rfl, hb⟩; have HB := A_ ((below_alloc (below_alloc (Below.refl _ _) _) _).trans (hb.mono (by simp; omega)) : Below w.heap.size w w1); clear hb)
  go_ret
  exact ⟨_, rfl, Kd.R_nil _ _ _ _ _, HB.out⟩
 | true =>
  rw [if_pos rfl] at H
  obtain ⟨far, hf, H⟩ := Option.bind_eq_some_iff.1 H
  obtain ⟨l, hl, H⟩ := Option.bind_eq_some_iff.1 H
  by_cases hall : l.all (fun c => decide (0 ≤ c ∧ c < (far.length : Int))) = true
  ·rw [if_pos hall] at H
   obtain rfl := Option.some.inj H
   have HF := A_ hf
   have HL := A_ hl
   have HA : Aside0 (∀ x ∈ l, 0 ≤ x ∧ x < (far.length : Int)) := ⟨fun x hx => of_decide_eq_true (List.all_eq_true.1 hall x hx)⟩
   clear hall H hf hl
   go_enter Try.func78, Try.ntmps78
   go_wp2_with (first | (go_at_call 77; refine (impl_isIn.calls a0_0 a0_1 a0_2 _ _ [a1] true _ (C_one (alloc_snd _ _ _)) (by simp) HM.out).mono ?_; rintro e w1 ⟨rfl, hb⟩; have HB := A_ ((below_alloc (below_alloc (Below.refl _ _) _) _).trans (hb.mono (by simp; omega)) : Below w.heap.size w w1); have hs1 := hb.size; simp at hs1; have hG := (hb.block w.heap.size (by simp; omega)).trans (alloc_fst w _ _); have hG0 : w1.cell? ⟨w.heap.size, 0, none⟩ = some (.int .i64 a0_0) := (blk_cell hG 0).trans rfl; have hG1 : w1.cell? ⟨w.heap.size, 1, none⟩ = some (.int .i64 a0_1) := (blk_cell hG 1).trans rfl; have hG2 : w1.cell? ⟨w.heap.size, 2, none⟩ = some (.int .i64 a0_2) := (blk_cell hG 2).trans rfl; clear hb hG) | (go_at_call 129; refine (impl_distances.calls k a0_0 a0_1 a0_2 a1 far _ HF.out).mono ?_; rintro e w2 ⟨v2, rfl, hr2, hb⟩; obtain ⟨A2, c2, rfl, hlc2, hrd2⟩ := Kd.R_reads hr2; have HB2 := A_ (HB.out.trans (hb.mono HB.out.size)); have hs2 := hb.size; have HC2 := A_ hrd2; clear hr2 hb HB hG0 hG1 hG2 hrd2) | (go_at_call 70; refine (impl_upTo.calls k (far.length : Int) l _ HL.out).mono ?_; rintro e w3 ⟨v3, rfl, hr, hb⟩; have HR := A_ hr; have hs3 := hb.size; simp at hs3; have hblk := (hb.block w2.heap.size (by simp)).trans (heap_alloc_new w2 _); have HBL := A_ hblk; have HB23 : Below w2.heap.size w2 w3 := (below_alloc (Below.refl _ _) _).trans (hb.mono (by simp)); have HB24 := A_ HB23; have HB3 := A_ (HB2.out.trans (HB23.mono HB2.out.size)); clear hb hr HB2 hblk HB23) | (go_at_call 111; have hP : PredB 130 #[.pointer (some ⟨w2.heap.size, 0, none⟩)] (fun c => 0 ≤ c ∧ c < (far.length : Int)) (fun c => decide (rd far c < 0)) (w2.heap.size + 1) w3 := (by rintro W1 x ⟨hx0, hx1⟩ hB _; exact impl_Reached_1.calls w2.heap.size A2 c2 far x W1 ((hB.block _ (by omega)).trans HBL.out) (Kd.C_below HC2.out (HB24.out.trans (hB.mono (by omega)))) hx0 hx1); refine (slices_DeleteFunc_int_int.calls 130 #[.pointer (some ⟨w2.heap.size, 0, none⟩)] (enters_ Try.func130 (by kernel_rfl) rfl) _ _ (w2.heap.size + 1) w3 hP _ v3 l w3 (Below.refl _ _) (by simp) (by simpa using hs3) HR.out HA.out).mono ?_; rintro e w4 ⟨v4, rfl, hr4, hb4, hs4⟩; have HR4 := A_ hr4; have HB4 := A_ (HB3.out.trans (hb4.mono (by simp at *; omega))); clear hr4 hb4 hP))
   go_ret
   exact ⟨_, rfl, Kd.R_lower HR4.out (by simp at *; omega), HB4.out⟩
  ·rw [if_neg hall] at H
   exact absurd H (by simp)

def impl_CountParts.l0 : Nat → Int → Int → Int → Int → Int → Option (Int)
 | 0, _, _, _, _, _ => none
 | k + 1, x3, x4, x102000, x102001, x102002 => (impl_isIn.f x102000 x102001 x102002 (([x4] : List Int))).bind fun t105 => (if t105 = true then ((impl_Reached.f k x102000 x102001 x102002 x4).bind fun t106 => (if 0 < (t106.length : Int) then (if (rd t106 0) = x4 then (impl_CountParts.l0 k (wrap64 (x3 + 1)) (wrap64 (x4 + 1)) x102000 x102001 x102002) else (impl_CountParts.l0 k x3 (wrap64 (x4 + 1)) x102000 x102001 x102002)) else (none))) else (some x3))
def impl_CountParts.f (k : Nat) (a0_0 : Int) (a0_1 : Int) (a0_2 : Int) : Option (Int) := impl_CountParts.l0 k 0 0 a0_0 a0_1 a0_2
set_option maxHeartbeats 8000000 in
set_option maxRecDepth 100000 in
theorem impl_CountParts.calls (k : Nat) (a0_0 : Int) (a0_1 : Int) (a0_2 : Int) (r : Int) (w : World) (h : impl_CountParts.f k a0_0 a0_1 a0_2 = some r) :
  Calls Try.prog 22 #[.agg #[.int .i64 a0_0, .int .i64 a0_1, .int .i64 a0_2]] w fun e w' => e = .returned (.int .i64 r) ∧ Below w.heap.size w w' := by
 have hu27 := Try.underlying27
 have HB := A_ (Below.refl w.heap.size w)
 have H : (impl_CountParts.l0 k 0 0 a0_0 a0_1 a0_2) = some r := h
 clear h
 have H' := A_ H
 clear H
 go_enter Try.func22, Try.ntmps22
 go_wp2_with (((with_reducible refine gate_dst (N := 1) rfl ?_); refine be_ 1 #[.int .i64 a0_0, .int .i64 a0_1, .int .i64 a0_2] 27 ?_; intro gb101 hg w2 hbox hb; have n0_ := A_ (bs_ HB.1 hb); have n1_ := A_ (hbox); have n2_ := A_ (bS_ HB.out hg); have n3_ := A_ (bS_ HB.out hg); clear HB; have HB := n0_; have BK101 := n1_; have GW101 := n2_; have GE101 := n3_; clear n0_ n1_ n2_ n3_ hb hbox hg))
 go_loopg [3, 4] k (fun kq v3 v4 w' => ∃ (x3_1 : Int) (x4_1 : Int), v3 = .int .i64 x3_1 ∧ v4 = .int .i64 x4_1 ∧ Aside0 (impl_CountParts.l0 kq x3_1 x4_1 a0_0 a0_1 a0_2 = some r) ∧ Aside0 (kq ≤ k) ∧ Aside0 (w'.heap[gb101]? = some (.cells #[.int .i64 a0_0, .int .i64 a0_1, .int .i64 a0_2] 27 (0, 0))) ∧ Aside0 (Below w.heap.size w w'))
 case atStart => exact ⟨(0), (0), (by rfl), (by rfl), H', ⟨Nat.le_refl _⟩, ⟨by exact BK101.out⟩, ⟨by repeat ((with_reducible exact HB.out))⟩⟩
 case round =>
  clear H'; try clear c2; try clear p2
  obtain ⟨x3_1, x4_1, rfl, rfl, HA, HK1, BK101, HB⟩ := hrel
  cases gk with
  | zero => exact absurd HA.out (by simp [impl_CountParts.l0])
  | succ k1 =>
   have H := HA.out
   clear HA
   simp only [impl_CountParts.l0] at H
   obtain ⟨y102, hy102⟩ : ∃ y_ : List Int, y_ = (([x4_1] : List Int)) := ⟨_, rfl⟩
   replace H : ((impl_isIn.f a0_0 a0_1 a0_2 y102).bind fun t105 => (if t105 = true then ((impl_Reached.f k1 a0_0 a0_1 a0_2 x4_1).bind fun t106 => (if 0 < (t106.length : Int) then (if (rd t106 0) = x4_1 then (impl_CountParts.l0 k1 (wrap64 (x3_1 + 1)) (wrap64 (x4_1 + 1)) a0_0 a0_1 a0_2) else (impl_CountParts.l0 k1 x3_1 (wrap64 (x4_1 + 1)) a0_0 a0_1 a0_2)) else (none))) else (some x3_1))) = some r := by (rw [hy102]; with_reducible exact H)
   have Ny102 := A_ hy102
   clear hy102
   obtain ⟨t105, A30, H⟩ := oB_ H
   (try dsimp only at H); have A3 := A_ A30; clear A30
   by_cases c4 : t105 = true
   ·subst c4
    rw [if_pos rfl] at H
    obtain ⟨t106, A50, H⟩ := oB_ H
    (try dsimp only at H); have A5 := A_ A50; clear A50
    replace H := iN_ H; obtain ⟨c6, H⟩ := H
    have c6b0 : decide (0 < (t106.length : Int)) = true := decide_eq_true c6
    have c6b1 : decide (0 < t106.length) = true := decide_eq_true (by omega)
    clear c6
    by_cases c7 : (rd t106 0) = x4_1
    ·rw [if_pos c7] at H
     have c7b0 : ((rd t106 0) == x4_1) = true := beq_iff_eq.mpr c7
     have c7b1 : ((rd t106 0) != x4_1) = false := bne_eq_false_iff_eq.mpr c7
     clear c7
     have H' := A_ H
     clear H
     obtain ⟨hcz8_0, hcz8_1, hcz8_2⟩ := kk3_ BK101.1
     have hfz8_0 := bf_ BK101.out 0
     have hfz8_1 := bf_ BK101.out 1
     have hfz8_2 := bf_ BK101.out 2
     go_wp2_with (first | ((with_reducible refine gate_dst (N := 7) rfl ?_); refine Kd.R_lit (Kd.int .i64) _ 3 ?hg (N := 7) ?hd (xs := ([x4_1] : List Int)) (inner := [.int .i64 x4_1]) (ok := fun _ => True) (okp := fun _ => True) ?hr ?hp (fun _ hk => hk) trivial (Below.refl _ _) (Nat.le_refl _) (by simp) ?_; (case hd => rfl); (case hg => rfl); (case hr => (go_simp; done)); (case hp => exact (Reps.one (show Kd.M (Kd.int .i64) _ _ _ x4_1 [.int .i64 x4_1] from rfl) (Reps.none _ _))); intro v103 w9 ho10 hb hg_ hnew_; clear hg_ hnew_; (rw [← Ny102.out] at ho10); have n0_ := A_ (Kd.R_lower ho10 (below_size HB.out)); have n1_ := A_ (blk_below BK101.out hb); have n2_ := A_ (bs_ HB.1 hb); clear BK101 HB; have HO104 := n0_; have BK101 := n1_; have HB := n2_; clear n0_ n1_ n2_ hb ho10; obtain ⟨Ao11, co11, eo11⟩ := Kd.R_slice HO104.out; subst eo11) | ((with_reducible refine gate_callee (f := 77) rfl ?_); refine gl_ 8 Try.func77 #[.agg #[.int .i64 a0_0, .int .i64 a0_1, .int .i64 a0_2], .slice Ao11 y102.length co11] ?_; (with_reducible refine (impl_isIn.calls a0_0 a0_1 a0_2 _ _ y102 true _ ?side1 ?side2 A3.out).mono ?_); (case side1 => repeat (exact (Kd.R_reads' HO104.out).2.2)); (case side2 => exact (Kd.R_reads' HO104.out).2.1); rintro e w12 ⟨rfl, hb⟩; refine ⟨_, rfl, ?_⟩; have n0_ := A_ (Kd.R_below HO104.out hb); have n1_ := A_ (blk_below BK101.out hb); have n2_ := A_ (bs_ HB.1 hb); clear HO104 BK101 HB; have HO104 := n0_; have BK101 := n1_; have HB := n2_; clear n0_ n1_ n2_; (try clear hb); (try clear hk); obtain ⟨hcz13_0, hcz13_1, hcz13_2⟩ := kk3_ BK101.1; have hfz13_0 := bf_ BK101.out 0; have hfz13_1 := bf_ BK101.out 1; have hfz13_2 := bf_ BK101.out 2) | ((with_reducible refine gate_callee (f := 78) rfl ?_); refine gl_ 13 Try.func78 #[.agg #[.int .i64 a0_0, .int .i64 a0_1, .int .i64 a0_2], .int .i64 x4_1] ?_; (with_reducible refine (impl_Reached.calls k1 a0_0 a0_1 a0_2 x4_1 t106 _ A5.out).mono ?_); rintro e w14 ⟨v107, rfl, ho0, hb⟩; refine ⟨_, rfl, ?_⟩; have n0_ := A_ (Kd.R_elder' HO104.out (Kd.R_base ho0) hb); have n1_ := A_ (Kd.R_lower (Kd.R_new' ho0 (Kd.R_lt HO104.out)) (below_size HB.out)); have n2_ := A_ (blk_below BK101.out hb); have n3_ := A_ (bs_ HB.1 hb); clear HO104 BK101 HB; have HO104 := n0_; have HO108 := n1_; have BK101 := n2_; have HB := n3_; clear n0_ n1_ n2_ n3_; (try clear hb); (try clear hk); (try clear ho0); obtain ⟨Ao15, co15, eo15⟩ := Kd.R_slice HO108.out; subst eo15; have p109 : 0 ≤ (0 : Int) := (by omega); have q109 : 0 < (t106.length : Int) := oD_; obtain ⟨ad109, e109, hx109_0⟩ := Kd.at_int (Kd.R_reads' HO108.out).2.2 0 p109 q109; cases e109; have qi109 : (0 < t106.length) = True := eq_true (by omega); (try rw [show ((0 : Int)).toNat = 0 from rfl] at hx109_0); (try rw [Addr.add_zero'] at hx109_0); replace p109 := eq_true p109; replace q109 := eq_true q109))
     go_roundg k1
     case measure => have := HK1.out; omega
     case rel => exact ⟨(wrap64 (x3_1 + 1)), (wrap64 (x4_1 + 1)), (by rfl), (by rfl), H', ⟨by have := HK1.out; omega⟩, ⟨by exact BK101.out⟩, ⟨by repeat ((with_reducible exact HB.out))⟩⟩
    ·rw [if_neg c7] at H
     have c7b0 : ((rd t106 0) == x4_1) = false := beq_eq_false_iff_ne.mpr c7
     have c7b1 : ((rd t106 0) != x4_1) = true := bne_iff_ne.mpr c7
     have H' := A_ H
     clear H
     obtain ⟨hcz16_0, hcz16_1, hcz16_2⟩ := kk3_ BK101.1
     have hfz16_0 := bf_ BK101.out 0
     have hfz16_1 := bf_ BK101.out 1
     have hfz16_2 := bf_ BK101.out 2
     go_wp2_with (first | ((with_reducible refine gate_dst (N := 7) rfl ?_); refine Kd.R_lit (Kd.int .i64) _ 3 ?hg (N := 7) ?hd (xs := ([x4_1] : List Int)) (inner := [.int .i64 x4_1]) (ok := fun _ => True) (okp := fun _ => True) ?hr ?hp (fun _ hk => hk) trivial (Below.refl _ _) (Nat.le_refl _) (by simp) ?_; (case hd => rfl); (case hg => rfl); (case hr => (go_simp; done)); (case hp => exact (Reps.one (show Kd.M (Kd.int .i64) _ _ _ x4_1 [.int .i64 x4_1] from rfl) (Reps.none _ _))); intro v103 w17 ho18 hb hg_ hnew_; clear hg_ hnew_; (rw [← Ny102.out] at ho18); have n0_ := A_ (Kd.R_lower ho18 (below_size HB.out)); have n1_ := A_ (blk_below BK101.out hb); have n2_ := A_ (bs_ HB.1 hb); clear BK101 HB; have HO104 := n0_; have BK101 := n1_; have HB := n2_; clear n0_ n1_ n2_ hb ho18; obtain ⟨Ao19, co19, eo19⟩ := Kd.R_slice HO104.out; subst eo19) | ((with_reducible refine gate_callee (f := 77) rfl ?_); refine gl_ 8 Try.func77 #[.agg #[.int .i64 a0_0, .int .i64 a0_1, .int .i64 a0_2], .slice Ao19 y102.length co19] ?_; (with_reducible refine (impl_isIn.calls a0_0 a0_1 a0_2 _ _ y102 true _ ?side1 ?side2 A3.out).mono ?_); (case side1 => repeat (exact (Kd.R_reads' HO104.out).2.2)); (case side2 => exact (Kd.R_reads' HO104.out).2.1); rintro e w20 ⟨rfl, hb⟩; refine ⟨_, rfl, ?_⟩; have n0_ := A_ (Kd.R_below HO104.out hb); have n1_ := A_ (blk_below BK101.out hb); have n2_ := A_ (bs_ HB.1 hb); clear HO104 BK101 HB; have HO104 := n0_; have BK101 := n1_; have HB := n2_; clear n0_ n1_ n2_; (try clear hb); (try clear hk); obtain ⟨hcz21_0, hcz21_1, hcz21_2⟩ := kk3_ BK101.1; have hfz21_0 := bf_ BK101.out 0; have hfz21_1 := bf_ BK101.out 1; have hfz21_2 := bf_ BK101.out 2) | ((with_reducible refine gate_callee (f := 78) rfl ?_); refine gl_ 13 Try.func78 #[.agg #[.int .i64 a0_0, .int .i64 a0_1, .int .i64 a0_2], .int .i64 x4_1] ?_; (with_reducible refine (impl_Reached.calls k1 a0_0 a0_1 a0_2 x4_1 t106 _ A5.out).mono ?_); rintro e w22 ⟨v107, rfl, ho0, hb⟩; refine ⟨_, rfl, ?_⟩; have n0_ := A_ (Kd.R_elder' HO104.out (Kd.R_base ho0) hb); have n1_ := A_ (Kd.R_lower (Kd.R_new' ho0 (Kd.R_lt HO104.out)) (below_size HB.out)); have n2_ := A_ (blk_below BK101.out hb); have n3_ := A_ (bs_ HB.1 hb); clear HO104 BK101 HB; have HO104 := n0_; have HO108 := n1_; have BK101 := n2_; have HB := n3_; clear n0_ n1_ n2_ n3_; (try clear hb); (try clear hk); (try clear ho0); obtain ⟨Ao23, co23, eo23⟩ := Kd.R_slice HO108.out; subst eo23; have p109 : 0 ≤ (0 : Int) := (by omega); have q109 : 0 < (t106.length : Int) := oD_; obtain ⟨ad109, e109, hx109_0⟩ := Kd.at_int (Kd.R_reads' HO108.out).2.2 0 p109 q109; cases e109; have qi109 : (0 < t106.length) = True := eq_true (by omega); (try rw [show ((0 : Int)).toNat = 0 from rfl] at hx109_0); (try rw [Addr.add_zero'] at hx109_0); replace p109 := eq_true p109; replace q109 := eq_true q109))
     go_roundg k1
     case measure => have := HK1.out; omega
     case rel => exact ⟨(x3_1), (wrap64 (x4_1 + 1)), (by rfl), (by rfl), H', ⟨by have := HK1.out; omega⟩, ⟨by exact BK101.out⟩, ⟨by repeat ((with_reducible exact HB.out))⟩⟩
   ·replace c4 := Bool.eq_false_iff.mpr c4
    subst c4
    have H1 : (some x3_1) = some r := by rw [if_neg (show ¬ (false = true) by decide)] at H; exact H
    clear H
    have H := H1
    clear H1
    obtain rfl := Option.some.inj H
    obtain ⟨hcz24_0, hcz24_1, hcz24_2⟩ := kk3_ BK101.1
    have hfz24_0 := bf_ BK101.out 0
    have hfz24_1 := bf_ BK101.out 1
    have hfz24_2 := bf_ BK101.out 2
    go_wp2_with (first | ((with_reducible refine gate_dst (N := 7) rfl ?_); refine Kd.R_lit (Kd.int .i64) _ 3 ?hg (N := 7) ?hd (xs := ([x4_1] : List Int)) (inner := [.int .i64 x4_1]) (ok := fun _ => True) (okp := fun _ => True) ?hr ?hp (fun _ hk => hk) trivial (Below.refl _ _) (Nat.le_refl _) (by simp) ?_; (case hd => rfl); (case hg => rfl); (case hr => (go_simp; done)); (case hp => exact (Reps.one (show Kd.M (Kd.int .i64) _ _ _ x4_1 [.int .i64 x4_1] from rfl) (Reps.none _ _))); intro v103 w25 ho26 hb hg_ hnew_; clear hg_ hnew_; (rw [← Ny102.out] at ho26); have n0_ := A_ (Kd.R_lower ho26 (below_size HB.out)); have n1_ := A_ (blk_below BK101.out hb); have n2_ := A_ (bs_ HB.1 hb); clear BK101 HB; have HO104 := n0_; have BK101 := n1_; have HB := n2_; clear n0_ n1_ n2_ hb ho26; obtain ⟨Ao27, co27, eo27⟩ := Kd.R_slice HO104.out; subst eo27) | ((with_reducible refine gate_callee (f := 77) rfl ?_); refine gl_ 8 Try.func77 #[.agg #[.int .i64 a0_0, .int .i64 a0_1, .int .i64 a0_2], .slice Ao27 y102.length co27] ?_; (with_reducible refine (impl_isIn.calls a0_0 a0_1 a0_2 _ _ y102 false _ ?side1 ?side2 A3.out).mono ?_); (case side1 => repeat (exact (Kd.R_reads' HO104.out).2.2)); (case side2 => exact (Kd.R_reads' HO104.out).2.1); rintro e w28 ⟨rfl, hb⟩; refine ⟨_, rfl, ?_⟩; have n0_ := A_ (Kd.R_below HO104.out hb); have n1_ := A_ (blk_below BK101.out hb); have n2_ := A_ (bs_ HB.1 hb); clear HO104 BK101 HB; have HO104 := n0_; have BK101 := n1_; have HB := n2_; clear n0_ n1_ n2_; (try clear hb); (try clear hk)))
    go_ret
    exact ⟨by rfl, by repeat ((with_reducible exact HB.out))⟩

def impl_IsConnected.f (k : Nat) (a0_0 : Int) (a0_1 : Int) (a0_2 : Int) : Option (Bool) := (impl_CountParts.f k a0_0 a0_1 a0_2).bind fun t102 => (some (t102 == 1))
set_option maxHeartbeats 8000000 in
set_option maxRecDepth 100000 in
theorem impl_IsConnected.calls (k : Nat) (a0_0 : Int) (a0_1 : Int) (a0_2 : Int) (r : Bool) (w : World) (h : impl_IsConnected.f k a0_0 a0_1 a0_2 = some r) :
  Calls Try.prog 65 #[.agg #[.int .i64 a0_0, .int .i64 a0_1, .int .i64 a0_2]] w fun e w' => e = .returned (.bool r) ∧ Below w.heap.size w w' := by
 have hu27 := Try.underlying27
 have HB := A_ (Below.refl w.heap.size w)
 have H : ((impl_CountParts.f k a0_0 a0_1 a0_2).bind fun t102 => (some (t102 == 1))) = some r := h
 clear h
 obtain ⟨t102, A20, H⟩ := oB_ H
 (try dsimp only at H); have A2 := A_ A20; clear A20
 obtain rfl := Option.some.inj H
 go_enter Try.func65, Try.ntmps65
 go_wp2_with (first | ((with_reducible refine gate_dst (N := 1) rfl ?_); refine be_ 1 #[.int .i64 a0_0, .int .i64 a0_1, .int .i64 a0_2] 27 ?_; intro gb101 hg w3 hbox hb; have n0_ := A_ (bs_ HB.1 hb); have n1_ := A_ (hbox); have n2_ := A_ (bS_ HB.out hg); have n3_ := A_ (bS_ HB.out hg); clear HB; have HB := n0_; have BK101 := n1_; have GW101 := n2_; have GE101 := n3_; clear n0_ n1_ n2_ n3_ hb hbox hg; obtain ⟨hcz4_0, hcz4_1, hcz4_2⟩ := kk3_ BK101.1; have hfz4_0 := bf_ BK101.out 0; have hfz4_1 := bf_ BK101.out 1; have hfz4_2 := bf_ BK101.out 2) | ((with_reducible refine gate_callee (f := 22) rfl ?_); refine gl_ 4 Try.func22 #[.agg #[.int .i64 a0_0, .int .i64 a0_1, .int .i64 a0_2]] ?_; (with_reducible refine (impl_CountParts.calls k a0_0 a0_1 a0_2 t102 _ A2.out).mono ?_); rintro e w5 ⟨rfl, hb⟩; refine ⟨_, rfl, ?_⟩; have n0_ := A_ (blk_below BK101.out hb); have n1_ := A_ (bs_ HB.1 hb); clear BK101 HB; have BK101 := n0_; have HB := n1_; clear n0_ n1_; (try clear hb); (try clear hk)))
 go_ret
 exact ⟨by rfl, by repeat ((with_reducible exact HB.out))⟩

def impl_IsPerfect.f (k : Nat) (a0_0 : Int) (a0_1 : Int) (a0_2 : Int) : Option (Bool) := (impl_IsConnected.f k a0_0 a0_1 a0_2).bind fun t102 => (if t102 = true then ((impl_CountPassages.f a0_0 a0_1 a0_2).bind fun t103 => ((impl_CountCells.f a0_0 a0_1).bind fun t104 => (some (t103 == (wrap64 (t104 - 1)))))) else (some false))
def impl_IsPerfect.T1 : Bool × List (List Nat × List Nat) := (true, [([], []), ([0], [0]), ([1, 1], [1]), ([2], [2]), ([3, 2, 2], [2, 3]), ([2], [2]), ([5, 2], [2, 5]), ([6, 4, 2], [2, 6]), ([7, 2], [2, 7]), ([4, 8, 2], [2, 4, 8]), ([2, 9], [2, 9]), ([10, 7, 0, 1, 2, 3, 4, 5, 6, 7, 8, 9, 10], [10])])
def impl_IsPerfect.B1 : List Nat := [0, 1, 3, 7, 15, 7, 39, 127, 255, 511, 1023, 2047]
theorem impl_IsPerfect.tab1 : rtab .any (opsOf Try.f17 1) = impl_IsPerfect.T1 := by kernel_rfl
theorem impl_IsPerfect.bits1 : waitsOk impl_IsPerfect.T1.2 impl_IsPerfect.B1 = true := by kernel_rfl
set_option maxHeartbeats 8000000 in
set_option maxRecDepth 100000 in
theorem impl_IsPerfect.calls (k : Nat) (a0_0 : Int) (a0_1 : Int) (a0_2 : Int) (r : Bool) (w : World) (h : impl_IsPerfect.f k a0_0 a0_1 a0_2 = some r) :
  Calls Try.prog 17 #[.agg #[.int .i64 a0_0, .int .i64 a0_1, .int .i64 a0_2]] w fun e w' => e = .returned (.bool r) ∧ Below w.heap.size w w' := by
 have hu27 := Try.underlying27
 have hu25 := Try.underlying25
 have HB := A_ (Below.refl w.heap.size w)
 have H : ((impl_IsConnected.f k a0_0 a0_1 a0_2).bind fun t102 => (if t102 = true then ((impl_CountPassages.f a0_0 a0_1 a0_2).bind fun t103 => ((impl_CountCells.f a0_0 a0_1).bind fun t104 => (some (t103 == (wrap64 (t104 - 1)))))) else (some false))) = some r := h
 clear h
 obtain ⟨t102, A20, H⟩ := oB_ H
 (try dsimp only at H); have A2 := A_ A20; clear A20
 by_cases c3 : t102 = true
 ·subst c3
  rw [if_pos rfl] at H
  obtain ⟨t103, A40, H⟩ := oB_ H
  (try dsimp only at H); have A4 := A_ A40; clear A40
  obtain ⟨t104, A50, H⟩ := oB_ H
  (try dsimp only at H); have A5 := A_ A50; clear A50
  obtain rfl := Option.some.inj H
  go_enter Try.func17, Try.ntmps17
  try go_wp2_with (((with_reducible refine gate_dst (N := 1) rfl ?_); refine be_ 1 #[.int .i64 a0_0, .int .i64 a0_1, .int .i64 a0_2] 27 ?_; intro gb101 hg w6 hbox hb; have n0_ := A_ (bs_ HB.1 hb); have n1_ := A_ (hbox); have n2_ := A_ (bS_ HB.out hg); have n3_ := A_ (bS_ HB.out hg); clear HB; have HB := n0_; have BK101 := n1_; have GW101 := n2_; have GE101 := n3_; clear n0_ n1_ n2_ n3_ hb hbox hg)); have n0_ := A_ (blk_drew BK101.out); have n1_ := A_ (below_drew1 HB.out); clear BK101 HB; have BK101 := n0_; have HB := n1_; clear n0_ n1_
  refine start_ (n := 12) (S := fun w' => w'.cell? ⟨gb101, 0, none⟩ = some (.int .i64 a0_0) ∧ w'.cell? ⟨gb101, 1, none⟩ = some (.int .i64 a0_1) ∧ w'.cell? ⟨gb101, 2, none⟩ = some (.int .i64 a0_2)) (ds := []) #[false, false, false, false, false, false, false, false, false, false, false, false] (by kernel_rfl) rfl rfl ⟨(blk_cell BK101.out 0).trans rfl, (blk_cell BK101.out 1).trans rfl, (blk_cell BK101.out 2).trans rfl⟩ (fun hHeld => ?_); refine with_tabW impl_IsPerfect.tab1 impl_IsPerfect.bits1 (fun HT_ HW_ => ?_)
  generalize w6.drew = w7 at BK101 HB hHeld ⊢; refine tv_ 0 3 rfl HT_ HW_ hHeld (by rintro w' ⟨s0, s1, s2⟩; go_simp; with_reducible rfl) ?_
  refine on_ 1 (some 4) rfl rfl HT_ (by kernel_rfl) (by decide) (fun K hK => ?_)
  refine gs_ Try.func65 #[.agg #[.int .i64 a0_0, .int .i64 a0_1, .int .i64 a0_2]] ?_
  with_reducible refine (impl_IsConnected.calls k a0_0 a0_1 a0_2 true _ A2.out).mono ?_
  rintro e w8 ⟨rfl, hb⟩
  refine ⟨_, rfl, ?_⟩
  have n0_ := A_ (blk_below BK101.out hb)
  have n1_ := A_ (bs_ HB.1 hb)
  clear BK101 HB; have BK101 := n0_; have HB := n1_; clear n0_ n1_; (try clear hb); (try clear hk)
  refine hK.out _ _ ⟨(blk_cell BK101.out 0).trans rfl, (blk_cell BK101.out 1).trans rfl, (blk_cell BK101.out 2).trans rfl⟩ (fun hHeld => ?_)
  clear hK K
  refine norm_ (a' := ?_) ?_ ?_; rotate_left; (show Act.put _ (some 4) _ = _; simp only [P6_]; rfl)
  refine pv_ 2 5 HT_ ?_; refine pv_ 5 8 HT_ ?_; refine tv_ 3 6 rfl HT_ HW_ hHeld (by rintro w' ⟨s0, s1, s2⟩; go_simp; with_reducible rfl) ?_
  refine tv_ 6 9 rfl HT_ HW_ hHeld (by rintro w' ⟨s0, s1, s2⟩; go_simp; with_reducible rfl) ?_
  refine on_ 4 (some 7) rfl rfl HT_ (by kernel_rfl) (by decide) (fun K hK => ?_)
  refine gs_ Try.func60 #[.agg #[.int .i64 a0_0, .int .i64 a0_1, .int .i64 a0_2]] ?_
  with_reducible refine (impl_CountPassages.calls a0_0 a0_1 a0_2 t103 _ A4.out).mono ?_
  rintro e w9 ⟨rfl, hb⟩
  refine ⟨_, rfl, ?_⟩
  have n0_ := A_ (blk_below BK101.out hb)
  have n1_ := A_ (bs_ HB.1 hb)
  clear BK101 HB; have BK101 := n0_; have HB := n1_; clear n0_ n1_; (try clear hb); (try clear hk)
  refine hK.out _ _ ⟨(blk_cell BK101.out 0).trans rfl, (blk_cell BK101.out 1).trans rfl, (blk_cell BK101.out 2).trans rfl⟩ (fun hHeld => ?_)
  clear hK K
  refine norm_ (a' := ?_) ?_ ?_; rotate_left; (show Act.put _ (some 7) _ = _; simp only [P6_]; rfl)
  refine on_ 7 (some 10) rfl rfl HT_ (by kernel_rfl) (by decide) (fun K hK => ?_)
  refine gs_ Try.func68 #[.agg #[.int .i64 a0_0, .int .i64 a0_1]] ?_
  with_reducible refine (impl_CountCells.calls a0_0 a0_1 t104 _ A5.out).mono ?_
  rintro e w10 ⟨rfl, hb⟩
  refine ⟨_, rfl, ?_⟩
  have n0_ := A_ (blk_below BK101.out hb)
  have n1_ := A_ (bs_ HB.1 hb)
  clear BK101 HB; have BK101 := n0_; have HB := n1_; clear n0_ n1_; (try clear hb); (try clear hk)
  refine hK.out _ _ ⟨(blk_cell BK101.out 0).trans rfl, (blk_cell BK101.out 1).trans rfl, (blk_cell BK101.out 2).trans rfl⟩ (fun hHeld => ?_)
  clear hK K
  refine norm_ (a' := ?_) ?_ ?_; rotate_left; (show Act.put _ (some 10) _ = _; simp only [P6_]; rfl)
  refine pv_ 8 11 HT_ ?_; refine pv_ 9 12 HT_ ?_; refine pv_ 10 13 HT_ ?_; refine pv_ 11 2 HT_ ?_
  refine done_ (done_of HT_.out (by kernel_rfl)) ?_
  try go_wp2
  go_ret
  exact ⟨by rfl, by repeat ((with_reducible exact HB.out))⟩
 ·replace c3 := Bool.eq_false_iff.mpr c3
  subst c3
  have H1 : (some false) = some r := by rw [if_neg (show ¬ (false = true) by decide)] at H; exact H
  clear H
  have H := H1
  clear H1
  obtain rfl := Option.some.inj H
  go_enter Try.func17, Try.ntmps17
  try go_wp2_with (((with_reducible refine gate_dst (N := 1) rfl ?_); refine be_ 1 #[.int .i64 a0_0, .int .i64 a0_1, .int .i64 a0_2] 27 ?_; intro gb101 hg w11 hbox hb; have n0_ := A_ (bs_ HB.1 hb); have n1_ := A_ (hbox); have n2_ := A_ (bS_ HB.out hg); have n3_ := A_ (bS_ HB.out hg); clear HB; have HB := n0_; have BK101 := n1_; have GW101 := n2_; have GE101 := n3_; clear n0_ n1_ n2_ n3_ hb hbox hg)); have n0_ := A_ (blk_drew BK101.out); have n1_ := A_ (below_drew1 HB.out); clear BK101 HB; have BK101 := n0_; have HB := n1_; clear n0_ n1_
  refine start_ (n := 12) (S := fun w' => w'.cell? ⟨gb101, 0, none⟩ = some (.int .i64 a0_0) ∧ w'.cell? ⟨gb101, 1, none⟩ = some (.int .i64 a0_1) ∧ w'.cell? ⟨gb101, 2, none⟩ = some (.int .i64 a0_2)) (ds := []) #[false, false, false, false, false, false, false, false, false, false, false, false] (by kernel_rfl) rfl rfl ⟨(blk_cell BK101.out 0).trans rfl, (blk_cell BK101.out 1).trans rfl, (blk_cell BK101.out 2).trans rfl⟩ (fun hHeld => ?_); refine with_tabW impl_IsPerfect.tab1 impl_IsPerfect.bits1 (fun HT_ HW_ => ?_)
  generalize w11.drew = w12 at BK101 HB hHeld ⊢; refine tv_ 0 3 rfl HT_ HW_ hHeld (by rintro w' ⟨s0, s1, s2⟩; go_simp; with_reducible rfl) ?_
  refine on_ 1 (some 4) rfl rfl HT_ (by kernel_rfl) (by decide) (fun K hK => ?_)
  refine gs_ Try.func65 #[.agg #[.int .i64 a0_0, .int .i64 a0_1, .int .i64 a0_2]] ?_
  with_reducible refine (impl_IsConnected.calls k a0_0 a0_1 a0_2 false _ A2.out).mono ?_
  rintro e w13 ⟨rfl, hb⟩
  refine ⟨_, rfl, ?_⟩
  have n0_ := A_ (blk_below BK101.out hb)
  have n1_ := A_ (bs_ HB.1 hb)
  clear BK101 HB; have BK101 := n0_; have HB := n1_; clear n0_ n1_; (try clear hb); (try clear hk)
  refine hK.out _ _ ⟨(blk_cell BK101.out 0).trans rfl, (blk_cell BK101.out 1).trans rfl, (blk_cell BK101.out 2).trans rfl⟩ (fun hHeld => ?_)
  clear hK K
  refine norm_ (a' := ?_) ?_ ?_; rotate_left; (show Act.put _ (some 4) _ = _; simp only [P6_]; rfl)
  refine pv_ 2 5 HT_ ?_; refine pw_ 3 6 HT_ ?_; refine pw_ 4 7 HT_ ?_; refine pw_ 5 8 HT_ ?_; refine pw_ 6 9 HT_ ?_; refine pw_ 7 10 HT_ ?_; refine pw_ 8 11 HT_ ?_; refine pw_ 9 12 HT_ ?_; refine pv_ 10 13 HT_ ?_; refine pv_ 11 2 HT_ ?_
  refine done_ (done_of HT_.out (by kernel_rfl)) ?_
  try go_wp2
  go_ret
  exact ⟨by rfl, by repeat ((with_reducible exact HB.out))⟩

def impl_isGap.f (a0_0 : Int) (a0_1 : Int) (a1 : Int) : Option (Bool) := if a1 ≥ 0 then ((impl_CountGaps.f a0_0 a0_1).bind fun t102 => (some (decide (a1 < t102)))) else (some false)
set_option maxHeartbeats 8000000 in
set_option maxRecDepth 100000 in
theorem impl_isGap.calls (a0_0 : Int) (a0_1 : Int) (a1 : Int) (r : Bool) (w : World) (h : impl_isGap.f a0_0 a0_1 a1 = some r) :
  Calls Try.prog 135 #[.agg #[.int .i64 a0_0, .int .i64 a0_1], .int .i64 a1] w fun e w' => e = .returned (.bool r) ∧ Below w.heap.size w w' := by
 have hu25 := Try.underlying25
 have HB := A_ (Below.refl w.heap.size w)
 have H : (if a1 ≥ 0 then ((impl_CountGaps.f a0_0 a0_1).bind fun t102 => (some (decide (a1 < t102)))) else (some false)) = some r := h
 clear h
 by_cases c3 : a1 ≥ 0
 ·rw [if_pos c3] at H
  have c3b0 : decide (0 ≤ a1) = true := decide_eq_true c3
  clear c3
  obtain ⟨t102, A40, H⟩ := oB_ H
  (try dsimp only at H); have A4 := A_ A40; clear A40
  obtain rfl := Option.some.inj H
  go_enter Try.func135, Try.ntmps135
  go_wp2_with (first | ((with_reducible refine gate_dst (N := 2) rfl ?_); refine be_ 2 #[.int .i64 a0_0, .int .i64 a0_1] 25 ?_; intro gb101 hg w5 hbox hb; have n0_ := A_ (bs_ HB.1 hb); have n1_ := A_ (hbox); have n2_ := A_ (bS_ HB.out hg); have n3_ := A_ (bS_ HB.out hg); clear HB; have HB := n0_; have BK101 := n1_; have GW101 := n2_; have GE101 := n3_; clear n0_ n1_ n2_ n3_ hb hbox hg; obtain ⟨hcz6_0, hcz6_1⟩ := kk2_ BK101.1; have hfz6_0 := bf_ BK101.out 0; have hfz6_1 := bf_ BK101.out 1) | (go_at_call 74; (with_reducible refine (impl_CountGaps.calls a0_0 a0_1 t102 _ A4.out).mono ?_); rintro e w7 ⟨rfl, hb⟩; have n0_ := A_ (blk_below BK101.out hb); have n1_ := A_ (bs_ HB.1 hb); clear BK101 HB; have BK101 := n0_; have HB := n1_; clear n0_ n1_; (try clear hb); (try clear hk)))
  go_ret
  exact ⟨by rfl, by repeat ((with_reducible exact HB.out))⟩
 ·rw [if_neg c3] at H
  have c3b0 : decide (0 ≤ a1) = false := decide_eq_false c3
  clear c3
  obtain rfl := Option.some.inj H
  go_enter Try.func135, Try.ntmps135
  go_wp2_with (((with_reducible refine gate_dst (N := 2) rfl ?_); refine be_ 2 #[.int .i64 a0_0, .int .i64 a0_1] 25 ?_; intro gb101 hg w8 hbox hb; have n0_ := A_ (bs_ HB.1 hb); have n1_ := A_ (hbox); have n2_ := A_ (bS_ HB.out hg); have n3_ := A_ (bS_ HB.out hg); clear HB; have HB := n0_; have BK101 := n1_; have GW101 := n2_; have GE101 := n3_; clear n0_ n1_ n2_ n3_ hb hbox hg))
  go_ret
  exact ⟨by rfl, by repeat ((with_reducible exact HB.out))⟩

def impl_EndsOf.f (a0_0 : Int) (a0_1 : Int) (a1 : Int) : Option (Int × Int) := (impl_isGap.f a0_0 a0_1 a1).bind fun t102 => (if t102 = true then (if a1 ≥ (wrap64 ((wrap64 (a0_0 - 1)) * a0_1)) then (some (wrap64 (a1 - (wrap64 ((wrap64 (a0_0 - 1)) * a0_1))), wrap64 ((wrap64 (a1 - (wrap64 ((wrap64 (a0_0 - 1)) * a0_1)))) + a0_0))) else (if (wrap64 (a0_0 - 1)) = 0 then (none) else (some (wrap64 ((wrap64 ((wrap64 (Int.tdiv a1 (wrap64 (a0_0 - 1)))) * a0_0)) + (Int.tmod a1 (wrap64 (a0_0 - 1)))), wrap64 ((wrap64 ((wrap64 ((wrap64 (Int.tdiv a1 (wrap64 (a0_0 - 1)))) * a0_0)) + (Int.tmod a1 (wrap64 (a0_0 - 1))))) + 1))))) else (some ((-1), (-1))))
set_option maxHeartbeats 8000000 in
set_option maxRecDepth 100000 in
theorem impl_EndsOf.calls (a0_0 : Int) (a0_1 : Int) (a1 : Int) (r1 : Int) (r2 : Int) (w : World) (h : impl_EndsOf.f a0_0 a0_1 a1 = some (r1, r2)) :
  Calls Try.prog 90 #[.agg #[.int .i64 a0_0, .int .i64 a0_1], .int .i64 a1] w fun e w' => e = .returned (.tuple #[.int .i64 r1, .int .i64 r2]) ∧ Below w.heap.size w w' := by
 have hu25 := Try.underlying25
 have HB := A_ (Below.refl w.heap.size w)
 have H : ((impl_isGap.f a0_0 a0_1 a1).bind fun t102 => (if t102 = true then (if a1 ≥ (wrap64 ((wrap64 (a0_0 - 1)) * a0_1)) then (some (wrap64 (a1 - (wrap64 ((wrap64 (a0_0 - 1)) * a0_1))), wrap64 ((wrap64 (a1 - (wrap64 ((wrap64 (a0_0 - 1)) * a0_1)))) + a0_0))) else (if (wrap64 (a0_0 - 1)) = 0 then (none) else (some (wrap64 ((wrap64 ((wrap64 (Int.tdiv a1 (wrap64 (a0_0 - 1)))) * a0_0)) + (Int.tmod a1 (wrap64 (a0_0 - 1)))), wrap64 ((wrap64 ((wrap64 ((wrap64 (Int.tdiv a1 (wrap64 (a0_0 - 1)))) * a0_0)) + (Int.tmod a1 (wrap64 (a0_0 - 1))))) + 1))))) else (some ((-1), (-1))))) = some (r1, r2) := h
 clear h
 obtain ⟨t102, A30, H⟩ := oB_ H
 (try dsimp only at H); have A3 := A_ A30; clear A30
 by_cases c4 : t102 = true
 ·subst c4
  rw [if_pos rfl] at H
  by_cases c5 : a1 ≥ (wrap64 ((wrap64 (a0_0 - 1)) * a0_1))
  ·rw [if_pos c5] at H
   have c5b0 : decide ((wrap64 ((wrap64 (a0_0 - 1)) * a0_1)) ≤ a1) = true := decide_eq_true c5
   clear c5
   simp only [Option.some.injEq, Prod.mk.injEq] at H
   obtain ⟨rfl, rfl⟩ := H
   go_enter Try.func90, Try.ntmps90
   go_wp2_with (first | ((with_reducible refine gate_dst (N := 2) rfl ?_); refine be_ 2 #[.int .i64 a0_0, .int .i64 a0_1] 25 ?_; intro gb101 hg w6 hbox hb; have n0_ := A_ (bs_ HB.1 hb); have n1_ := A_ (hbox); have n2_ := A_ (bS_ HB.out hg); have n3_ := A_ (bS_ HB.out hg); clear HB; have HB := n0_; have BK101 := n1_; have GW101 := n2_; have GE101 := n3_; clear n0_ n1_ n2_ n3_ hb hbox hg; obtain ⟨hcz7_0, hcz7_1⟩ := kk2_ BK101.1; have hfz7_0 := bf_ BK101.out 0; have hfz7_1 := bf_ BK101.out 1) | (go_at_call 135; (with_reducible refine (impl_isGap.calls a0_0 a0_1 a1 true _ A3.out).mono ?_); rintro e w8 ⟨rfl, hb⟩; have n0_ := A_ (blk_below BK101.out hb); have n1_ := A_ (bs_ HB.1 hb); clear BK101 HB; have BK101 := n0_; have HB := n1_; clear n0_ n1_; (try clear hb); (try clear hk); obtain ⟨hcz9_0, hcz9_1⟩ := kk2_ BK101.1; have hfz9_0 := bf_ BK101.out 0; have hfz9_1 := bf_ BK101.out 1))
   repeat (go_quiet (fail); try go_wp2_with (fail))
   go_ret2
   exact ⟨by rfl, by repeat ((with_reducible first | exact HB.out | apply pw_below_drewN))⟩
  ·rw [if_neg c5] at H
   have c5b0 : decide ((wrap64 ((wrap64 (a0_0 - 1)) * a0_1)) ≤ a1) = false := decide_eq_false c5
   clear c5
   by_cases c10 : (wrap64 (a0_0 - 1)) = 0
   ·rw [if_pos c10] at H
    exact absurd H (by simp)
   ·rw [if_neg c10] at H
    have c10b0 : ((wrap64 (a0_0 - 1)) == 0) = false := beq_eq_false_iff_ne.mpr c10
    have c10b1 : ((wrap64 (a0_0 - 1)) != 0) = true := bne_iff_ne.mpr c10
    simp only [Option.some.injEq, Prod.mk.injEq] at H
    obtain ⟨rfl, rfl⟩ := H
    go_enter Try.func90, Try.ntmps90
    go_wp2_with (first | ((with_reducible refine gate_dst (N := 2) rfl ?_); refine be_ 2 #[.int .i64 a0_0, .int .i64 a0_1] 25 ?_; intro gb101 hg w11 hbox hb; have n0_ := A_ (bs_ HB.1 hb); have n1_ := A_ (hbox); have n2_ := A_ (bS_ HB.out hg); have n3_ := A_ (bS_ HB.out hg); clear HB; have HB := n0_; have BK101 := n1_; have GW101 := n2_; have GE101 := n3_; clear n0_ n1_ n2_ n3_ hb hbox hg; obtain ⟨hcz12_0, hcz12_1⟩ := kk2_ BK101.1; have hfz12_0 := bf_ BK101.out 0; have hfz12_1 := bf_ BK101.out 1) | (go_at_call 135; (with_reducible refine (impl_isGap.calls a0_0 a0_1 a1 true _ A3.out).mono ?_); rintro e w13 ⟨rfl, hb⟩; have n0_ := A_ (blk_below BK101.out hb); have n1_ := A_ (bs_ HB.1 hb); clear BK101 HB; have BK101 := n0_; have HB := n1_; clear n0_ n1_; (try clear hb); (try clear hk); obtain ⟨hcz14_0, hcz14_1⟩ := kk2_ BK101.1; have hfz14_0 := bf_ BK101.out 0; have hfz14_1 := bf_ BK101.out 1))
    repeat (go_quiet (fail); try go_wp2_with (fail))
    go_ret2
    exact ⟨by rfl, by repeat ((with_reducible first | exact HB.out | apply pw_below_drewN))⟩
 ·replace c4 := Bool.eq_false_iff.mpr c4
  subst c4
  have H1 : (some ((-1), (-1))) = some (r1, r2) := by rw [if_neg (show ¬ (false = true) by decide)] at H; exact H
  clear H
  have H := H1
  clear H1
  simp only [Option.some.injEq, Prod.mk.injEq] at H
  obtain ⟨rfl, rfl⟩ := H
  go_enter Try.func90, Try.ntmps90
  go_wp2_with (first | ((with_reducible refine gate_dst (N := 2) rfl ?_); refine be_ 2 #[.int .i64 a0_0, .int .i64 a0_1] 25 ?_; intro gb101 hg w15 hbox hb; have n0_ := A_ (bs_ HB.1 hb); have n1_ := A_ (hbox); have n2_ := A_ (bS_ HB.out hg); have n3_ := A_ (bS_ HB.out hg); clear HB; have HB := n0_; have BK101 := n1_; have GW101 := n2_; have GE101 := n3_; clear n0_ n1_ n2_ n3_ hb hbox hg; obtain ⟨hcz16_0, hcz16_1⟩ := kk2_ BK101.1; have hfz16_0 := bf_ BK101.out 0; have hfz16_1 := bf_ BK101.out 1) | (go_at_call 135; (with_reducible refine (impl_isGap.calls a0_0 a0_1 a1 false _ A3.out).mono ?_); rintro e w17 ⟨rfl, hb⟩; have n0_ := A_ (blk_below BK101.out hb); have n1_ := A_ (bs_ HB.1 hb); clear BK101 HB; have BK101 := n0_; have HB := n1_; clear n0_ n1_; (try clear hb); (try clear hk)))
  repeat (go_quiet (fail); try go_wp2_with (fail))
  go_ret2
  exact ⟨by rfl, by repeat ((with_reducible exact HB.out))⟩

def impl_with.f (a0_0 : Int) (a0_1 : Int) (a0_2 : Int) (a1 : Int) (a2 : Bool) : Option (Int × Int × Int) := if 0 ≤ a1 then (if a2 = true then (some (a0_0, a0_1, Go.bits .or .i64 (Go.bits .andNot .i64 a0_2 (shl .i64 1 a1)) (shl .i64 1 a1))) else (some (a0_0, a0_1, Go.bits .andNot .i64 a0_2 (shl .i64 1 a1)))) else (none)
set_option maxHeartbeats 8000000 in
set_option maxRecDepth 100000 in
theorem impl_with.calls (a0_0 : Int) (a0_1 : Int) (a0_2 : Int) (a1 : Int) (a2 : Bool) (r1 : Int) (r2 : Int) (r3 : Int) (w : World) (h : impl_with.f a0_0 a0_1 a0_2 a1 a2 = some (r1, r2, r3)) :
  Calls Try.prog 92 #[.agg #[.int .i64 a0_0, .int .i64 a0_1, .int .i64 a0_2], .int .i64 a1, .bool a2] w fun e w' => e = .returned (.agg #[.int .i64 r1, .int .i64 r2, .int .i64 r3]) ∧ Below w.heap.size w w' := by
 have hu27 := Try.underlying27
 have HB := A_ (Below.refl w.heap.size w)
 have H : (if 0 ≤ a1 then (if a2 = true then (some (a0_0, a0_1, Go.bits .or .i64 (Go.bits .andNot .i64 a0_2 (shl .i64 1 a1)) (shl .i64 1 a1))) else (some (a0_0, a0_1, Go.bits .andNot .i64 a0_2 (shl .i64 1 a1)))) else (none)) = some (r1, r2, r3) := h
 clear h
 replace H := iN_ H; obtain ⟨c4, H⟩ := H
 have c4b0 := eq_true c4
 have c4b1 : decide (0 ≤ a1) = true := decide_eq_true c4
 clear c4
 obtain ⟨ji5, hji5⟩ : ∃ j_ : Int, (shl .i64 1 a1) = j_ := ⟨_, rfl⟩
 replace H : (if a2 = true then (some (a0_0, a0_1, Go.bits .or .i64 (Go.bits .andNot .i64 a0_2 (ji5)) (ji5))) else (some (a0_0, a0_1, Go.bits .andNot .i64 a0_2 (ji5)))) = some (r1, r2, r3) := by (rw [hji5] at H; exact H)
 have hji5_ : (IntKind.i64.wrap (1 * 2 ^ min a1.toNat 64)) = ji5 := hji5
 have hji5z : a1 ≤ 64 → (IntKind.i64.wrap (1 * 2 ^ a1.toNat)) = ji5 := shl_small hji5
 have hji5u : (IntKind.i64.wrap (2 ^ min a1.toNat 64)) = ji5 := by have h_ := hji5_; rw [Int.one_mul] at h_; exact h_
 have hji5v : a1 ≤ 64 → (IntKind.i64.wrap (2 ^ a1.toNat)) = ji5 := fun hle_ => by have h_ := hji5z hle_; rw [Int.one_mul] at h_; exact h_
 have hji5y : (wrap64 (1 * 2 ^ min a1.toNat 64)) = ji5 := (i64_w _).symm.trans hji5_
 have hji5x : a1 ≤ 64 → (wrap64 (1 * 2 ^ a1.toNat)) = ji5 := fun h_ => (i64_w _).symm.trans (hji5z h_)
 by_cases c6 : a2 = true
 ·subst c6
  rw [if_pos rfl] at H
  have c7b0 := eq_true (oD_ : 0 ≤ a1)
  simp only [Option.some.injEq, Prod.mk.injEq] at H
  obtain ⟨rfl, rfl, rfl⟩ := H
  go_enter Try.func92, Try.ntmps92
  try go_wp2_with (first | ((with_reducible refine gate_dst (N := 3) rfl ?_); refine be_ 3 #[.int .i64 a0_0, .int .i64 a0_1, .int .i64 a0_2] 27 ?_; intro gb101 hg w8 hbox hb; have n0_ := A_ (bs_ HB.1 hb); have n1_ := A_ (hbox); have n2_ := A_ (bS_ HB.out hg); have n3_ := A_ (bS_ HB.out hg); clear HB; have HB := n0_; have BK101 := n1_; have GW101 := n2_; have GE101 := n3_; clear n0_ n1_ n2_ n3_ hb hbox hg) | ((with_reducible refine gate_dst (N := 6) rfl ?_); refine be_ 6 #[.int .i64 0, .int .i64 0, .int .i64 0] 27 ?_; intro gb102 hg w9 hbox hb; have n0_ := A_ (blk_below BK101.out hb); have n1_ := A_ (bs_ HB.1 hb); have n2_ := A_ (hbox); have n3_ := A_ (bS_ HB.out hg); have n4_ := A_ (bS_ HB.out hg); have n5_ := A_ ((by rw [hg]; exact Nat.ne_of_lt (blk_lt (g := gb101) (o := .cells #[.int .i64 a0_0, .int .i64 a0_1, .int .i64 a0_2] 27 (0, 0)) BK101.out) : gb101 ≠ gb102)); have n6_ := A_ ((by rw [hg]; exact Nat.ne_of_gt (blk_lt (g := gb101) (o := .cells #[.int .i64 a0_0, .int .i64 a0_1, .int .i64 a0_2] 27 (0, 0)) BK101.out) : gb102 ≠ gb101)); clear BK101 HB; have BK101 := n0_; have HB := n1_; have BK102 := n2_; have GW102 := n3_; have GE102 := n4_; have NB101_102 := n5_; have NB102_101 := n6_; clear n0_ n1_ n2_ n3_ n4_ n5_ n6_ hb hbox hg)); have n0_ := A_ (blk_drew BK101.out); have n1_ := A_ (blk_drew BK102.out); have n2_ := A_ (below_drew1 HB.out); clear BK101 BK102 HB; have BK101 := n0_; have BK102 := n1_; have HB := n2_; clear n0_ n1_ n2_
  refine start_ (n := 7) (S := fun w' => w'.cell? ⟨gb101, 0, none⟩ = some (.int .i64 a0_0) ∧ w'.cell? ⟨gb101, 1, none⟩ = some (.int .i64 a0_1) ∧ w'.cell? ⟨gb101, 2, none⟩ = some (.int .i64 a0_2)) (ds := [6]) #[false, false, false, false, false, false, false] (by kernel_rfl) rfl rfl ⟨(blk_cell BK101.out 0).trans rfl, (blk_cell BK101.out 1).trans rfl, (blk_cell BK101.out 2).trans rfl⟩ (fun hHeld => ?_)
  generalize w9.drew = w10 at BK101 BK102 HB hHeld ⊢
  refine pure_ (i := 0) (N := some 7) (v := ?_) (a' := ?_) #[true, false, false, false, false, false, false] rfl rfl (by kernel_rfl) (fun _ _ _ h => h) (Or.inl ⟨by rfl, ?_⟩) ?_ ?_; rotate_left; (intro w'; go_simp; with_reducible rfl); rotate_left; (simp only [P6_]; rfl)
  refine pure_ (i := 2) (N := some 9) (v := ?_) (a' := ?_) #[true, false, true, false, false, false, false] rfl rfl (by kernel_rfl) (fun _ _ _ h => h) (Or.inl ⟨by rfl, ?_⟩) ?_ ?_; rotate_left; (intro w'; go_simp; with_reducible rfl); rotate_left; (simp only [P6_]; rfl)
  refine pure_ (i := 3) (N := some 10) (v := ?_) (a' := ?_) #[true, false, true, true, false, false, false] rfl rfl (by kernel_rfl) (fun _ _ _ h => h) (Or.inl ⟨by rfl, ?_⟩) ?_ ?_; rotate_left; (intro w'; go_simp; with_reducible rfl); rotate_left; (simp only [P6_]; rfl)
  refine take_ (i := 1) (N := some 8) (v := ?_) (a' := ?_) #[true, true, true, true, false, false, false] rfl rfl (by kernel_rfl) (fun _ _ _ h => h) (Or.inl ⟨by rfl, ?_⟩) hHeld ?_ ?_; rotate_left; (rintro w' ⟨s0, s1, s2⟩; go_simp; with_reducible rfl); rotate_left; (simp only [P6_]; rfl)
  refine pure_ (i := 4) (N := some 11) (v := ?_) (a' := ?_) #[true, true, true, true, true, false, false] rfl rfl (by kernel_rfl) (fun _ _ _ h => h) (Or.inl ⟨by rfl, ?_⟩) ?_ ?_; rotate_left; (intro w'; go_simp; with_reducible rfl); rotate_left; (simp only [P6_]; rfl)
  refine pure_ (i := 5) (N := some 12) (v := ?_) (a' := ?_) #[true, true, true, true, true, true, false] rfl rfl (by kernel_rfl) (fun _ _ _ h => h) (Or.inl ⟨by rfl, ?_⟩) ?_ ?_; rotate_left; (intro w'; go_simp; with_reducible rfl); rotate_left; (simp only [P6_]; rfl)
  refine last_ (i := 6) (N := none) #[true, true, true, true, true, true, true] rfl rfl (by kernel_rfl) (by decide) (fun K hK => ?_)
  have hs11 : w10.cell? ⟨gb101, 2, none⟩ = some (.int .i64 a0_2) := (blk_cell BK101.out 2).trans rfl
  have hfs11 := bf_ BK101.out 2
  have hns11_1 := NB102_101.out
  have hms11_1 := NB101_102.out
  refine skip_ (w1 := ?_) (by rfl) rfl ?_ ?_
  rotate_left
  ·go_simp
   rfl
  refine hK.out _ _ ?_
  clear hK K
  refine done_ (by kernel_rfl) ?_
  try go_wp2
  have n0_ : Aside0 ((w10.setCell ⟨gb101, 2, none⟩ (.int .i64 (Go.bits .andNot .i64 a0_2 (ji5)))).heap[gb101]? = some (.cells #[.int .i64 a0_0, .int .i64 a0_1, .int .i64 (Go.bits .andNot .i64 a0_2 (ji5))] 27 (0, 0))) := ⟨by refine blk_put (cs := #[.int .i64 a0_0, .int .i64 a0_1, .int .i64 a0_2]) ?_ 2 _ rfl; exact BK101.out⟩
  have n1_ : Aside0 ((w10.setCell ⟨gb101, 2, none⟩ (.int .i64 (Go.bits .andNot .i64 a0_2 (ji5)))).heap[gb102]? = some (.cells #[.int .i64 0, .int .i64 0, .int .i64 0] 27 (0, 0))) := ⟨by refine blk_far ?_ NB102_101.out _; exact BK102.out⟩
  have n2_ : Aside0 (Below w.heap.size w (w10.setCell ⟨gb101, 2, none⟩ (.int .i64 (Go.bits .andNot .i64 a0_2 (ji5))))) := ⟨by repeat ((with_reducible first | exact HB.out | refine below_set ?_ GE101.out))⟩
  (try clear BK101); (try clear BK102); (try clear HB)
  generalize (w10.setCell ⟨gb101, 2, none⟩ (.int .i64 (Go.bits .andNot .i64 a0_2 (ji5)))) = w12 at n0_ n1_ n2_ ⊢
  have BK101 := n0_; have BK102 := n1_; have HB := n2_; clear n0_ n1_ n2_; have n0_ := A_ (blk_drew BK101.out); have n1_ := A_ (blk_drew BK102.out); have n2_ := A_ (below_drew1 HB.out); clear BK101 BK102 HB; have BK101 := n0_; have BK102 := n1_; have HB := n2_; clear n0_ n1_ n2_
  refine start_ (n := 7) (S := fun w' => w'.cell? ⟨gb101, 0, none⟩ = some (.int .i64 a0_0) ∧ w'.cell? ⟨gb101, 1, none⟩ = some (.int .i64 a0_1) ∧ w'.cell? ⟨gb101, 2, none⟩ = some (.int .i64 (Go.bits .andNot .i64 a0_2 (ji5)))) (ds := [6]) #[false, false, false, false, false, false, false] (by kernel_rfl) rfl rfl ⟨(blk_cell BK101.out 0).trans rfl, (blk_cell BK101.out 1).trans rfl, (blk_cell BK101.out 2).trans rfl⟩ (fun hHeld => ?_)
  generalize w12.drew = w13 at BK101 BK102 HB hHeld ⊢
  refine pure_ (i := 0) (N := some 14) (v := ?_) (a' := ?_) #[true, false, false, false, false, false, false] rfl rfl (by kernel_rfl) (fun _ _ _ h => h) (Or.inl ⟨by rfl, ?_⟩) ?_ ?_; rotate_left; (intro w'; go_simp; with_reducible rfl); rotate_left; (simp only [P6_]; rfl)
  refine pure_ (i := 2) (N := some 16) (v := ?_) (a' := ?_) #[true, false, true, false, false, false, false] rfl rfl (by kernel_rfl) (fun _ _ _ h => h) (Or.inl ⟨by rfl, ?_⟩) ?_ ?_; rotate_left; (intro w'; go_simp; with_reducible rfl); rotate_left; (simp only [P6_]; rfl)
  refine pure_ (i := 3) (N := some 17) (v := ?_) (a' := ?_) #[true, false, true, true, false, false, false] rfl rfl (by kernel_rfl) (fun _ _ _ h => h) (Or.inl ⟨by rfl, ?_⟩) ?_ ?_; rotate_left; (intro w'; go_simp; with_reducible rfl); rotate_left; (simp only [P6_]; rfl)
  refine take_ (i := 1) (N := some 15) (v := ?_) (a' := ?_) #[true, true, true, true, false, false, false] rfl rfl (by kernel_rfl) (fun _ _ _ h => h) (Or.inl ⟨by rfl, ?_⟩) hHeld ?_ ?_; rotate_left; (rintro w' ⟨s0, s1, s2⟩; go_simp; with_reducible rfl); rotate_left; (simp only [P6_]; rfl)
  refine pure_ (i := 4) (N := some 18) (v := ?_) (a' := ?_) #[true, true, true, true, true, false, false] rfl rfl (by kernel_rfl) (fun _ _ _ h => h) (Or.inl ⟨by rfl, ?_⟩) ?_ ?_; rotate_left; (intro w'; go_simp; with_reducible rfl); rotate_left; (simp only [P6_]; rfl)
  refine pure_ (i := 5) (N := some 19) (v := ?_) (a' := ?_) #[true, true, true, true, true, true, false] rfl rfl (by kernel_rfl) (fun _ _ _ h => h) (Or.inl ⟨by rfl, ?_⟩) ?_ ?_; rotate_left; (intro w'; go_simp; with_reducible rfl); rotate_left; (simp only [P6_]; rfl)
  refine last_ (i := 6) (N := none) #[true, true, true, true, true, true, true] rfl rfl (by kernel_rfl) (by decide) (fun K hK => ?_)
  have hs14 : w13.cell? ⟨gb101, 2, none⟩ = some (.int .i64 (Go.bits .andNot .i64 a0_2 (ji5))) := (blk_cell BK101.out 2).trans rfl
  have hfs14 := bf_ BK101.out 2
  have hns14_1 := NB102_101.out
  have hms14_1 := NB101_102.out
  refine skip_ (w1 := ?_) (by rfl) rfl ?_ ?_
  rotate_left
  ·go_simp
   rfl
  refine hK.out _ _ ?_
  clear hK K
  refine done_ (by kernel_rfl) ?_
  have hnb15 := NB101_102.out
  have hnc15 := NB102_101.out
  obtain ⟨hcz16_0, hcz16_1, hcz16_2⟩ := kk3_ BK101.1
  have hfz16_0 := bf_ BK101.out 0
  have hfz16_1 := bf_ BK101.out 1
  have hfz16_2 := bf_ BK101.out 2
  obtain ⟨hcz17_0, hcz17_1, hcz17_2⟩ := kk3_ BK102.1
  have hfz17_0 := bf_ BK102.out 0
  have hfz17_1 := bf_ BK102.out 1
  have hfz17_2 := bf_ BK102.out 2
  try go_wp2
  refine bodyPost_ret (results_cell_row rfl _ _ gb102 27 #[.int .i64 a0_0, .int .i64 a0_1, .int .i64 (Go.bits .or .i64 (Go.bits .andNot .i64 a0_2 (ji5)) (ji5))] (0, 0) _ rfl (by refine blk_put (cs := #[.int .i64 a0_0, .int .i64 a0_1, .int .i64 0]) ?_ 2 _ rfl; refine blk_put (cs := #[.int .i64 a0_0, .int .i64 0, .int .i64 0]) ?_ 1 _ rfl; refine blk_put (cs := #[.int .i64 0, .int .i64 0, .int .i64 0]) ?_ 0 _ rfl; refine blk_far ?_ NB102_101.out _; exact BK102.out) Try.underlying27 rfl (by kernel_rfl)) rfl ?_
  exact ⟨by rfl, by repeat ((with_reducible first | exact HB.out | refine below_set ?_ GE101.out | refine below_set ?_ GE102.out))⟩
 ·replace c6 := Bool.eq_false_iff.mpr c6
  subst c6
  have H1 : (some (a0_0, a0_1, Go.bits .andNot .i64 a0_2 (ji5))) = some (r1, r2, r3) := by rw [if_neg (show ¬ (false = true) by decide)] at H; exact H
  clear H
  have H := H1
  clear H1
  simp only [Option.some.injEq, Prod.mk.injEq] at H
  obtain ⟨rfl, rfl, rfl⟩ := H
  go_enter Try.func92, Try.ntmps92
  try go_wp2_with (first | ((with_reducible refine gate_dst (N := 3) rfl ?_); refine be_ 3 #[.int .i64 a0_0, .int .i64 a0_1, .int .i64 a0_2] 27 ?_; intro gb101 hg w18 hbox hb; have n0_ := A_ (bs_ HB.1 hb); have n1_ := A_ (hbox); have n2_ := A_ (bS_ HB.out hg); have n3_ := A_ (bS_ HB.out hg); clear HB; have HB := n0_; have BK101 := n1_; have GW101 := n2_; have GE101 := n3_; clear n0_ n1_ n2_ n3_ hb hbox hg) | ((with_reducible refine gate_dst (N := 6) rfl ?_); refine be_ 6 #[.int .i64 0, .int .i64 0, .int .i64 0] 27 ?_; intro gb102 hg w19 hbox hb; have n0_ := A_ (blk_below BK101.out hb); have n1_ := A_ (bs_ HB.1 hb); have n2_ := A_ (hbox); have n3_ := A_ (bS_ HB.out hg); have n4_ := A_ (bS_ HB.out hg); have n5_ := A_ ((by rw [hg]; exact Nat.ne_of_lt (blk_lt (g := gb101) (o := .cells #[.int .i64 a0_0, .int .i64 a0_1, .int .i64 a0_2] 27 (0, 0)) BK101.out) : gb101 ≠ gb102)); have n6_ := A_ ((by rw [hg]; exact Nat.ne_of_gt (blk_lt (g := gb101) (o := .cells #[.int .i64 a0_0, .int .i64 a0_1, .int .i64 a0_2] 27 (0, 0)) BK101.out) : gb102 ≠ gb101)); clear BK101 HB; have BK101 := n0_; have HB := n1_; have BK102 := n2_; have GW102 := n3_; have GE102 := n4_; have NB101_102 := n5_; have NB102_101 := n6_; clear n0_ n1_ n2_ n3_ n4_ n5_ n6_ hb hbox hg)); have n0_ := A_ (blk_drew BK101.out); have n1_ := A_ (blk_drew BK102.out); have n2_ := A_ (below_drew1 HB.out); clear BK101 BK102 HB; have BK101 := n0_; have BK102 := n1_; have HB := n2_; clear n0_ n1_ n2_
  refine start_ (n := 7) (S := fun w' => w'.cell? ⟨gb101, 0, none⟩ = some (.int .i64 a0_0) ∧ w'.cell? ⟨gb101, 1, none⟩ = some (.int .i64 a0_1) ∧ w'.cell? ⟨gb101, 2, none⟩ = some (.int .i64 a0_2)) (ds := [6]) #[false, false, false, false, false, false, false] (by kernel_rfl) rfl rfl ⟨(blk_cell BK101.out 0).trans rfl, (blk_cell BK101.out 1).trans rfl, (blk_cell BK101.out 2).trans rfl⟩ (fun hHeld => ?_)
  generalize w19.drew = w20 at BK101 BK102 HB hHeld ⊢
  refine pure_ (i := 0) (N := some 7) (v := ?_) (a' := ?_) #[true, false, false, false, false, false, false] rfl rfl (by kernel_rfl) (fun _ _ _ h => h) (Or.inl ⟨by rfl, ?_⟩) ?_ ?_; rotate_left; (intro w'; go_simp; with_reducible rfl); rotate_left; (simp only [P6_]; rfl)
  refine pure_ (i := 2) (N := some 9) (v := ?_) (a' := ?_) #[true, false, true, false, false, false, false] rfl rfl (by kernel_rfl) (fun _ _ _ h => h) (Or.inl ⟨by rfl, ?_⟩) ?_ ?_; rotate_left; (intro w'; go_simp; with_reducible rfl); rotate_left; (simp only [P6_]; rfl)
  refine pure_ (i := 3) (N := some 10) (v := ?_) (a' := ?_) #[true, false, true, true, false, false, false] rfl rfl (by kernel_rfl) (fun _ _ _ h => h) (Or.inl ⟨by rfl, ?_⟩) ?_ ?_; rotate_left; (intro w'; go_simp; with_reducible rfl); rotate_left; (simp only [P6_]; rfl)
  refine take_ (i := 1) (N := some 8) (v := ?_) (a' := ?_) #[true, true, true, true, false, false, false] rfl rfl (by kernel_rfl) (fun _ _ _ h => h) (Or.inl ⟨by rfl, ?_⟩) hHeld ?_ ?_; rotate_left; (rintro w' ⟨s0, s1, s2⟩; go_simp; with_reducible rfl); rotate_left; (simp only [P6_]; rfl)
  refine pure_ (i := 4) (N := some 11) (v := ?_) (a' := ?_) #[true, true, true, true, true, false, false] rfl rfl (by kernel_rfl) (fun _ _ _ h => h) (Or.inl ⟨by rfl, ?_⟩) ?_ ?_; rotate_left; (intro w'; go_simp; with_reducible rfl); rotate_left; (simp only [P6_]; rfl)
  refine pure_ (i := 5) (N := some 12) (v := ?_) (a' := ?_) #[true, true, true, true, true, true, false] rfl rfl (by kernel_rfl) (fun _ _ _ h => h) (Or.inl ⟨by rfl, ?_⟩) ?_ ?_; rotate_left; (intro w'; go_simp; with_reducible rfl); rotate_left; (simp only [P6_]; rfl)
  refine last_ (i := 6) (N := none) #[true, true, true, true, true, true, true] rfl rfl (by kernel_rfl) (by decide) (fun K hK => ?_)
  have hs21 : w20.cell? ⟨gb101, 2, none⟩ = some (.int .i64 a0_2) := (blk_cell BK101.out 2).trans rfl
  have hfs21 := bf_ BK101.out 2
  have hns21_1 := NB102_101.out
  have hms21_1 := NB101_102.out
  refine skip_ (w1 := ?_) (by rfl) rfl ?_ ?_
  rotate_left
  ·go_simp
   rfl
  refine hK.out _ _ ?_
  clear hK K
  refine done_ (by kernel_rfl) ?_
  have hnb22 := NB101_102.out
  have hnc22 := NB102_101.out
  obtain ⟨hcz23_0, hcz23_1, hcz23_2⟩ := kk3_ BK101.1
  have hfz23_0 := bf_ BK101.out 0
  have hfz23_1 := bf_ BK101.out 1
  have hfz23_2 := bf_ BK101.out 2
  obtain ⟨hcz24_0, hcz24_1, hcz24_2⟩ := kk3_ BK102.1
  have hfz24_0 := bf_ BK102.out 0
  have hfz24_1 := bf_ BK102.out 1
  have hfz24_2 := bf_ BK102.out 2
  try go_wp2
  refine bodyPost_ret (results_cell_row rfl _ _ gb102 27 #[.int .i64 a0_0, .int .i64 a0_1, .int .i64 (Go.bits .andNot .i64 a0_2 (ji5))] (0, 0) _ rfl (by refine blk_put (cs := #[.int .i64 a0_0, .int .i64 a0_1, .int .i64 0]) ?_ 2 _ rfl; refine blk_put (cs := #[.int .i64 a0_0, .int .i64 0, .int .i64 0]) ?_ 1 _ rfl; refine blk_put (cs := #[.int .i64 0, .int .i64 0, .int .i64 0]) ?_ 0 _ rfl; refine blk_far ?_ NB102_101.out _; exact BK102.out) Try.underlying27 rfl (by kernel_rfl)) rfl ?_
  exact ⟨by rfl, by repeat ((with_reducible first | exact HB.out | refine below_set ?_ GE101.out | refine below_set ?_ GE102.out))⟩

def impl_FullMaze.f (a0_0 : Int) (a0_1 : Int) : Option (Int × Int × Int) := (impl_GridOk.f a0_0 a0_1).bind fun t103 => (if t103 = true then ((impl_CountGaps.f a0_0 a0_1).bind fun t104 => (if 0 ≤ t104 then (some (a0_0, a0_1, wrap64 ((shl .i64 1 t104) - 1))) else (none))) else (some (0, 0, 0)))
set_option maxHeartbeats 8000000 in
set_option maxRecDepth 100000 in
theorem impl_FullMaze.calls (a0_0 : Int) (a0_1 : Int) (r1 : Int) (r2 : Int) (r3 : Int) (w : World) (h : impl_FullMaze.f a0_0 a0_1 = some (r1, r2, r3)) :
  Calls Try.prog 47 #[.agg #[.int .i64 a0_0, .int .i64 a0_1]] w fun e w' => e = .returned (.agg #[.int .i64 r1, .int .i64 r2, .int .i64 r3]) ∧ Below w.heap.size w w' := by
 have hu25 := Try.underlying25
 have hu27 := Try.underlying27
 have HB := A_ (Below.refl w.heap.size w)
 have H : ((impl_GridOk.f a0_0 a0_1).bind fun t103 => (if t103 = true then ((impl_CountGaps.f a0_0 a0_1).bind fun t104 => (if 0 ≤ t104 then (some (a0_0, a0_1, wrap64 ((shl .i64 1 t104) - 1))) else (none))) else (some (0, 0, 0)))) = some (r1, r2, r3) := h
 clear h
 obtain ⟨t103, A20, H⟩ := oB_ H
 (try dsimp only at H); have A2 := A_ A20; clear A20
 by_cases c3 : t103 = true
 ·subst c3
  rw [if_pos rfl] at H
  obtain ⟨t104, A40, H⟩ := oB_ H
  (try dsimp only at H); have A4 := A_ A40; clear A40
  replace H := iN_ H; obtain ⟨c5, H⟩ := H
  have c5b0 := eq_true c5
  have c5b1 : decide (0 ≤ t104) = true := decide_eq_true c5
  clear c5
  obtain ⟨ji6, hji6⟩ : ∃ j_ : Int, (shl .i64 1 t104) = j_ := ⟨_, rfl⟩
  replace H : (some (a0_0, a0_1, wrap64 ((ji6) - 1))) = some (r1, r2, r3) := by first | (rw [hji6] at H; exact H) | (simp only [hji6] at H ⊢; exact H)
  (try rw [hji6] at A2)
  (try rw [hji6] at A4)
  have hji6_ : (IntKind.i64.wrap (1 * 2 ^ min t104.toNat 64)) = ji6 := hji6
  have hji6z : t104 ≤ 64 → (IntKind.i64.wrap (1 * 2 ^ t104.toNat)) = ji6 := shl_small hji6
  have hji6u : (IntKind.i64.wrap (2 ^ min t104.toNat 64)) = ji6 := by have h_ := hji6_; rw [Int.one_mul] at h_; exact h_
  have hji6v : t104 ≤ 64 → (IntKind.i64.wrap (2 ^ t104.toNat)) = ji6 := fun hle_ => by have h_ := hji6z hle_; rw [Int.one_mul] at h_; exact h_
  have hji6y : (wrap64 (1 * 2 ^ min t104.toNat 64)) = ji6 := (i64_w _).symm.trans hji6_
  have hji6x : t104 ≤ 64 → (wrap64 (1 * 2 ^ t104.toNat)) = ji6 := fun h_ => (i64_w _).symm.trans (hji6z h_)
  simp only [Option.some.injEq, Prod.mk.injEq] at H
  obtain ⟨rfl, rfl, rfl⟩ := H
  go_enter Try.func47, Try.ntmps47
  try go_wp2_with (first | ((with_reducible refine gate_dst (N := 1) rfl ?_); refine box_event ?hg (N := 1) ?hd (cs := #[.int .i64 a0_0, .int .i64 a0_1]) (t := 25) ?hr ?_; (case hd => rfl); (case hg => rfl); (case hr => first | (go_simp; done) | (go_simp; rfl)); intro gb101 hg w7 hbox hb; have n0_ := A_ (below_step (by repeat first | exact HB.1 | apply bA_ | apply bB_ | apply bC_) hb); have n1_ := A_ (hbox); have n2_ := A_ ((by rw [hg]; exact (below_size (by repeat first | exact HB.1 | apply bA_ | apply bB_ | apply bC_)) : w.heap.size ≤ gb101)); have n3_ := n2_; clear HB; have HB := n0_; have BK101 := n1_; have GW101 := n2_; have GE101 := n3_; clear n0_ n1_ n2_ n3_ hb hbox hg) | ((with_reducible refine gate_dst (N := 2) rfl ?_); refine box_event ?hg (N := 2) ?hd (cs := #[.int .i64 0, .int .i64 0, .int .i64 0]) (t := 27) ?hr ?_; (case hd => rfl); (case hg => rfl); (case hr => first | (go_simp; done) | (go_simp; rfl)); intro gb102 hg w8 hbox hb; have n0_ := A_ (blk_below (g := gb101) (o := .cells #[.int .i64 a0_0, .int .i64 a0_1] 25 (0, 0)) (by (with_reducible repeat first | refine cA_ ?_ _ | refine cB_ ?_ | refine cC_ ?_ _); exact BK101.1) hb); have n1_ := A_ (below_step (by repeat first | exact HB.1 | apply bA_ | apply bB_ | apply bC_ | refine below_set ?_ GE101.out) hb); have n2_ := A_ (hbox); have n3_ := A_ ((by rw [hg]; exact (below_size (by repeat first | exact HB.1 | apply bA_ | apply bB_ | apply bC_ | refine below_set ?_ GE101.out)) : w.heap.size ≤ gb102)); have n4_ := n3_; have n5_ := A_ ((by rw [hg]; exact Nat.ne_of_lt (blk_lt (g := gb101) (o := .cells #[.int .i64 a0_0, .int .i64 a0_1] 25 (0, 0)) (by (with_reducible repeat first | refine cA_ ?_ _ | refine cB_ ?_ | refine cC_ ?_ _); exact BK101.1)) : gb101 ≠ gb102)); have n6_ := A_ ((by rw [hg]; exact Nat.ne_of_gt (blk_lt (g := gb101) (o := .cells #[.int .i64 a0_0, .int .i64 a0_1] 25 (0, 0)) (by (with_reducible repeat first | refine cA_ ?_ _ | refine cB_ ?_ | refine cC_ ?_ _); exact BK101.1)) : gb102 ≠ gb101)); clear BK101 HB; have BK101 := n0_; have HB := n1_; have BK102 := n2_; have GW102 := n3_; have GE102 := n4_; have NB101_102 := n5_; have NB102_101 := n6_; clear n0_ n1_ n2_ n3_ n4_ n5_ n6_ hb hbox hg; have hnb9 := NB101_102.out; have hnc9 := NB102_101.out; obtain ⟨hcz10_0, hcz10_1⟩ := kk2_ BK101.1; have hfz10_0 := bf_ BK101.out 0; have hfz10_1 := bf_ BK101.out 1) | ((with_reducible refine gate_callee (f := 82) rfl ?_); refine gl_ 4 Try.func82 #[.agg #[.int .i64 a0_0, .int .i64 a0_1]] ?_; (with_reducible refine (impl_GridOk.calls a0_0 a0_1 true _ A2.out).mono ?_); rintro e w11 ⟨rfl, hb⟩; refine ⟨_, rfl, ?_⟩; have n0_ := A_ (blk_below (g := gb101) (o := .cells #[.int .i64 a0_0, .int .i64 a0_1] 25 (0, 0)) (by (with_reducible repeat first | refine cA_ ?_ _ | refine cB_ ?_ | refine cC_ ?_ _); exact BK101.1) hb); have n1_ := A_ (blk_below (g := gb102) (o := .cells #[.int .i64 0, .int .i64 0, .int .i64 0] 27 (0, 0)) (by (with_reducible repeat first | refine cA_ ?_ _ | refine cB_ ?_ | refine cC_ ?_ _); exact BK102.1) hb); have n2_ := A_ (below_step (by repeat first | exact HB.1 | apply bA_ | apply bB_ | apply bC_ | refine below_set ?_ GE101.out | refine below_set ?_ GE102.out) hb); clear BK101 BK102 HB; have BK101 := n0_; have BK102 := n1_; have HB := n2_; clear n0_ n1_ n2_; (try clear hb); (try clear hk)))
  have n0_ := A_ (blk_drew BK101.out); have n1_ := A_ (blk_drew BK102.out); have n2_ := A_ (below_drew1 HB.out); clear BK101 BK102 HB; have BK101 := n0_; have BK102 := n1_; have HB := n2_; clear n0_ n1_ n2_
  refine start_ (n := 7) (S := fun w' => w'.cell? ⟨gb101, 0, none⟩ = some (.int .i64 a0_0) ∧ w'.cell? ⟨gb101, 1, none⟩ = some (.int .i64 a0_1)) (ds := []) #[false, false, false, false, false, false, false] (by kernel_rfl) rfl rfl ⟨(blk_cell BK101.out 0).trans rfl, (blk_cell BK101.out 1).trans rfl⟩ (fun hHeld => ?_)
  generalize w11.drew = w12 at BK101 BK102 HB hHeld ⊢
  refine take_ (i := 0) (N := some 7) (v := ?_) (a' := ?_) #[true, false, false, false, false, false, false] rfl rfl (by kernel_rfl) (fun _ _ _ h => h) (Or.inl ⟨by rfl, ?_⟩) hHeld ?_ ?_; rotate_left; (rintro w' ⟨s0, s1⟩; go_simp; with_reducible rfl); rotate_left; (simp only [P6_]; rfl)
  refine take_ (i := 1) (N := some 8) (v := ?_) (a' := ?_) #[true, true, false, false, false, false, false] rfl rfl (by kernel_rfl) (fun _ _ _ h => h) (Or.inl ⟨by rfl, ?_⟩) hHeld ?_ ?_; rotate_left; (rintro w' ⟨s0, s1⟩; go_simp; with_reducible rfl); rotate_left; (simp only [P6_]; rfl)
  refine one_ (i := 2) (N := some 9) #[true, true, true, false, false, false, false] rfl rfl (by kernel_rfl) (by decide) (fun K hK => ?_)
  refine gs_ Try.func74 #[.agg #[.int .i64 a0_0, .int .i64 a0_1]] ?_
  with_reducible refine (impl_CountGaps.calls a0_0 a0_1 t104 _ A4.out).mono ?_
  rintro e w13 ⟨rfl, hb⟩
  refine ⟨_, rfl, ?_⟩
  have n0_ := A_ (blk_below (g := gb101) (o := .cells #[.int .i64 a0_0, .int .i64 a0_1] 25 (0, 0)) (by (with_reducible repeat first | refine cA_ ?_ _ | refine cB_ ?_ | refine cC_ ?_ _); exact BK101.1) hb)
  have n1_ := A_ (blk_below (g := gb102) (o := .cells #[.int .i64 0, .int .i64 0, .int .i64 0] 27 (0, 0)) (by (with_reducible repeat first | refine cA_ ?_ _ | refine cB_ ?_ | refine cC_ ?_ _); exact BK102.1) hb)
  have n2_ := A_ (below_step (by repeat first | exact HB.1 | apply bA_ | apply bB_ | apply bC_ | refine below_set ?_ GE101.out | refine below_set ?_ GE102.out) hb)
  clear BK101 BK102 HB; have BK101 := n0_; have BK102 := n1_; have HB := n2_; clear n0_ n1_ n2_; (try clear hb); (try clear hk)
  refine hK.out _ _ ⟨(blk_cell BK101.out 0).trans rfl, (blk_cell BK101.out 1).trans rfl⟩ (fun hHeld => ?_)
  clear hK K
  refine norm_ (a' := ?_) ?_ ?_; rotate_left; (show Act.put _ (some 9) _ = _; simp only [P6_]; rfl)
  refine pure_ (i := 3) (N := some 10) (v := ?_) (a' := ?_) #[true, true, true, true, false, false, false] rfl rfl (by kernel_rfl) (fun _ _ _ h => h) (Or.inl ⟨by rfl, ?_⟩) ?_ ?_; rotate_left; (intro w'; go_simp; with_reducible rfl); rotate_left; (simp only [P6_]; rfl)
  refine pure_ (i := 4) (N := some 11) (v := ?_) (a' := ?_) #[true, true, true, true, true, false, false] rfl rfl (by kernel_rfl) (fun _ _ _ h => h) (Or.inl ⟨by rfl, ?_⟩) ?_ ?_; rotate_left; (intro w'; go_simp; with_reducible rfl); rotate_left; (simp only [P6_]; rfl)
  refine pure_ (i := 5) (N := some 12) (v := ?_) (a' := ?_) #[true, true, true, true, true, true, false] rfl rfl (by kernel_rfl) (fun _ _ _ h => h) (Or.inl ⟨by rfl, ?_⟩) ?_ ?_; rotate_left; (intro w'; go_simp; with_reducible rfl); rotate_left; (simp only [P6_]; rfl)
  refine one_ (i := 6) (N := none) #[true, true, true, true, true, true, true] rfl rfl (by kernel_rfl) (by decide) (fun K hK => ?_)
  have hs14 : w13.cell? ⟨gb102, 0, none⟩ = some (.int .i64 0) := (blk_cell BK102.out 0).trans rfl
  have hfs14 := bf_ BK102.out 0
  have hns14_0 := NB101_102.out
  have hms14_0 := NB102_101.out
  have hs15 : w13.cell? ⟨gb102, 1, none⟩ = some (.int .i64 0) := (blk_cell BK102.out 1).trans rfl
  have hfs15 := bf_ BK102.out 1
  have hns15_0 := NB101_102.out
  have hms15_0 := NB102_101.out
  have hs16 : w13.cell? ⟨gb102, 2, none⟩ = some (.int .i64 0) := (blk_cell BK102.out 2).trans rfl
  have hfs16 := bf_ BK102.out 2
  have hns16_0 := NB101_102.out
  have hms16_0 := NB102_101.out
  refine skip_ (w1 := ?_) (by rfl) rfl ?_ ?_
  rotate_left
  ·go_simp
   rfl
  refine hK.out _ _ ⟨((cell_far (p := ⟨gb102, _, none⟩) NB101_102.out _).trans (((cell_far (p := ⟨gb102, _, none⟩) NB101_102.out _).trans (((cell_far (p := ⟨gb102, _, none⟩) NB101_102.out _).trans (hHeld.1)))))), ((cell_far (p := ⟨gb102, _, none⟩) NB101_102.out _).trans (((cell_far (p := ⟨gb102, _, none⟩) NB101_102.out _).trans (((cell_far (p := ⟨gb102, _, none⟩) NB101_102.out _).trans (hHeld.2))))))⟩ (fun hHeld => ?_)
  clear hK K
  refine done_ (by kernel_rfl) ?_
  try go_wp2
  refine bodyPost_ret (results_cell_row rfl _ _ gb102 27 #[.int .i64 a0_0, .int .i64 a0_1, .int .i64 (wrap64 ((ji6) - 1))] (0, 0) _ rfl (by (with_reducible repeat (first | refine blk_drewN ?_ _ | refine blk_drew ?_ | refine blk_alloc ?_ _)); refine blk_put (cs := #[.int .i64 a0_0, .int .i64 a0_1, .int .i64 0]) ?_ 2 _ rfl; (with_reducible repeat (first | refine blk_drewN ?_ _ | refine blk_drew ?_ | refine blk_alloc ?_ _)); refine blk_put (cs := #[.int .i64 a0_0, .int .i64 0, .int .i64 0]) ?_ 1 _ rfl; (with_reducible repeat (first | refine blk_drewN ?_ _ | refine blk_drew ?_ | refine blk_alloc ?_ _)); refine blk_put (cs := #[.int .i64 0, .int .i64 0, .int .i64 0]) ?_ 0 _ rfl; (with_reducible repeat (first | refine blk_drewN ?_ _ | refine blk_drew ?_ | refine blk_alloc ?_ _)); exact BK102.out) Try.underlying27 rfl (by kernel_rfl)) rfl ?_
  exact ⟨by first | rfl | (simp [errW_none, errW_some] <;> rfl) | (simp only [← hji6]; first | rfl | (simp [errW_none, errW_some] <;> rfl)) | (simp [*, errW_none, errW_some] <;> rfl), by repeat (first | (with_reducible first | exact HB.out | apply below_alloc | apply pw_below_drewN | apply below_drew1 | refine below_set ?_ GE101.out | refine below_set ?_ GE102.out) | exact HB.out)⟩
 ·replace c3 := Bool.eq_false_iff.mpr c3
  subst c3
  have H1 : (some (0, 0, 0)) = some (r1, r2, r3) := by rw [if_neg (show ¬ (false = true) by decide)] at H; exact H
  clear H
  have H := H1
  clear H1
  simp only [Option.some.injEq, Prod.mk.injEq] at H
  obtain ⟨rfl, rfl, rfl⟩ := H
  go_enter Try.func47, Try.ntmps47
  go_wp2_with (first | ((with_reducible refine gate_dst (N := 1) rfl ?_); refine box_event ?hg (N := 1) ?hd (cs := #[.int .i64 a0_0, .int .i64 a0_1]) (t := 25) ?hr ?_; (case hd => rfl); (case hg => rfl); (case hr => first | (go_simp; done) | (go_simp; rfl)); intro gb101 hg w17 hbox hb; have n0_ := A_ (below_step (by repeat first | exact HB.1 | apply bA_ | apply bB_ | apply bC_) hb); have n1_ := A_ (hbox); have n2_ := A_ ((by rw [hg]; exact (below_size (by repeat first | exact HB.1 | apply bA_ | apply bB_ | apply bC_)) : w.heap.size ≤ gb101)); have n3_ := n2_; clear HB; have HB := n0_; have BK101 := n1_; have GW101 := n2_; have GE101 := n3_; clear n0_ n1_ n2_ n3_ hb hbox hg) | ((with_reducible refine gate_dst (N := 2) rfl ?_); refine box_event ?hg (N := 2) ?hd (cs := #[.int .i64 0, .int .i64 0, .int .i64 0]) (t := 27) ?hr ?_; (case hd => rfl); (case hg => rfl); (case hr => first | (go_simp; done) | (go_simp; rfl)); intro gb102 hg w18 hbox hb; have n0_ := A_ (blk_below (g := gb101) (o := .cells #[.int .i64 a0_0, .int .i64 a0_1] 25 (0, 0)) (by (with_reducible repeat first | refine cA_ ?_ _ | refine cB_ ?_ | refine cC_ ?_ _); exact BK101.1) hb); have n1_ := A_ (below_step (by repeat first | exact HB.1 | apply bA_ | apply bB_ | apply bC_ | refine below_set ?_ GE101.out) hb); have n2_ := A_ (hbox); have n3_ := A_ ((by rw [hg]; exact (below_size (by repeat first | exact HB.1 | apply bA_ | apply bB_ | apply bC_ | refine below_set ?_ GE101.out)) : w.heap.size ≤ gb102)); have n4_ := n3_; have n5_ := A_ ((by rw [hg]; exact Nat.ne_of_lt (blk_lt (g := gb101) (o := .cells #[.int .i64 a0_0, .int .i64 a0_1] 25 (0, 0)) (by (with_reducible repeat first | refine cA_ ?_ _ | refine cB_ ?_ | refine cC_ ?_ _); exact BK101.1)) : gb101 ≠ gb102)); have n6_ := A_ ((by rw [hg]; exact Nat.ne_of_gt (blk_lt (g := gb101) (o := .cells #[.int .i64 a0_0, .int .i64 a0_1] 25 (0, 0)) (by (with_reducible repeat first | refine cA_ ?_ _ | refine cB_ ?_ | refine cC_ ?_ _); exact BK101.1)) : gb102 ≠ gb101)); clear BK101 HB; have BK101 := n0_; have HB := n1_; have BK102 := n2_; have GW102 := n3_; have GE102 := n4_; have NB101_102 := n5_; have NB102_101 := n6_; clear n0_ n1_ n2_ n3_ n4_ n5_ n6_ hb hbox hg; have hnb19 := NB101_102.out; have hnc19 := NB102_101.out; obtain ⟨hcz20_0, hcz20_1⟩ := kk2_ BK101.1; have hfz20_0 := bf_ BK101.out 0; have hfz20_1 := bf_ BK101.out 1) | ((with_reducible refine gate_callee (f := 82) rfl ?_); refine gl_ 4 Try.func82 #[.agg #[.int .i64 a0_0, .int .i64 a0_1]] ?_; (with_reducible refine (impl_GridOk.calls a0_0 a0_1 false _ A2.out).mono ?_); rintro e w21 ⟨rfl, hb⟩; refine ⟨_, rfl, ?_⟩; have n0_ := A_ (blk_below (g := gb101) (o := .cells #[.int .i64 a0_0, .int .i64 a0_1] 25 (0, 0)) (by (with_reducible repeat first | refine cA_ ?_ _ | refine cB_ ?_ | refine cC_ ?_ _); exact BK101.1) hb); have n1_ := A_ (blk_below (g := gb102) (o := .cells #[.int .i64 0, .int .i64 0, .int .i64 0] 27 (0, 0)) (by (with_reducible repeat first | refine cA_ ?_ _ | refine cB_ ?_ | refine cC_ ?_ _); exact BK102.1) hb); have n2_ := A_ (below_step (by repeat first | exact HB.1 | apply bA_ | apply bB_ | apply bC_ | refine below_set ?_ GE101.out | refine below_set ?_ GE102.out) hb); clear BK101 BK102 HB; have BK101 := n0_; have BK102 := n1_; have HB := n2_; clear n0_ n1_ n2_; (try clear hb); (try clear hk); obtain ⟨hcz22_0, hcz22_1, hcz22_2⟩ := kk3_ BK102.1; have hfz22_0 := bf_ BK102.out 0; have hfz22_1 := bf_ BK102.out 1; have hfz22_2 := bf_ BK102.out 2))
  refine bodyPost_ret (results_cell_row rfl _ _ gb102 27 #[.int .i64 0, .int .i64 0, .int .i64 0] (0, 0) _ rfl (by (with_reducible repeat (first | refine blk_drewN ?_ _ | refine blk_drew ?_ | refine blk_alloc ?_ _)); refine blk_put (cs := #[.int .i64 0, .int .i64 0, .int .i64 0]) ?_ 2 _ rfl; (with_reducible repeat (first | refine blk_drewN ?_ _ | refine blk_drew ?_ | refine blk_alloc ?_ _)); refine blk_put (cs := #[.int .i64 0, .int .i64 0, .int .i64 0]) ?_ 1 _ rfl; (with_reducible repeat (first | refine blk_drewN ?_ _ | refine blk_drew ?_ | refine blk_alloc ?_ _)); refine blk_put (cs := #[.int .i64 0, .int .i64 0, .int .i64 0]) ?_ 0 _ rfl; (with_reducible repeat (first | refine blk_drewN ?_ _ | refine blk_drew ?_ | refine blk_alloc ?_ _)); exact BK102.out) Try.underlying27 rfl (by kernel_rfl)) rfl ?_
  exact ⟨by first | rfl | (simp [errW_none, errW_some] <;> rfl) | (simp [*, errW_none, errW_some] <;> rfl), by repeat (first | (with_reducible first | exact HB.out | apply below_alloc | apply pw_below_drewN | apply below_drew1 | refine below_set ?_ GE101.out | refine below_set ?_ GE102.out) | exact HB.out)⟩

end Go.Proofs.Ytbeajmcjfhbcjaa.P
